/- Texts put together: Rd14, Rd15, Hd1, Hd2, Rd9, Rd16. -/
import Derived.Test.YtbeeaikilcnpgaaGreatDoorQc2
import Derived.Deep.DeepCutAuto
set_option linter.unusedVariables false
set_option linter.unusedSimpArgs false
set_option maxHeartbeats 25600000
namespace Go.Proofs.YtbeeaikilcnpgaaGreatDoor.Exp
open Go.RowKit Go.Proofs.YtbeeaikilcnpgaaGreatDoor.Base Go.Proofs.YtbeeaikilcnpgaaGreatDoor.App Go.Proofs.YtbeeaikilcnpgaaGreatDoor.Byt Go.Proofs.YtbeeaikilcnpgaaGreatDoor.Lex
theorem isGo_sign : IsGo 83 := isGo_of Tryz.func83 (by kernel_rfl) rfl
theorem isGo_or1 : IsGo 84 := isGo_of Tryz.func84 (by kernel_rfl) rfl
def CatK (R : Nat) (cap : Array Value) (w : World) : Prop := ∃ cap0 cap1, ChainAt R 83 #[.pointer (some ⟨R, 0, none⟩)] #[] sgProd cap0 w ∧ ChainAt R 99 #[] cap0 sgSum cap1 w ∧ ChainAt R 99 #[] cap1 sgCat cap w
theorem catK_stays (R : Nat) (cap : Array Value) : Stays R (CatK R cap) := fun w w' hf ⟨cap0, cap1, h0, h1, h2⟩ => ⟨cap0, cap1, h0.fr hf, h1.fr hf, h2.fr hf⟩
theorem opOK_part {F : FuncId} {R : Nat} {A : Option Addr} {m c : Nat} {l : Toks} {f : Nat → Res Ex} {d : Nat} (h : PartOK F R A m c l f d) (w : World) : OpOK F #[.pointer (some ⟨R, 0, none⟩)] R A m c l f d w := fun w' _ i hr => h w' i hr
theorem catK_op {nm : List UInt8 → Bool} {R : Nat} {A : Option Addr} {m c : Nat} {l : Toks} {sub : Option PF} {d : Nat} {cap : Array Value} {w : World} (h : CatK R cap w) (hnear : Near l) (hah : ∀ p, sub = some p → Ahds p) (hsign : PartOK 83 R A m c l (signP nm l sub) d) : OpOK 99 cap R A m c l (catP nm l sub) d w := by
  obtain ⟨cap0, cap1, h0, h1, h2⟩ := h
  have o0 : OpOK 99 cap0 R A m c l (prodP nm l sub) d w := h0.op sgProd_ok isGo_sign hnear (signP_ahd hah) (by rw [Array.append_empty]; exact opOK_part hsign w)
  have o1 : OpOK 99 cap1 R A m c l (sumP nm l sub) d w := h1.op sgSum_ok isGo_chain hnear (prodP_ahd hah) (by rw [Array.empty_append]; exact o0)
  exact h2.op sgCat_ok isGo_chain hnear (sumP_ahd hah) (by rw [Array.empty_append]; exact o1)
structure OrW (b1 b2 g : Nat) (R : Nat) (v0 v1 v2 v3 v4 : Value) (w : World) : Prop where
  p1 : w.heap[b1]? = some (.cells #[.pointer (some ⟨R, 0, none⟩)] 91 (0, 0))
  z : w.heap[b2]? = some (.cells #[.int .i64 0, .int .i64 0, .int .i64 0, .int .i64 0, .string ⟨#[]⟩, .string ⟨#[]⟩, .string ⟨#[]⟩, .int .i64 0, .int .i64 0, .slice none 0 0] 26 (0, 0))
  p3 : w.heap[g]? = some (.cells #[v0, v1, v2, v3, v4] 115 (0, 0))
  s0 : SgA w sgOr v0
  s1 : SgA w sgAnd v1
  s2 : SgA w sgCat v2
  s3 : SgA w sgSum v3
  s4 : SgA w sgProd v4
theorem OrW.below {b1 b2 g R : Nat} {v0 v1 v2 v3 v4 : Value} {w w' : World} (h : OrW b1 b2 g R v0 v1 v2 v3 v4 w) (hb : Below w.heap.size w w') : OrW b1 b2 g R v0 v1 v2 v3 v4 w' :=
  ⟨blk_below hb h.p1, blk_below hb h.z, blk_below hb h.p3, h.s0.below hb, h.s1.below hb, h.s2.below hb, h.s3.below hb, h.s4.below hb⟩
theorem keep2 {b1 b2 g R : Nat} {v0 v1 v2 v3 v4 : Value} {w : World} (h : OrW b1 b2 g R v0 v1 v2 v3 v4 w) : w.cell? ⟨b1, 0, none⟩ = some (.pointer (some ⟨R, 0, none⟩)) ∧ w.cell? ⟨g, 2, none⟩ = some v2 ∧ w.cell? ⟨g, 3, none⟩ = some v3 ∧ w.cell? ⟨g, 4, none⟩ = some v4 :=
  ⟨(blk_cell h.p1 0).trans rfl, (blk_cell h.p3 2).trans rfl, (blk_cell h.p3 3).trans rfl, (blk_cell h.p3 4).trans rfl⟩
theorem keep4 {b1 b2 g R : Nat} {v0 v1 v2 v3 v4 : Value} {w : World} (h : OrW b1 b2 g R v0 v1 v2 v3 v4 w) : w.cell? ⟨b1, 0, none⟩ = some (.pointer (some ⟨R, 0, none⟩)) ∧ w.cell? ⟨g, 0, none⟩ = some v0 ∧ w.cell? ⟨g, 1, none⟩ = some v1 :=
  ⟨(blk_cell h.p1 0).trans rfl, (blk_cell h.p3 0).trans rfl, (blk_cell h.p3 1).trans rfl⟩
theorem keep4S {b1 g R : Nat} {v0 v1 : Value} {w w' : World} {S : Nat → Prop} (h : w.cell? ⟨b1, 0, none⟩ = some (.pointer (some ⟨R, 0, none⟩)) ∧ w.cell? ⟨g, 0, none⟩ = some v0 ∧ w.cell? ⟨g, 1, none⟩ = some v1) (hf : Fr S w w') (h1 : ¬ S b1) (h2 : ¬ S g) : w'.cell? ⟨b1, 0, none⟩ = some (.pointer (some ⟨R, 0, none⟩)) ∧ w'.cell? ⟨g, 0, none⟩ = some v0 ∧ w'.cell? ⟨g, 1, none⟩ = some v1 :=
  ⟨cell_frS hf h1 h.1, cell_frS hf h2 h.2.1, cell_frS hf h2 h.2.2⟩
theorem cellsT_ne {W : World} {a b : Nat} {c1 c2 : Array Value} {t1 t2 : TypeId} {f1 f2 : Nat × Nat} (h1 : W.heap[a]? = some (.cells c1 t1 f1)) (h2 : W.heap[b]? = some (.cells c2 t2 f2)) (h : c1.size ≠ c2.size) : a ≠ b := by
  rintro rfl
  rw [h1] at h2
  injection h2 with h2
  injection h2 with h2
  exact h (by rw [h2])
theorem OrW.store {b1 b2 g R : Nat} {v0 v1 v2 v3 v4 : Value} {w : World} (h : OrW b1 b2 g R v0 v1 v2 v3 v4 w) {b : Nat} {u v : Value} (hb : w.heap[b]? = some (.cells #[u] 94 (0, 0))) : OrW b1 b2 g R v0 v1 v2 v3 v4 (w.setCell ⟨b, 0, none⟩ v) := by
  have hf := Fr.setCell (S := fun k => k = b) (Fr.refl _ w) (p := ⟨b, 0, none⟩) rfl v
  have sg : ∀ {ops : List Sg} {x : Value}, SgA w ops x → SgA (w.setCell ⟨b, 0, none⟩ v) ops x := by
    intro ops x hx
    obtain ⟨g', c', rfl, hc⟩ := hx
    refine ⟨g', c', rfl, fun i hi => ?_⟩
    obtain ⟨p, q, r⟩ := hc i hi
    have hg : ¬ g' = b := by
      rintro rfl
      rw [blk_cell hb] at q
      simp at q
    exact ⟨cell_frS hf hg p, cell_frS hf hg q, cell_frS hf hg r⟩
  have n1 : ¬ b1 = b := by
    rintro rfl
    have := h.p1
    rw [hb] at this
    simp at this
  have n2 : ¬ b2 = b := cellsT_ne h.z hb (by simp)
  have n3 : ¬ g = b := cellsT_ne h.p3 hb (by simp)
  exact ⟨blk_fr h.p1 hf n1, blk_fr h.z hf n2, blk_fr h.p3 hf n3, sg h.s0, sg h.s1, sg h.s2, sg h.s3, sg h.s4⟩
theorem keep4F {b1 b2 g R : Nat} {v0 v1 v2 v3 v4 : Value} {w w' : World} (h : OrW b1 b2 g R v0 v1 v2 v3 v4 w) (hf : Fr (fun k => k = R) w w') (h1 : ¬ b1 = R) (h2 : ¬ g = R) : w'.cell? ⟨b1, 0, none⟩ = some (.pointer (some ⟨R, 0, none⟩)) ∧ w'.cell? ⟨g, 0, none⟩ = some v0 ∧ w'.cell? ⟨g, 1, none⟩ = some v1 :=
  keep4S (keep4 h) hf h1 h2
set_option maxRecDepth 100000 in
theorem or_calls (nm : List UInt8 → Bool) (sub : Option PF) (R : Nat) (A : Option Addr) (m c : Nat) (l : Toks) (i d : Nat) (w : World) (hnear : Near l)
    (hah : ∀ p, sub = some p → Ahds p) (hnot : ∀ cap, PartK 85 cap (CatK R cap) R A m c l (notP nm l sub) d) (h : RdW w R A m c l i d) :
    Calls Tryz.prog 59 #[.pointer (some ⟨R, 0, none⟩)] w (Got R A m c l d w (orP nm l sub i)) := by
  have HH := Asd.mk h
  have HNT := Asd.mk hnot
  have HNE := Asd.mk hnear
  have HAH := Asd.mk hah
  have hmf := mk_func
  have hst := st_func
  have HBA := Asd.mk (below_alloc (below_alloc (Below.refl _ w) (.cells #[.pointer (some ⟨R, 0, none⟩)] 91 (0, 0))) (.cells #[.int .i64 0, .int .i64 0, .int .i64 0, .int .i64 0, .string ⟨#[]⟩, .string ⟨#[]⟩, .string ⟨#[]⟩, .int .i64 0, .int .i64 0, .slice none 0 0] 26 (0, 0)))
  have HP1 := Asd.mk (blk_alloc (blk_new w (.cells #[.pointer (some ⟨R, 0, none⟩)] 91 (0, 0))) (.cells #[.int .i64 0, .int .i64 0, .int .i64 0, .int .i64 0, .string ⟨#[]⟩, .string ⟨#[]⟩, .string ⟨#[]⟩, .int .i64 0, .int .i64 0, .slice none 0 0] 26 (0, 0)))
  have HZ0 := Asd.mk (nb1 w (.cells #[.pointer (some ⟨R, 0, none⟩)] 91 (0, 0)) (.cells #[.int .i64 0, .int .i64 0, .int .i64 0, .int .i64 0, .string ⟨#[]⟩, .string ⟨#[]⟩, .string ⟨#[]⟩, .int .i64 0, .int .i64 0, .slice none 0 0] 26 (0, 0)))
  have HRW : Asd (R < w.heap.size) := Asd.mk (blk_lt h.blk)
  clear h hnot hnear hah
  go_enter Tryz.func59, Tryz.ntmps59
  go_wp2_with fail
  generalize (w.alloc (.cells #[.pointer (some ⟨R, 0, none⟩)] 91 (0, 0))).alloc (.cells #[.int .i64 0, .int .i64 0, .int .i64 0, .int .i64 0, .string ⟨#[]⟩, .string ⟨#[]⟩, .string ⟨#[]⟩, .int .i64 0, .int .i64 0, .slice none 0 0] 26 (0, 0)) = w0 at HBA HP1 HZ0 ⊢
  refine (lines_calls w0).mono ?_
  rintro e w1 ⟨⟨g, cg, rfl, hg, v0, v1, v2, v3, v4, hg5, hs0, hs1, hs2, hs3, hs4⟩, hb1⟩
  have HB1 : Asd (Below w.heap.size w w1) := Asd.mk (HBA.out.trans (hb1.mono HBA.out.size))
  have HW1 : Asd (OrW w.heap.size (w.heap.size + 1) g R v0 v1 v2 v3 v4 w1) := Asd.mk ⟨blk_below hb1 HP1.out, blk_below hb1 HZ0.out, hg5, hs0, hs1, hs2, hs3, hs4⟩
  clear hb1 hg hg5 hs0 hs1 hs2 hs3 hs4 HBA HP1 HZ0
  go_upto_region 2 with fail
  go_cut [4] (fun s4 wx => ∃ (b4 : Nat) (cap' : Array Value), s4 = .pointer (some ⟨b4, 0, none⟩) ∧ Asd (wx.heap[b4]? = some (.cells #[.func (.func 99) #[] cap'] 94 (0, 0))) ∧ Asd (Below w.heap.size w wx) ∧ Asd (OrW w.heap.size (w.heap.size + 1) g R v0 v1 v2 v3 v4 wx) ∧ Asd (CatK R cap' wx) ∧ Asd (w.heap.size ≤ b4))
  case first =>
    have HWD : Asd (OrW w.heap.size (w.heap.size + 1) g R v0 v1 v2 v3 v4 w1.drew) := Asd.mk (HW1.out.below (below_drewN' w1 1))
    have HBD : Asd (Below w.heap.size w w1.drew) := Asd.mk HB1.out.drew
    refine wp_region_held_drew (S := fun w' => w'.cell? ⟨w.heap.size, 0, none⟩ = some (.pointer (some ⟨R, 0, none⟩)) ∧ w'.cell? ⟨g, 2, none⟩ = some v2 ∧ w'.cell? ⟨g, 3, none⟩ = some v3 ∧ w'.cell? ⟨g, 4, none⟩ = some v4) (by kernel_rfl) (keep2 HWD.out) (fun hHeld => ?_)
    generalize w1.drew = wd at HWD HBD hHeld ⊢
    refine wpAnyH_take (i := 0) (oi := ({ dst := some 7, op := Op.load 91 (Operand.tmp 1), type := 91, pos := "expr.go:135", after := #[], guard := none } : Oper)) (v := ?va0) rfl (by kernel_rfl) (by kernel_rfl) (by kernel_rfl) (fun _ _ _ h => h) (Or.inl ⟨by rfl, ?ha0⟩) (by assumption) ?ra0
    case ha0 => (intro w hSw; (try dsimp only at hSw); obtain ⟨g0, g1, g2, g3⟩ := hSw; go_simp; try (with_reducible rfl))
    try simp only [Act.put, List.setIfInBounds_toArray, List.set_cons_zero, List.set_cons_succ]
    refine wpAnyH_take (i := 1) (oi := ({ dst := some 8, op := Op.move (Operand.tmp 3), type := 112, pos := "expr.go:135", after := #[], guard := none } : Oper)) (v := ?va1) rfl (by kernel_rfl) (by kernel_rfl) (by kernel_rfl) (fun _ _ _ h => h) (Or.inl ⟨by rfl, ?ha1⟩) (by assumption) ?ra1
    case ha1 => (intro w hSw; (try dsimp only at hSw); obtain ⟨g0, g1, g2, g3⟩ := hSw; go_simp; try (with_reducible rfl))
    try simp only [Act.put, List.setIfInBounds_toArray, List.set_cons_zero, List.set_cons_succ]
    refine wpAnyH_take (i := 2) (oi := ({ dst := some 9, op := Op.indexAddr 112 (Operand.tmp 8) (Operand.const (Value.int IntKind.i64 2)), type := 0, pos := "expr.go:135", after := #[{ on := 1, ground := Ground.data }], guard := none } : Oper)) (v := ?va2) rfl (by kernel_rfl) (by kernel_rfl) (by kernel_rfl) (fun _ _ _ h => h) (Or.inl ⟨by rfl, ?ha2⟩) (by assumption) ?ra2
    case ha2 => (intro w hSw; (try dsimp only at hSw); obtain ⟨g0, g1, g2, g3⟩ := hSw; go_simp; try (with_reducible rfl))
    try simp only [Act.put, List.setIfInBounds_toArray, List.set_cons_zero, List.set_cons_succ]
    refine wpAnyH_take (i := 3) (oi := ({ dst := some 10, op := Op.load 115 (Operand.tmp 9), type := 115, pos := "expr.go:135", after := #[{ on := 2, ground := Ground.data }], guard := none } : Oper)) (v := ?va3) rfl (by kernel_rfl) (by kernel_rfl) (by kernel_rfl) (fun _ _ _ h => h) (Or.inl ⟨by rfl, ?ha3⟩) (by assumption) ?ra3
    case ha3 => (intro w hSw; (try dsimp only at hSw); obtain ⟨g0, g1, g2, g3⟩ := hSw; go_simp; try (with_reducible rfl))
    try simp only [Act.put, List.setIfInBounds_toArray, List.set_cons_zero, List.set_cons_succ]
    refine wpAnyH_take (i := 4) (oi := ({ dst := some 11, op := Op.load 91 (Operand.tmp 1), type := 91, pos := "expr.go:135", after := #[], guard := none } : Oper)) (v := ?va4) rfl (by kernel_rfl) (by kernel_rfl) (by kernel_rfl) (fun _ _ _ h => h) (Or.inl ⟨by rfl, ?ha4⟩) (by assumption) ?ra4
    case ha4 => (intro w hSw; (try dsimp only at hSw); obtain ⟨g0, g1, g2, g3⟩ := hSw; go_simp; try (with_reducible rfl))
    try simp only [Act.put, List.setIfInBounds_toArray, List.set_cons_zero, List.set_cons_succ]
    refine wpAnyH_take (i := 5) (oi := ({ dst := some 12, op := Op.move (Operand.tmp 3), type := 112, pos := "expr.go:135", after := #[], guard := none } : Oper)) (v := ?va5) rfl (by kernel_rfl) (by kernel_rfl) (by kernel_rfl) (fun _ _ _ h => h) (Or.inl ⟨by rfl, ?ha5⟩) (by assumption) ?ra5
    case ha5 => (intro w hSw; (try dsimp only at hSw); obtain ⟨g0, g1, g2, g3⟩ := hSw; go_simp; try (with_reducible rfl))
    try simp only [Act.put, List.setIfInBounds_toArray, List.set_cons_zero, List.set_cons_succ]
    refine wpAnyH_take (i := 6) (oi := ({ dst := some 13, op := Op.indexAddr 112 (Operand.tmp 12) (Operand.const (Value.int IntKind.i64 3)), type := 0, pos := "expr.go:135", after := #[{ on := 5, ground := Ground.data }], guard := none } : Oper)) (v := ?va6) rfl (by kernel_rfl) (by kernel_rfl) (by kernel_rfl) (fun _ _ _ h => h) (Or.inl ⟨by rfl, ?ha6⟩) (by assumption) ?ra6
    case ha6 => (intro w hSw; (try dsimp only at hSw); obtain ⟨g0, g1, g2, g3⟩ := hSw; go_simp; try (with_reducible rfl))
    try simp only [Act.put, List.setIfInBounds_toArray, List.set_cons_zero, List.set_cons_succ]
    refine wpAnyH_take (i := 7) (oi := ({ dst := some 14, op := Op.load 115 (Operand.tmp 13), type := 115, pos := "expr.go:135", after := #[{ on := 6, ground := Ground.data }], guard := none } : Oper)) (v := ?va7) rfl (by kernel_rfl) (by kernel_rfl) (by kernel_rfl) (fun _ _ _ h => h) (Or.inl ⟨by rfl, ?ha7⟩) (by assumption) ?ra7
    case ha7 => (intro w hSw; (try dsimp only at hSw); obtain ⟨g0, g1, g2, g3⟩ := hSw; go_simp; try (with_reducible rfl))
    try simp only [Act.put, List.setIfInBounds_toArray, List.set_cons_zero, List.set_cons_succ]
    refine wpAnyH_take (i := 8) (oi := ({ dst := some 15, op := Op.load 91 (Operand.tmp 1), type := 91, pos := "expr.go:135", after := #[], guard := none } : Oper)) (v := ?va8) rfl (by kernel_rfl) (by kernel_rfl) (by kernel_rfl) (fun _ _ _ h => h) (Or.inl ⟨by rfl, ?ha8⟩) (by assumption) ?ra8
    case ha8 => (intro w hSw; (try dsimp only at hSw); obtain ⟨g0, g1, g2, g3⟩ := hSw; go_simp; try (with_reducible rfl))
    try simp only [Act.put, List.setIfInBounds_toArray, List.set_cons_zero, List.set_cons_succ]
    refine wpAnyH_take (i := 9) (oi := ({ dst := some 16, op := Op.move (Operand.tmp 3), type := 112, pos := "expr.go:135", after := #[], guard := none } : Oper)) (v := ?va9) rfl (by kernel_rfl) (by kernel_rfl) (by kernel_rfl) (fun _ _ _ h => h) (Or.inl ⟨by rfl, ?ha9⟩) (by assumption) ?ra9
    case ha9 => (intro w hSw; (try dsimp only at hSw); obtain ⟨g0, g1, g2, g3⟩ := hSw; go_simp; try (with_reducible rfl))
    try simp only [Act.put, List.setIfInBounds_toArray, List.set_cons_zero, List.set_cons_succ]
    refine wpAnyH_take (i := 10) (oi := ({ dst := some 17, op := Op.indexAddr 112 (Operand.tmp 16) (Operand.const (Value.int IntKind.i64 4)), type := 0, pos := "expr.go:135", after := #[{ on := 9, ground := Ground.data }], guard := none } : Oper)) (v := ?va10) rfl (by kernel_rfl) (by kernel_rfl) (by kernel_rfl) (fun _ _ _ h => h) (Or.inl ⟨by rfl, ?ha10⟩) (by assumption) ?ra10
    case ha10 => (intro w hSw; (try dsimp only at hSw); obtain ⟨g0, g1, g2, g3⟩ := hSw; go_simp; try (with_reducible rfl))
    try simp only [Act.put, List.setIfInBounds_toArray, List.set_cons_zero, List.set_cons_succ]
    refine wpAnyH_take (i := 11) (oi := ({ dst := some 18, op := Op.load 115 (Operand.tmp 17), type := 115, pos := "expr.go:135", after := #[{ on := 10, ground := Ground.data }], guard := none } : Oper)) (v := ?va11) rfl (by kernel_rfl) (by kernel_rfl) (by kernel_rfl) (fun _ _ _ h => h) (Or.inl ⟨by rfl, ?ha11⟩) (by assumption) ?ra11
    case ha11 => (intro w hSw; (try dsimp only at hSw); obtain ⟨g0, g1, g2, g3⟩ := hSw; go_simp; try (with_reducible rfl))
    try simp only [Act.put, List.setIfInBounds_toArray, List.set_cons_zero, List.set_cons_succ]
    refine wpAnyH_take (i := 12) (oi := ({ dst := some 19, op := Op.load 91 (Operand.tmp 1), type := 91, pos := "expr.go:135", after := #[], guard := none } : Oper)) (v := ?va12) rfl (by kernel_rfl) (by kernel_rfl) (by kernel_rfl) (fun _ _ _ h => h) (Or.inl ⟨by rfl, ?ha12⟩) (by assumption) ?ra12
    case ha12 => (intro w hSw; (try dsimp only at hSw); obtain ⟨g0, g1, g2, g3⟩ := hSw; go_simp; try (with_reducible rfl))
    try simp only [Act.put, List.setIfInBounds_toArray, List.set_cons_zero, List.set_cons_succ]
    refine wpAnyH_take (i := 13) (oi := ({ dst := some 20, op := Op.makeFunc (Fn.func 83) #[Operand.tmp 19] #[], type := 94, pos := "expr.go:135", after := #[{ on := 12, ground := Ground.data }], guard := none } : Oper)) (v := ?va13) rfl (by kernel_rfl) (by kernel_rfl) (by kernel_rfl) (fun _ _ _ h => h) (Or.inl ⟨by rfl, ?ha13⟩) (by assumption) ?ra13
    case ha13 => (intro w hSw; (try dsimp only at hSw); obtain ⟨g0, g1, g2, g3⟩ := hSw; go_simp; try (with_reducible rfl))
    try simp only [Act.put, List.setIfInBounds_toArray, List.set_cons_zero, List.set_cons_succ]
    refine wpAnyH_ready (rs := [14, 17]) (by kernel_rfl) (by simp) ?_
    refine AllReadyH.cons (o := ({ dst := some 21, op := Op.call { callee := Callee.value (Operand.func 82), args := #[Operand.tmp 15, Operand.tmp 18, Operand.tmp 20], argTypes := #[91, 115, 94] }, type := 94, pos := "expr.go:135", after := #[{ on := 8, ground := Ground.data }, { on := 11, ground := Ground.data }, { on := 13, ground := Ground.data }], guard := none } : Oper)) rfl ?aq1 (AllReadyH.cons (o := ({ dst := some 4, op := Op.alloc 94, type := 0, pos := "expr.go:135", after := #[], guard := none } : Oper)) rfl ?bq1 AllReadyH.nil)
    case aq1 =>
      intro K hK
      go_simp
      refine (chain_calls 83 #[.pointer (some ⟨R, 0, none⟩)] #[] R sgProd v4 wd (HH.out.below HBD.out).blk (by decide) HWD.out.s4).mono ?_
      rintro e u0x ⟨⟨cap0, rfl, hcl0⟩, hbel⟩
      have HBD0 : Asd (Below w.heap.size w u0x) := Asd.mk (HBD.out.trans (hbel.mono HBD.out.size))
      have HWD0 := Asd.mk (HWD.out.below hbel)
      have HCL0 := Asd.mk hcl0
      clear hcl0 hbel
      go_wp2_with fail
      refine hK.out _ _ (keep2 HWD0.out) (fun hHeld => ?_)
      clear hK K
      try simp only [Act.put, List.setIfInBounds_toArray, List.set_cons_zero, List.set_cons_succ]
      refine wpAnyH_ready (rs := [15, 17]) (by kernel_rfl) (by simp) ?_
      refine AllReadyH.cons (o := ({ dst := some 22, op := Op.call { callee := Callee.value (Operand.func 82), args := #[Operand.tmp 11, Operand.tmp 14, Operand.tmp 21], argTypes := #[91, 115, 94] }, type := 94, pos := "expr.go:135", after := #[{ on := 4, ground := Ground.data }, { on := 7, ground := Ground.data }, { on := 14, ground := Ground.data }, { on := 14, ground := Ground.chain }], guard := none } : Oper)) rfl ?aq2 (AllReadyH.cons (o := ({ dst := some 4, op := Op.alloc 94, type := 0, pos := "expr.go:135", after := #[], guard := none } : Oper)) rfl ?bq2 AllReadyH.nil)
      case aq2 =>
        intro K hK
        go_simp
        refine (chain_calls 99 #[] cap0 R sgSum v3 u0x (HH.out.below HBD0.out).blk (by decide) HWD0.out.s3).mono ?_
        rintro e u1xc ⟨⟨cap1, rfl, hcl1⟩, hbel⟩
        have HBD01 : Asd (Below w.heap.size w u1xc) := Asd.mk (HBD0.out.trans (hbel.mono HBD0.out.size))
        have HWD01 := Asd.mk (HWD0.out.below hbel)
        have HCL1 := Asd.mk hcl1
        have HCL0 := Asd.mk (HCL0.out.below hbel)
        clear hcl1 hbel
        go_wp2_with fail
        refine hK.out _ _ (keep2 HWD01.out) (fun hHeld => ?_)
        clear hK K
        try simp only [Act.put, List.setIfInBounds_toArray, List.set_cons_zero, List.set_cons_succ]
        refine wpAnyH_ready (rs := [16, 17]) (by kernel_rfl) (by simp) ?_
        refine AllReadyH.cons (o := ({ dst := some 23, op := Op.call { callee := Callee.value (Operand.func 82), args := #[Operand.tmp 7, Operand.tmp 10, Operand.tmp 22], argTypes := #[91, 115, 94] }, type := 94, pos := "expr.go:135", after := #[{ on := 0, ground := Ground.data }, { on := 3, ground := Ground.data }, { on := 15, ground := Ground.data }, { on := 15, ground := Ground.chain }], guard := none } : Oper)) rfl ?aq3 (AllReadyH.cons (o := ({ dst := some 4, op := Op.alloc 94, type := 0, pos := "expr.go:135", after := #[], guard := none } : Oper)) rfl ?bq3 AllReadyH.nil)
        case aq3 =>
          intro K hK
          go_simp
          refine (chain_calls 99 #[] cap1 R sgCat v2 u1xc (HH.out.below HBD01.out).blk (by decide) HWD01.out.s2).mono ?_
          rintro e u2xcc ⟨⟨cap2, rfl, hcl2⟩, hbel⟩
          have HBD012 : Asd (Below w.heap.size w u2xcc) := Asd.mk (HBD01.out.trans (hbel.mono HBD01.out.size))
          have HWD012 := Asd.mk (HWD01.out.below hbel)
          have HCL2 := Asd.mk hcl2
          have HCL0 := Asd.mk (HCL0.out.below hbel)
          have HCL1 := Asd.mk (HCL1.out.below hbel)
          clear hcl2 hbel
          go_wp2_with fail
          refine hK.out _ _ (keep2 HWD012.out) (fun hHeld => ?_)
          clear hK K
          try simp only [Act.put, List.setIfInBounds_toArray, List.set_cons_zero, List.set_cons_succ]
          refine wpAnyH_ready (rs := [17]) (by kernel_rfl) (by simp) ?_
          refine AllReadyH.cons (o := ({ dst := some 4, op := Op.alloc 94, type := 0, pos := "expr.go:135", after := #[], guard := none } : Oper)) rfl (fun K hK => ?_) AllReadyH.nil
          go_simp
          have HBD012a : Asd (Below w.heap.size w (u2xcc.alloc (.cells #[.nilFunc] 94 (0, 0)))) := Asd.mk (below_alloc HBD012.out _)
          have HWD012a := Asd.mk (HWD012.out.below (below_alloc (Below.refl _ u2xcc) (.cells #[.nilFunc] 94 (0, 0))))
          have HAL := Asd.mk (blk_new u2xcc (.cells #[.nilFunc] 94 (0, 0)))
          have HGE : Asd (w.heap.size ≤ u2xcc.heap.size) := Asd.mk HBD012.out.size
          have HCL0 := Asd.mk (HCL0.out.below (below_alloc (Below.refl _ u2xcc) (.cells #[.nilFunc] 94 (0, 0))))
          have HCL1 := Asd.mk (HCL1.out.below (below_alloc (Below.refl _ u2xcc) (.cells #[.nilFunc] 94 (0, 0))))
          have HCL2 := Asd.mk (HCL2.out.below (below_alloc (Below.refl _ u2xcc) (.cells #[.nilFunc] 94 (0, 0))))
          go_wp2_with fail
          refine hK.out _ _ (keep2 HWD012a.out) (fun hHeld => ?_)
          clear hK K
          try simp only [Act.put, List.setIfInBounds_toArray, List.set_cons_zero, List.set_cons_succ]
          generalize hgb : u2xcc.heap.size = b4 at HAL HGE ⊢
          generalize u2xcc.alloc (.cells #[.nilFunc] 94 (0, 0)) = uaxccc at HBD012a HWD012a HAL HCL0 HCL1 HCL2 ⊢
          clear hgb
          have y0 := (blk_cell HAL.out 0).trans rfl
          have z0 := blk_frozen HAL.out 0
          have hstf := Fr.setCell (S := fun k => k = b4) (Fr.refl _ uaxccc) (p := ⟨b4, 0, none⟩) rfl (.func (.func 99) #[] cap2)
          have HWS := Asd.mk (HWD012a.out.store HAL.out (v := .func (.func 99) #[] cap2))
          have HBS : Asd (Below w.heap.size w (uaxccc.setCell ⟨b4, 0, none⟩ (.func (.func 99) #[] cap2))) := Asd.mk (HBD012a.out.setCell HGE.out _)
          have HAS : Asd ((uaxccc.setCell ⟨b4, 0, none⟩ (.func (.func 99) #[] cap2)).heap[b4]? = some (.cells #[.func (.func 99) #[] cap2] 94 (0, 0))) := Asd.mk ((blk_set HAL.out 0 _).trans rfl)
          have HKS : Asd (CatK R cap2 (uaxccc.setCell ⟨b4, 0, none⟩ (.func (.func 99) #[] cap2))) := Asd.mk ⟨cap0, cap1, HCL0.out.store (by decide) HAL.out _, HCL1.out.store (by decide) HAL.out _, HCL2.out.store (by decide) HAL.out _⟩
          refine wpAnyH_ready (rs := [18]) (by kernel_rfl) (by simp) ?_
          refine AllReadyH.cons (o := ({ dst := none, op := Op.store 94 (Operand.tmp 4) (Operand.tmp 23), type := 0, pos := "expr.go:135", after := #[{ on := 17, ground := Ground.data }, { on := 16, ground := Ground.data }, { on := 16, ground := Ground.chain }, { on := 0, ground := Ground.phase }, { on := 1, ground := Ground.phase }, { on := 2, ground := Ground.phase }, { on := 3, ground := Ground.phase }, { on := 4, ground := Ground.phase }, { on := 5, ground := Ground.phase }, { on := 6, ground := Ground.phase }, { on := 7, ground := Ground.phase }, { on := 8, ground := Ground.phase }, { on := 9, ground := Ground.phase }, { on := 10, ground := Ground.phase }, { on := 11, ground := Ground.phase }, { on := 12, ground := Ground.phase }, { on := 13, ground := Ground.phase }, { on := 14, ground := Ground.phase }, { on := 15, ground := Ground.phase }, { on := 16, ground := Ground.phase }, { on := 17, ground := Ground.phase }], guard := none } : Oper)) rfl (fun K hK => ?_) AllReadyH.nil
          go_simp
          go_wp2_with fail
          refine hK.out _ _ (keep2 HWS.out) (fun hHeld => ?_)
          clear hK K
          try simp only [Act.put, List.setIfInBounds_toArray, List.set_cons_zero, List.set_cons_succ]
          refine wpAnyH_done (by kernel_rfl) ?_ _
          go_wp2
          go_meet
          exact ⟨b4, cap2, rfl, HAS, HBS, HWS, HKS, HGE⟩
        case bq3 =>
          intro K hK
          go_simp
          have HBD01a : Asd (Below w.heap.size w (u1xc.alloc (.cells #[.nilFunc] 94 (0, 0)))) := Asd.mk (below_alloc HBD01.out _)
          have HWD01a := Asd.mk (HWD01.out.below (below_alloc (Below.refl _ u1xc) (.cells #[.nilFunc] 94 (0, 0))))
          have HAL := Asd.mk (blk_new u1xc (.cells #[.nilFunc] 94 (0, 0)))
          have HGE : Asd (w.heap.size ≤ u1xc.heap.size) := Asd.mk HBD01.out.size
          have HCL0 := Asd.mk (HCL0.out.below (below_alloc (Below.refl _ u1xc) (.cells #[.nilFunc] 94 (0, 0))))
          have HCL1 := Asd.mk (HCL1.out.below (below_alloc (Below.refl _ u1xc) (.cells #[.nilFunc] 94 (0, 0))))
          go_wp2_with fail
          refine hK.out _ _ (keep2 HWD01a.out) (fun hHeld => ?_)
          clear hK K
          try simp only [Act.put, List.setIfInBounds_toArray, List.set_cons_zero, List.set_cons_succ]
          generalize hgb : u1xc.heap.size = b4 at HAL HGE ⊢
          generalize u1xc.alloc (.cells #[.nilFunc] 94 (0, 0)) = uaxcc at HBD01a HWD01a HAL HCL0 HCL1 ⊢
          clear hgb
          refine wpAnyH_ready (rs := [16]) (by kernel_rfl) (by simp) ?_
          refine AllReadyH.cons (o := ({ dst := some 23, op := Op.call { callee := Callee.value (Operand.func 82), args := #[Operand.tmp 7, Operand.tmp 10, Operand.tmp 22], argTypes := #[91, 115, 94] }, type := 94, pos := "expr.go:135", after := #[{ on := 0, ground := Ground.data }, { on := 3, ground := Ground.data }, { on := 15, ground := Ground.data }, { on := 15, ground := Ground.chain }], guard := none } : Oper)) rfl (fun K hK => ?_) AllReadyH.nil
          go_simp
          refine (chain_calls 99 #[] cap1 R sgCat v2 uaxcc (HH.out.below HBD01a.out).blk (by decide) HWD01a.out.s2).mono ?_
          rintro e u2xcca ⟨⟨cap2, rfl, hcl2⟩, hbel⟩
          have HBD01a2 : Asd (Below w.heap.size w u2xcca) := Asd.mk (HBD01a.out.trans (hbel.mono HBD01a.out.size))
          have HWD01a2 := Asd.mk (HWD01a.out.below hbel)
          have HCL2 := Asd.mk hcl2
          have HCL0 := Asd.mk (HCL0.out.below hbel)
          have HCL1 := Asd.mk (HCL1.out.below hbel)
          have HAL := Asd.mk (blk_below hbel HAL.out)
          clear hcl2 hbel
          go_wp2_with fail
          refine hK.out _ _ (keep2 HWD01a2.out) (fun hHeld => ?_)
          clear hK K
          try simp only [Act.put, List.setIfInBounds_toArray, List.set_cons_zero, List.set_cons_succ]
          have y0 := (blk_cell HAL.out 0).trans rfl
          have z0 := blk_frozen HAL.out 0
          have hstf := Fr.setCell (S := fun k => k = b4) (Fr.refl _ u2xcca) (p := ⟨b4, 0, none⟩) rfl (.func (.func 99) #[] cap2)
          have HWS := Asd.mk (HWD01a2.out.store HAL.out (v := .func (.func 99) #[] cap2))
          have HBS : Asd (Below w.heap.size w (u2xcca.setCell ⟨b4, 0, none⟩ (.func (.func 99) #[] cap2))) := Asd.mk (HBD01a2.out.setCell HGE.out _)
          have HAS : Asd ((u2xcca.setCell ⟨b4, 0, none⟩ (.func (.func 99) #[] cap2)).heap[b4]? = some (.cells #[.func (.func 99) #[] cap2] 94 (0, 0))) := Asd.mk ((blk_set HAL.out 0 _).trans rfl)
          have HKS : Asd (CatK R cap2 (u2xcca.setCell ⟨b4, 0, none⟩ (.func (.func 99) #[] cap2))) := Asd.mk ⟨cap0, cap1, HCL0.out.store (by decide) HAL.out _, HCL1.out.store (by decide) HAL.out _, HCL2.out.store (by decide) HAL.out _⟩
          refine wpAnyH_ready (rs := [18]) (by kernel_rfl) (by simp) ?_
          refine AllReadyH.cons (o := ({ dst := none, op := Op.store 94 (Operand.tmp 4) (Operand.tmp 23), type := 0, pos := "expr.go:135", after := #[{ on := 17, ground := Ground.data }, { on := 16, ground := Ground.data }, { on := 16, ground := Ground.chain }, { on := 0, ground := Ground.phase }, { on := 1, ground := Ground.phase }, { on := 2, ground := Ground.phase }, { on := 3, ground := Ground.phase }, { on := 4, ground := Ground.phase }, { on := 5, ground := Ground.phase }, { on := 6, ground := Ground.phase }, { on := 7, ground := Ground.phase }, { on := 8, ground := Ground.phase }, { on := 9, ground := Ground.phase }, { on := 10, ground := Ground.phase }, { on := 11, ground := Ground.phase }, { on := 12, ground := Ground.phase }, { on := 13, ground := Ground.phase }, { on := 14, ground := Ground.phase }, { on := 15, ground := Ground.phase }, { on := 16, ground := Ground.phase }, { on := 17, ground := Ground.phase }], guard := none } : Oper)) rfl (fun K hK => ?_) AllReadyH.nil
          go_simp
          go_wp2_with fail
          refine hK.out _ _ (keep2 HWS.out) (fun hHeld => ?_)
          clear hK K
          try simp only [Act.put, List.setIfInBounds_toArray, List.set_cons_zero, List.set_cons_succ]
          refine wpAnyH_done (by kernel_rfl) ?_ _
          go_wp2
          go_meet
          exact ⟨b4, cap2, rfl, HAS, HBS, HWS, HKS, HGE⟩
      case bq2 =>
        intro K hK
        go_simp
        have HBD0a : Asd (Below w.heap.size w (u0x.alloc (.cells #[.nilFunc] 94 (0, 0)))) := Asd.mk (below_alloc HBD0.out _)
        have HWD0a := Asd.mk (HWD0.out.below (below_alloc (Below.refl _ u0x) (.cells #[.nilFunc] 94 (0, 0))))
        have HAL := Asd.mk (blk_new u0x (.cells #[.nilFunc] 94 (0, 0)))
        have HGE : Asd (w.heap.size ≤ u0x.heap.size) := Asd.mk HBD0.out.size
        have HCL0 := Asd.mk (HCL0.out.below (below_alloc (Below.refl _ u0x) (.cells #[.nilFunc] 94 (0, 0))))
        go_wp2_with fail
        refine hK.out _ _ (keep2 HWD0a.out) (fun hHeld => ?_)
        clear hK K
        try simp only [Act.put, List.setIfInBounds_toArray, List.set_cons_zero, List.set_cons_succ]
        generalize hgb : u0x.heap.size = b4 at HAL HGE ⊢
        generalize u0x.alloc (.cells #[.nilFunc] 94 (0, 0)) = uaxc at HBD0a HWD0a HAL HCL0 ⊢
        clear hgb
        refine wpAnyH_ready (rs := [15]) (by kernel_rfl) (by simp) ?_
        refine AllReadyH.cons (o := ({ dst := some 22, op := Op.call { callee := Callee.value (Operand.func 82), args := #[Operand.tmp 11, Operand.tmp 14, Operand.tmp 21], argTypes := #[91, 115, 94] }, type := 94, pos := "expr.go:135", after := #[{ on := 4, ground := Ground.data }, { on := 7, ground := Ground.data }, { on := 14, ground := Ground.data }, { on := 14, ground := Ground.chain }], guard := none } : Oper)) rfl (fun K hK => ?_) AllReadyH.nil
        go_simp
        refine (chain_calls 99 #[] cap0 R sgSum v3 uaxc (HH.out.below HBD0a.out).blk (by decide) HWD0a.out.s3).mono ?_
        rintro e u1xca ⟨⟨cap1, rfl, hcl1⟩, hbel⟩
        have HBD0a1 : Asd (Below w.heap.size w u1xca) := Asd.mk (HBD0a.out.trans (hbel.mono HBD0a.out.size))
        have HWD0a1 := Asd.mk (HWD0a.out.below hbel)
        have HCL1 := Asd.mk hcl1
        have HCL0 := Asd.mk (HCL0.out.below hbel)
        have HAL := Asd.mk (blk_below hbel HAL.out)
        clear hcl1 hbel
        go_wp2_with fail
        refine hK.out _ _ (keep2 HWD0a1.out) (fun hHeld => ?_)
        clear hK K
        try simp only [Act.put, List.setIfInBounds_toArray, List.set_cons_zero, List.set_cons_succ]
        refine wpAnyH_ready (rs := [16]) (by kernel_rfl) (by simp) ?_
        refine AllReadyH.cons (o := ({ dst := some 23, op := Op.call { callee := Callee.value (Operand.func 82), args := #[Operand.tmp 7, Operand.tmp 10, Operand.tmp 22], argTypes := #[91, 115, 94] }, type := 94, pos := "expr.go:135", after := #[{ on := 0, ground := Ground.data }, { on := 3, ground := Ground.data }, { on := 15, ground := Ground.data }, { on := 15, ground := Ground.chain }], guard := none } : Oper)) rfl (fun K hK => ?_) AllReadyH.nil
        go_simp
        refine (chain_calls 99 #[] cap1 R sgCat v2 u1xca (HH.out.below HBD0a1.out).blk (by decide) HWD0a1.out.s2).mono ?_
        rintro e u2xcac ⟨⟨cap2, rfl, hcl2⟩, hbel⟩
        have HBD0a12 : Asd (Below w.heap.size w u2xcac) := Asd.mk (HBD0a1.out.trans (hbel.mono HBD0a1.out.size))
        have HWD0a12 := Asd.mk (HWD0a1.out.below hbel)
        have HCL2 := Asd.mk hcl2
        have HCL0 := Asd.mk (HCL0.out.below hbel)
        have HCL1 := Asd.mk (HCL1.out.below hbel)
        have HAL := Asd.mk (blk_below hbel HAL.out)
        clear hcl2 hbel
        go_wp2_with fail
        refine hK.out _ _ (keep2 HWD0a12.out) (fun hHeld => ?_)
        clear hK K
        try simp only [Act.put, List.setIfInBounds_toArray, List.set_cons_zero, List.set_cons_succ]
        have y0 := (blk_cell HAL.out 0).trans rfl
        have z0 := blk_frozen HAL.out 0
        have hstf := Fr.setCell (S := fun k => k = b4) (Fr.refl _ u2xcac) (p := ⟨b4, 0, none⟩) rfl (.func (.func 99) #[] cap2)
        have HWS := Asd.mk (HWD0a12.out.store HAL.out (v := .func (.func 99) #[] cap2))
        have HBS : Asd (Below w.heap.size w (u2xcac.setCell ⟨b4, 0, none⟩ (.func (.func 99) #[] cap2))) := Asd.mk (HBD0a12.out.setCell HGE.out _)
        have HAS : Asd ((u2xcac.setCell ⟨b4, 0, none⟩ (.func (.func 99) #[] cap2)).heap[b4]? = some (.cells #[.func (.func 99) #[] cap2] 94 (0, 0))) := Asd.mk ((blk_set HAL.out 0 _).trans rfl)
        have HKS : Asd (CatK R cap2 (u2xcac.setCell ⟨b4, 0, none⟩ (.func (.func 99) #[] cap2))) := Asd.mk ⟨cap0, cap1, HCL0.out.store (by decide) HAL.out _, HCL1.out.store (by decide) HAL.out _, HCL2.out.store (by decide) HAL.out _⟩
        refine wpAnyH_ready (rs := [18]) (by kernel_rfl) (by simp) ?_
        refine AllReadyH.cons (o := ({ dst := none, op := Op.store 94 (Operand.tmp 4) (Operand.tmp 23), type := 0, pos := "expr.go:135", after := #[{ on := 17, ground := Ground.data }, { on := 16, ground := Ground.data }, { on := 16, ground := Ground.chain }, { on := 0, ground := Ground.phase }, { on := 1, ground := Ground.phase }, { on := 2, ground := Ground.phase }, { on := 3, ground := Ground.phase }, { on := 4, ground := Ground.phase }, { on := 5, ground := Ground.phase }, { on := 6, ground := Ground.phase }, { on := 7, ground := Ground.phase }, { on := 8, ground := Ground.phase }, { on := 9, ground := Ground.phase }, { on := 10, ground := Ground.phase }, { on := 11, ground := Ground.phase }, { on := 12, ground := Ground.phase }, { on := 13, ground := Ground.phase }, { on := 14, ground := Ground.phase }, { on := 15, ground := Ground.phase }, { on := 16, ground := Ground.phase }, { on := 17, ground := Ground.phase }], guard := none } : Oper)) rfl (fun K hK => ?_) AllReadyH.nil
        go_simp
        go_wp2_with fail
        refine hK.out _ _ (keep2 HWS.out) (fun hHeld => ?_)
        clear hK K
        try simp only [Act.put, List.setIfInBounds_toArray, List.set_cons_zero, List.set_cons_succ]
        refine wpAnyH_done (by kernel_rfl) ?_ _
        go_wp2
        go_meet
        exact ⟨b4, cap2, rfl, HAS, HBS, HWS, HKS, HGE⟩
    case bq1 =>
      intro K hK
      go_simp
      have HBDa : Asd (Below w.heap.size w (wd.alloc (.cells #[.nilFunc] 94 (0, 0)))) := Asd.mk (below_alloc HBD.out _)
      have HWDa := Asd.mk (HWD.out.below (below_alloc (Below.refl _ wd) (.cells #[.nilFunc] 94 (0, 0))))
      have HAL := Asd.mk (blk_new wd (.cells #[.nilFunc] 94 (0, 0)))
      have HGE : Asd (w.heap.size ≤ wd.heap.size) := Asd.mk HBD.out.size
      go_wp2_with fail
      refine hK.out _ _ (keep2 HWDa.out) (fun hHeld => ?_)
      clear hK K
      try simp only [Act.put, List.setIfInBounds_toArray, List.set_cons_zero, List.set_cons_succ]
      generalize hgb : wd.heap.size = b4 at HAL HGE ⊢
      generalize wd.alloc (.cells #[.nilFunc] 94 (0, 0)) = uax at HBDa HWDa HAL ⊢
      clear hgb
      refine wpAnyH_ready (rs := [14]) (by kernel_rfl) (by simp) ?_
      refine AllReadyH.cons (o := ({ dst := some 21, op := Op.call { callee := Callee.value (Operand.func 82), args := #[Operand.tmp 15, Operand.tmp 18, Operand.tmp 20], argTypes := #[91, 115, 94] }, type := 94, pos := "expr.go:135", after := #[{ on := 8, ground := Ground.data }, { on := 11, ground := Ground.data }, { on := 13, ground := Ground.data }], guard := none } : Oper)) rfl (fun K hK => ?_) AllReadyH.nil
      go_simp
      refine (chain_calls 83 #[.pointer (some ⟨R, 0, none⟩)] #[] R sgProd v4 uax (HH.out.below HBDa.out).blk (by decide) HWDa.out.s4).mono ?_
      rintro e u0xa ⟨⟨cap0, rfl, hcl0⟩, hbel⟩
      have HBDa0 : Asd (Below w.heap.size w u0xa) := Asd.mk (HBDa.out.trans (hbel.mono HBDa.out.size))
      have HWDa0 := Asd.mk (HWDa.out.below hbel)
      have HCL0 := Asd.mk hcl0
      have HAL := Asd.mk (blk_below hbel HAL.out)
      clear hcl0 hbel
      go_wp2_with fail
      refine hK.out _ _ (keep2 HWDa0.out) (fun hHeld => ?_)
      clear hK K
      try simp only [Act.put, List.setIfInBounds_toArray, List.set_cons_zero, List.set_cons_succ]
      refine wpAnyH_ready (rs := [15]) (by kernel_rfl) (by simp) ?_
      refine AllReadyH.cons (o := ({ dst := some 22, op := Op.call { callee := Callee.value (Operand.func 82), args := #[Operand.tmp 11, Operand.tmp 14, Operand.tmp 21], argTypes := #[91, 115, 94] }, type := 94, pos := "expr.go:135", after := #[{ on := 4, ground := Ground.data }, { on := 7, ground := Ground.data }, { on := 14, ground := Ground.data }, { on := 14, ground := Ground.chain }], guard := none } : Oper)) rfl (fun K hK => ?_) AllReadyH.nil
      go_simp
      refine (chain_calls 99 #[] cap0 R sgSum v3 u0xa (HH.out.below HBDa0.out).blk (by decide) HWDa0.out.s3).mono ?_
      rintro e u1xac ⟨⟨cap1, rfl, hcl1⟩, hbel⟩
      have HBDa01 : Asd (Below w.heap.size w u1xac) := Asd.mk (HBDa0.out.trans (hbel.mono HBDa0.out.size))
      have HWDa01 := Asd.mk (HWDa0.out.below hbel)
      have HCL1 := Asd.mk hcl1
      have HCL0 := Asd.mk (HCL0.out.below hbel)
      have HAL := Asd.mk (blk_below hbel HAL.out)
      clear hcl1 hbel
      go_wp2_with fail
      refine hK.out _ _ (keep2 HWDa01.out) (fun hHeld => ?_)
      clear hK K
      try simp only [Act.put, List.setIfInBounds_toArray, List.set_cons_zero, List.set_cons_succ]
      refine wpAnyH_ready (rs := [16]) (by kernel_rfl) (by simp) ?_
      refine AllReadyH.cons (o := ({ dst := some 23, op := Op.call { callee := Callee.value (Operand.func 82), args := #[Operand.tmp 7, Operand.tmp 10, Operand.tmp 22], argTypes := #[91, 115, 94] }, type := 94, pos := "expr.go:135", after := #[{ on := 0, ground := Ground.data }, { on := 3, ground := Ground.data }, { on := 15, ground := Ground.data }, { on := 15, ground := Ground.chain }], guard := none } : Oper)) rfl (fun K hK => ?_) AllReadyH.nil
      go_simp
      refine (chain_calls 99 #[] cap1 R sgCat v2 u1xac (HH.out.below HBDa01.out).blk (by decide) HWDa01.out.s2).mono ?_
      rintro e u2xacc ⟨⟨cap2, rfl, hcl2⟩, hbel⟩
      have HBDa012 : Asd (Below w.heap.size w u2xacc) := Asd.mk (HBDa01.out.trans (hbel.mono HBDa01.out.size))
      have HWDa012 := Asd.mk (HWDa01.out.below hbel)
      have HCL2 := Asd.mk hcl2
      have HCL0 := Asd.mk (HCL0.out.below hbel)
      have HCL1 := Asd.mk (HCL1.out.below hbel)
      have HAL := Asd.mk (blk_below hbel HAL.out)
      clear hcl2 hbel
      go_wp2_with fail
      refine hK.out _ _ (keep2 HWDa012.out) (fun hHeld => ?_)
      clear hK K
      try simp only [Act.put, List.setIfInBounds_toArray, List.set_cons_zero, List.set_cons_succ]
      have y0 := (blk_cell HAL.out 0).trans rfl
      have z0 := blk_frozen HAL.out 0
      have hstf := Fr.setCell (S := fun k => k = b4) (Fr.refl _ u2xacc) (p := ⟨b4, 0, none⟩) rfl (.func (.func 99) #[] cap2)
      have HWS := Asd.mk (HWDa012.out.store HAL.out (v := .func (.func 99) #[] cap2))
      have HBS : Asd (Below w.heap.size w (u2xacc.setCell ⟨b4, 0, none⟩ (.func (.func 99) #[] cap2))) := Asd.mk (HBDa012.out.setCell HGE.out _)
      have HAS : Asd ((u2xacc.setCell ⟨b4, 0, none⟩ (.func (.func 99) #[] cap2)).heap[b4]? = some (.cells #[.func (.func 99) #[] cap2] 94 (0, 0))) := Asd.mk ((blk_set HAL.out 0 _).trans rfl)
      have HKS : Asd (CatK R cap2 (u2xacc.setCell ⟨b4, 0, none⟩ (.func (.func 99) #[] cap2))) := Asd.mk ⟨cap0, cap1, HCL0.out.store (by decide) HAL.out _, HCL1.out.store (by decide) HAL.out _, HCL2.out.store (by decide) HAL.out _⟩
      refine wpAnyH_ready (rs := [18]) (by kernel_rfl) (by simp) ?_
      refine AllReadyH.cons (o := ({ dst := none, op := Op.store 94 (Operand.tmp 4) (Operand.tmp 23), type := 0, pos := "expr.go:135", after := #[{ on := 17, ground := Ground.data }, { on := 16, ground := Ground.data }, { on := 16, ground := Ground.chain }, { on := 0, ground := Ground.phase }, { on := 1, ground := Ground.phase }, { on := 2, ground := Ground.phase }, { on := 3, ground := Ground.phase }, { on := 4, ground := Ground.phase }, { on := 5, ground := Ground.phase }, { on := 6, ground := Ground.phase }, { on := 7, ground := Ground.phase }, { on := 8, ground := Ground.phase }, { on := 9, ground := Ground.phase }, { on := 10, ground := Ground.phase }, { on := 11, ground := Ground.phase }, { on := 12, ground := Ground.phase }, { on := 13, ground := Ground.phase }, { on := 14, ground := Ground.phase }, { on := 15, ground := Ground.phase }, { on := 16, ground := Ground.phase }, { on := 17, ground := Ground.phase }], guard := none } : Oper)) rfl (fun K hK => ?_) AllReadyH.nil
      go_simp
      go_wp2_with fail
      refine hK.out _ _ (keep2 HWS.out) (fun hHeld => ?_)
      clear hK K
      try simp only [Act.put, List.setIfInBounds_toArray, List.set_cons_zero, List.set_cons_succ]
      refine wpAnyH_done (by kernel_rfl) ?_ _
      go_wp2
      go_meet
      exact ⟨b4, cap2, rfl, HAS, HBS, HWS, HKS, HGE⟩
  case rest =>
    obtain ⟨b4, cap', rfl, HA4, HBX, HWX, HKX, HGE⟩ := hcut
    go_upto_region 4 with fail
    have HWD : Asd (OrW w.heap.size (w.heap.size + 1) g R v0 v1 v2 v3 v4 wc.drew) := Asd.mk (HWX.out.below (below_drewN' wc 1))
    have HBD : Asd (Below w.heap.size w wc.drew) := Asd.mk HBX.out.drew
    have HAD : Asd (wc.drew.heap[b4]? = some (.cells #[.func (.func 99) #[] cap'] 94 (0, 0))) := Asd.mk HA4.out
    have HKD : Asd (CatK R cap' wc.drew) := Asd.mk (catK_stays _ _ _ _ (Fr.of_below (below_drewN' wc 1)) HKX.out)
    have hcf : ∀ (args : Array Value) (w : World), (callFunc 99 args).run Tryz.prog w = .ok (.enter 99 args) w := isGo_chain
    refine wp_region_held_drew (S := fun w' => w'.cell? ⟨w.heap.size, 0, none⟩ = some (.pointer (some ⟨R, 0, none⟩)) ∧ w'.cell? ⟨g, 0, none⟩ = some v0 ∧ w'.cell? ⟨g, 1, none⟩ = some v1) (by kernel_rfl) (keep4 HWD.out) (fun hHeld => ?_)
    refine wpAnyH_take (i := 0) (oi := ({ dst := some 25, op := Op.load 91 (Operand.tmp 1), type := 91, pos := "expr.go:137", after := #[], guard := none } : Oper)) (v := ?vb0) rfl (by kernel_rfl) (by kernel_rfl) (by kernel_rfl) (fun _ _ _ h => h) (Or.inl ⟨by rfl, ?hb0⟩) (by assumption) ?rb0
    case hb0 => (intro w hSw; (try dsimp only at hSw); obtain ⟨g0, g1, g2⟩ := hSw; go_simp; try (with_reducible rfl))
    try simp only [Act.put, List.setIfInBounds_toArray, List.set_cons_zero, List.set_cons_succ]
    refine wpAnyH_take (i := 1) (oi := ({ dst := some 26, op := Op.move (Operand.tmp 3), type := 112, pos := "expr.go:137", after := #[], guard := none } : Oper)) (v := ?vb1) rfl (by kernel_rfl) (by kernel_rfl) (by kernel_rfl) (fun _ _ _ h => h) (Or.inl ⟨by rfl, ?hb1⟩) (by assumption) ?rb1
    case hb1 => (intro w hSw; (try dsimp only at hSw); obtain ⟨g0, g1, g2⟩ := hSw; go_simp; try (with_reducible rfl))
    try simp only [Act.put, List.setIfInBounds_toArray, List.set_cons_zero, List.set_cons_succ]
    refine wpAnyH_take (i := 2) (oi := ({ dst := some 27, op := Op.indexAddr 112 (Operand.tmp 26) (Operand.const (Value.int IntKind.i64 0)), type := 0, pos := "expr.go:137", after := #[{ on := 1, ground := Ground.data }], guard := none } : Oper)) (v := ?vb2) rfl (by kernel_rfl) (by kernel_rfl) (by kernel_rfl) (fun _ _ _ h => h) (Or.inl ⟨by rfl, ?hb2⟩) (by assumption) ?rb2
    case hb2 => (intro w hSw; (try dsimp only at hSw); obtain ⟨g0, g1, g2⟩ := hSw; go_simp; try (with_reducible rfl))
    try simp only [Act.put, List.setIfInBounds_toArray, List.set_cons_zero, List.set_cons_succ]
    refine wpAnyH_take (i := 3) (oi := ({ dst := some 28, op := Op.load 115 (Operand.tmp 27), type := 115, pos := "expr.go:137", after := #[{ on := 2, ground := Ground.data }], guard := none } : Oper)) (v := ?vb3) rfl (by kernel_rfl) (by kernel_rfl) (by kernel_rfl) (fun _ _ _ h => h) (Or.inl ⟨by rfl, ?hb3⟩) (by assumption) ?rb3
    case hb3 => (intro w hSw; (try dsimp only at hSw); obtain ⟨g0, g1, g2⟩ := hSw; go_simp; try (with_reducible rfl))
    try simp only [Act.put, List.setIfInBounds_toArray, List.set_cons_zero, List.set_cons_succ]
    refine wpAnyH_take (i := 4) (oi := ({ dst := some 29, op := Op.load 91 (Operand.tmp 1), type := 91, pos := "expr.go:137", after := #[], guard := none } : Oper)) (v := ?vb4) rfl (by kernel_rfl) (by kernel_rfl) (by kernel_rfl) (fun _ _ _ h => h) (Or.inl ⟨by rfl, ?hb4⟩) (by assumption) ?rb4
    case hb4 => (intro w hSw; (try dsimp only at hSw); obtain ⟨g0, g1, g2⟩ := hSw; go_simp; try (with_reducible rfl))
    try simp only [Act.put, List.setIfInBounds_toArray, List.set_cons_zero, List.set_cons_succ]
    refine wpAnyH_take (i := 5) (oi := ({ dst := some 30, op := Op.move (Operand.tmp 3), type := 112, pos := "expr.go:137", after := #[], guard := none } : Oper)) (v := ?vb5) rfl (by kernel_rfl) (by kernel_rfl) (by kernel_rfl) (fun _ _ _ h => h) (Or.inl ⟨by rfl, ?hb5⟩) (by assumption) ?rb5
    case hb5 => (intro w hSw; (try dsimp only at hSw); obtain ⟨g0, g1, g2⟩ := hSw; go_simp; try (with_reducible rfl))
    try simp only [Act.put, List.setIfInBounds_toArray, List.set_cons_zero, List.set_cons_succ]
    refine wpAnyH_take (i := 6) (oi := ({ dst := some 31, op := Op.indexAddr 112 (Operand.tmp 30) (Operand.const (Value.int IntKind.i64 1)), type := 0, pos := "expr.go:137", after := #[{ on := 5, ground := Ground.data }], guard := none } : Oper)) (v := ?vb6) rfl (by kernel_rfl) (by kernel_rfl) (by kernel_rfl) (fun _ _ _ h => h) (Or.inl ⟨by rfl, ?hb6⟩) (by assumption) ?rb6
    case hb6 => (intro w hSw; (try dsimp only at hSw); obtain ⟨g0, g1, g2⟩ := hSw; go_simp; try (with_reducible rfl))
    try simp only [Act.put, List.setIfInBounds_toArray, List.set_cons_zero, List.set_cons_succ]
    refine wpAnyH_take (i := 7) (oi := ({ dst := some 32, op := Op.load 115 (Operand.tmp 31), type := 115, pos := "expr.go:137", after := #[{ on := 6, ground := Ground.data }], guard := none } : Oper)) (v := ?vb7) rfl (by kernel_rfl) (by kernel_rfl) (by kernel_rfl) (fun _ _ _ h => h) (Or.inl ⟨by rfl, ?hb7⟩) (by assumption) ?rb7
    case hb7 => (intro w hSw; (try dsimp only at hSw); obtain ⟨g0, g1, g2⟩ := hSw; go_simp; try (with_reducible rfl))
    try simp only [Act.put, List.setIfInBounds_toArray, List.set_cons_zero, List.set_cons_succ]
    refine wpAnyH_take (i := 8) (oi := ({ dst := some 33, op := Op.move (Operand.tmp 5), type := 94, pos := "expr.go:137", after := #[], guard := none } : Oper)) (v := ?vb8) rfl (by kernel_rfl) (by kernel_rfl) (by kernel_rfl) (fun _ _ _ h => h) (Or.inl ⟨by rfl, ?hb8⟩) (by assumption) ?rb8
    case hb8 => (intro w hSw; (try dsimp only at hSw); obtain ⟨g0, g1, g2⟩ := hSw; go_simp; try (with_reducible rfl))
    try simp only [Act.put, List.setIfInBounds_toArray, List.set_cons_zero, List.set_cons_succ]
    refine wpAnyH_ready (rs := [9]) (by kernel_rfl) (by simp) ?_
    refine AllReadyH.cons (o := ({ dst := some 34, op := Op.call { callee := Callee.value (Operand.func 82), args := #[Operand.tmp 29, Operand.tmp 32, Operand.tmp 33], argTypes := #[91, 115, 94] }, type := 94, pos := "expr.go:137", after := #[{ on := 4, ground := Ground.data }, { on := 7, ground := Ground.data }, { on := 8, ground := Ground.data }], guard := none } : Oper)) rfl (fun K hK => ?_) AllReadyH.nil
    go_simp
    refine (chain_calls 84 #[] #[.pointer (some ⟨w.heap.size, 0, none⟩), .pointer (some ⟨b4, 0, none⟩)] R sgAnd v1 wc.drew (HH.out.below HBD.out).blk (by decide) HWD.out.s1).mono ?_
    rintro e u1 ⟨⟨cap1, rfl, hcl1⟩, hbel⟩
    have HKD1 := Asd.mk (catK_stays _ _ _ _ (Fr.of_below hbel) HKD.out)
    have HAD1 := Asd.mk (blk_below hbel HAD.out)
    have HW2 := Asd.mk (HWD.out.below hbel)
    have HCL1 : Asd (OpOK 99 cap1 R A m c l (andP nm l sub) d u1) := Asd.mk (hcl1.op sgAnd_ok isGo_or1 HNE.out (notP_ahd HAH.out) (fun w' hf i' hr => by
      have := or1_calls cap' (CatK R cap') w.heap.size b4 R A m c l (notP nm l sub) i' d w' (catK_stays _ _ _ _ hf HKD1.out) (catK_stays _ _) (blk_fr HW2.out.p1 hf (by show ¬ w.heap.size = R; have := HRW.out; omega)) (blk_fr HAD1.out hf (by show ¬ b4 = R; have := HRW.out; have := HGE.out; omega)) (HNT.out cap') hr
      rw [Array.empty_append]; exact this))
    have HB1 : Asd (Below w.heap.size w u1) := Asd.mk (HBD.out.trans (hbel.mono HBD.out.size))
    clear hcl1 hbel
    go_wp2_with fail
    refine hK.out _ _ (keep4 HW2.out) (fun hHeld => ?_)
    clear hK K
    try simp only [Act.put, List.setIfInBounds_toArray, List.set_cons_zero, List.set_cons_succ]
    refine wpAnyH_ready (rs := [10]) (by kernel_rfl) (by simp) ?_
    refine AllReadyH.cons (o := ({ dst := some 35, op := Op.call { callee := Callee.value (Operand.func 82), args := #[Operand.tmp 25, Operand.tmp 28, Operand.tmp 34], argTypes := #[91, 115, 94] }, type := 94, pos := "expr.go:137", after := #[{ on := 0, ground := Ground.data }, { on := 3, ground := Ground.data }, { on := 9, ground := Ground.data }, { on := 9, ground := Ground.chain }], guard := none } : Oper)) rfl (fun K hK => ?_) AllReadyH.nil
    go_simp
    refine (chain_calls 99 #[] cap1 R sgOr v0 u1 (HH.out.below HB1.out).blk (by decide) HW2.out.s0).mono ?_
    rintro e u2 ⟨⟨cap2, rfl, hcl2⟩, hbel⟩
    have HCL2 : Asd (OpOK 99 cap2 R A m c l (orP nm l sub) d u2) := Asd.mk (hcl2.op sgOr_ok isGo_chain HNE.out (andP_ahd HAH.out) (by rw [Array.empty_append]; exact HCL1.out.fr (Fr.of_below hbel)))
    have HB2 : Asd (Below w.heap.size w u2) := Asd.mk (HB1.out.trans (hbel.mono HB1.out.size))
    have HW3 := Asd.mk (HW2.out.below hbel)
    clear hcl2 hbel
    go_wp2_with fail
    refine hK.out _ _ (keep4 HW3.out) (fun hHeld => ?_)
    clear hK K
    try simp only [Act.put, List.setIfInBounds_toArray, List.set_cons_zero, List.set_cons_succ]
    refine wpAnyH_ready (rs := [11]) (by kernel_rfl) (by simp) ?_
    refine AllReadyH.cons (o := ({ dst := some 36, op := Op.call { callee := Callee.value (Operand.tmp 35), args := #[], argTypes := #[] }, type := 26, pos := "expr.go:137", after := #[{ on := 10, ground := Ground.data }, { on := 10, ground := Ground.chain }], guard := none } : Oper)) rfl (fun K hK => ?_) AllReadyH.nil
    go_simp
    refine (HCL2.out u2 (Fr.refl _ _) i (HH.out.below HB2.out)).mono ?_
    rintro e u3 ⟨hf3, hm⟩
    have HF3 := Asd.mk (frR_below HB2.out hf3)
    have HZ3 := Asd.mk (blk_fr HW3.out.z hf3 (by show ¬ w.heap.size + 1 = R; have := HRW.out; omega))
    have hkeep := keep4F HW3.out hf3 (by have := HRW.out; omega) (cellsT_ne HW3.out.p3 (HH.out.below HB2.out).blk (by simp))
    have HSZ : Asd (w.heap.size + 1 < u2.heap.size) := Asd.mk (blk_lt HW3.out.z)
    clear hf3
    cases hfi : orP nm l sub i with
    | error er =>
      rw [hfi] at hm
      obtain ⟨N, rfl, hN⟩ := hm
      have HE := Asd.mk hfi
      clear hfi
      refine ⟨rfl, ?_⟩
      exact got_error HF3.out ⟨N, rfl, hN⟩
    | ok y =>
      obtain ⟨x, j⟩ := y
      rw [hfi] at hm
      have HE := Asd.mk hfi
      obtain ⟨s, rfl, hh, hr⟩ := hm
      obtain ⟨As, ms, cs, rfl⟩ := held_slice hh
      have HHX := Asd.mk hh
      have HRX := Asd.mk hr
      clear hfi hh hr
      unfold exV
      go_wp2_with fail
      refine hK.out _ _ hkeep (fun hHeld => ?_)
      clear hK K
      try simp only [Act.put, List.setIfInBounds_toArray, List.set_cons_zero, List.set_cons_succ]
      have y0 := (blk_cell HZ3.out 0).trans rfl
      have y1 := (blk_cell HZ3.out 1).trans rfl
      have y2 := (blk_cell HZ3.out 2).trans rfl
      have y3 := (blk_cell HZ3.out 3).trans rfl
      have y4 := (blk_cell HZ3.out 4).trans rfl
      have y5 := (blk_cell HZ3.out 5).trans rfl
      have y6 := (blk_cell HZ3.out 6).trans rfl
      have y7 := (blk_cell HZ3.out 7).trans rfl
      have y8 := (blk_cell HZ3.out 8).trans rfl
      have y9 := (blk_cell HZ3.out 9).trans rfl
      have z0 := blk_frozen HZ3.out 0
      have z1 := blk_frozen HZ3.out 1
      have z2 := blk_frozen HZ3.out 2
      have z3 := blk_frozen HZ3.out 3
      have z4 := blk_frozen HZ3.out 4
      have z5 := blk_frozen HZ3.out 5
      have z6 := blk_frozen HZ3.out 6
      have z7 := blk_frozen HZ3.out 7
      have z8 := blk_frozen HZ3.out 8
      have z9 := blk_frozen HZ3.out 9
      have hk5 := keep4S hkeep (put10_fr (W := u3) (b := w.heap.size + 1) (S := fun k => k = w.heap.size + 1) rfl (.int .i64 x.kind) (.int .i64 x.op) (.int .i64 x.v.kind) (.int .i64 x.v.int) (.string ⟨x.v.text.toArray⟩) (.string ⟨x.table.toArray⟩) (.string ⟨x.name.toArray⟩) (.int .i64 x.col) (.int .i64 x.ty) (.slice As ms cs)) (by omega) (cellsT_ne HW3.out.p3 HW3.out.z (by simp))
      refine wpAnyH_ready (rs := [12]) (by kernel_rfl) (by simp) ?_
      refine AllReadyH.cons (o := ({ dst := none, op := Op.store 26 (Operand.tmp 2) (Operand.tmp 36), type := 0, pos := "expr.go:137", after := #[{ on := 11, ground := Ground.data }, { on := 11, ground := Ground.chain }, { on := 0, ground := Ground.phase }, { on := 1, ground := Ground.phase }, { on := 2, ground := Ground.phase }, { on := 3, ground := Ground.phase }, { on := 4, ground := Ground.phase }, { on := 5, ground := Ground.phase }, { on := 6, ground := Ground.phase }, { on := 7, ground := Ground.phase }, { on := 8, ground := Ground.phase }, { on := 9, ground := Ground.phase }, { on := 10, ground := Ground.phase }, { on := 11, ground := Ground.phase }], guard := none } : Oper)) rfl (fun K hK => ?_) AllReadyH.nil
      go_simp
      go_wp2_with fail
      refine hK.out _ _ hk5 (fun hHeld => ?_)
      clear hK K
      try simp only [Act.put, List.setIfInBounds_toArray, List.set_cons_zero, List.set_cons_succ]
      refine wpAnyH_done (by kernel_rfl) ?_ _
      go_wp2
      refine bodyPost_ret (results_cell_row rfl _ _ (w.heap.size + 1) 26 _ (0, 0) _ rfl (put10_blk HZ3.out _ _ _ _ _ _ _ _ _ _) Tryz.underlying26 rfl (by kernel_rfl)) rfl ?_
      rw [HE.out]
      exact fin_got HH.out HF3.out (by omega) HRX.out (held_mono HHX.out fun g' _ hg => by have h1 : u2.heap.size ≤ g' := hg; have := HSZ.out; exact ⟨by omega, by omega⟩)

def ExAt (b base : Nat) (x : Ex) (W : World) : Prop := ∃ A n c, W.heap[b]? = some (.cells (exC x (.slice A n c)).toArray 26 (0, 0)) ∧ Held (fun g => base ≤ g ∧ g ≠ b) W x.args (.slice A n c)
theorem ExAt.set {b base : Nat} {x : Ex} {W : World} (h : ExAt b base x W) {R : Nat} (hb : b ≠ R) (hR : R < base) (j : Nat) (v : Value) : ExAt b base x (W.setCell ⟨R, j, none⟩ v) := by
  obtain ⟨A, n, c, h1, h2⟩ := h
  exact ⟨A, n, c, blk_far h1 hb _, held_frS h2 (Fr.setCell (S := fun k => k = R) (Fr.refl _ W) (p := ⟨R, j, none⟩) rfl v) (fun g hg h => by have h1 := hg.1; have h2 : g = R := h; omega)⟩
theorem ExAt.mono {b base base' : Nat} {x : Ex} {W : World} (h : ExAt b base x W) (hb : base' ≤ base) : ExAt b base' x W := by
  obtain ⟨A, n, c, h1, h2⟩ := h
  exact ⟨A, n, c, h1, held_mono h2 (fun g _ hg => ⟨by have := hg.1; omega, hg.2⟩)⟩
def inB (l : Toks) (r : Res Ex) : Except (Nat × Int) Nat := match r with
  | .ok x => mustT l x.2 5 [41]
  | .error x => .error x
def exOf (r : Res Ex) : Ex := match r with
  | .ok x => x.1
  | .error _ => litE vNull
set_option maxRecDepth 100000 in
theorem item1_calls (b1 b R : Nat) (A : Option Addr) (m c : Nat) (l : Toks) (f : Nat → Res Ex) (i d : Nat) (w : World) (hnear : Near l)
    (p1 : w.heap[b1]? = some (.cells #[.pointer (some ⟨R, 0, none⟩)] 91 (0, 0))) (pb : w.heap[b]? = some (.cells #[.int .i64 0, .int .i64 0, .int .i64 0, .int .i64 0, .string ⟨#[]⟩, .string ⟨#[]⟩, .string ⟨#[]⟩, .int .i64 0, .int .i64 0, .slice none 0 0] 26 (0, 0))) (n1 : b1 ≠ R) (hrb : R < b) (n1b : b1 ≠ b)
    (hf : PartOK 59 R A m c l f d) (h : RdW w R A m c l i d) :
    Calls Tryz.prog 122 #[.pointer (some ⟨b1, 0, none⟩), .pointer (some ⟨b, 0, none⟩)] w fun e w' => Fr (fun k => k = R ∨ k = b) w w' ∧ Ins R A m c l d (inB l (f i)) (ExAt b w.heap.size (exOf (f i))) e w' := by
  have HH := Asd.mk h
  have HF := Asd.mk hf
  have HNE := Asd.mk hnear
  have HRB := Asd.mk hrb
  have HLB : Asd (b < w.heap.size) := Asd.mk (blk_lt pb)
  have HP1 := Asd.mk p1
  have HPB := Asd.mk pb
  have HN1 := Asd.mk n1
  have HN1B := Asd.mk n1b
  have c1 := (blk_cell p1 0).trans rfl
  clear h hf hnear hrb p1 pb n1 n1b
  go_enter Tryz.func122, Tryz.ntmps122
  go_wp2_with fail
  refine (HF.out w i HH.out).mono ?_
  rintro e w1 ⟨hf1, hm⟩
  have HF1 := Asd.mk hf1
  have HP2 := Asd.mk (blk_fr HP1.out hf1 HN1.out)
  have HB2 := Asd.mk (blk_fr HPB.out hf1 (by show ¬ b = R; have := HRB.out; omega))
  clear hf1
  cases hfi : f i with
  | error er =>
    rw [hfi] at hm
    obtain ⟨N, rfl, hN⟩ := hm
    have HE := Asd.mk hfi
    clear hfi
    go_wp2
    refine ⟨rfl, HF1.out.mono (fun k h _ => .inl h), ?_⟩
    try rw [HE.out]
    exact ⟨N, rfl, hN⟩
  | ok y =>
    obtain ⟨x, j⟩ := y
    rw [hfi] at hm
    have HE := Asd.mk hfi
    obtain ⟨s, rfl, hh, hr⟩ := hm
    obtain ⟨As, ms, cs, rfl⟩ := held_slice hh
    have HHX := Asd.mk hh
    have HRX := Asd.mk hr
    clear hfi hh hr
    unfold exV
    have y0 := (blk_cell HB2.out 0).trans rfl
    have y1 := (blk_cell HB2.out 1).trans rfl
    have y2 := (blk_cell HB2.out 2).trans rfl
    have y3 := (blk_cell HB2.out 3).trans rfl
    have y4 := (blk_cell HB2.out 4).trans rfl
    have y5 := (blk_cell HB2.out 5).trans rfl
    have y6 := (blk_cell HB2.out 6).trans rfl
    have y7 := (blk_cell HB2.out 7).trans rfl
    have y8 := (blk_cell HB2.out 8).trans rfl
    have y9 := (blk_cell HB2.out 9).trans rfl
    have z0 := blk_frozen HB2.out 0
    have z1 := blk_frozen HB2.out 1
    have z2 := blk_frozen HB2.out 2
    have z3 := blk_frozen HB2.out 3
    have z4 := blk_frozen HB2.out 4
    have z5 := blk_frozen HB2.out 5
    have z6 := blk_frozen HB2.out 6
    have z7 := blk_frozen HB2.out 7
    have z8 := blk_frozen HB2.out 8
    have z9 := blk_frozen HB2.out 9
    have hst := put10_fr (W := w1) (b := b) (S := fun k => k = b) rfl (.int .i64 x.kind) (.int .i64 x.op) (.int .i64 x.v.kind) (.int .i64 x.v.int) (.string ⟨x.v.text.toArray⟩) (.string ⟨x.table.toArray⟩) (.string ⟨x.name.toArray⟩) (.int .i64 x.col) (.int .i64 x.ty) (.slice As ms cs)
    have HB3 : Asd (((((((((((w1.setCell ⟨b, 0, none⟩ (.int .i64 x.kind)).setCell ⟨b, 1, none⟩ (.int .i64 x.op)).setCell ⟨b, 2, none⟩ (.int .i64 x.v.kind)).setCell ⟨b, 3, none⟩ (.int .i64 x.v.int)).setCell ⟨b, 4, none⟩ (.string ⟨x.v.text.toArray⟩)).setCell ⟨b, 5, none⟩ (.string ⟨x.table.toArray⟩)).setCell ⟨b, 6, none⟩ (.string ⟨x.name.toArray⟩)).setCell ⟨b, 7, none⟩ (.int .i64 x.col)).setCell ⟨b, 8, none⟩ (.int .i64 x.ty)).setCell ⟨b, 9, none⟩ (.slice As ms cs)).heap[b]? = some (.cells (exC x (.slice As ms cs)).toArray 26 (0, 0))) := Asd.mk (put10_blk HB2.out _ _ _ _ _ _ _ _ _ _)
    have HF3 : Asd (Fr (fun k => k = R ∨ k = b) w ((((((((((w1.setCell ⟨b, 0, none⟩ (.int .i64 x.kind)).setCell ⟨b, 1, none⟩ (.int .i64 x.op)).setCell ⟨b, 2, none⟩ (.int .i64 x.v.kind)).setCell ⟨b, 3, none⟩ (.int .i64 x.v.int)).setCell ⟨b, 4, none⟩ (.string ⟨x.v.text.toArray⟩)).setCell ⟨b, 5, none⟩ (.string ⟨x.table.toArray⟩)).setCell ⟨b, 6, none⟩ (.string ⟨x.name.toArray⟩)).setCell ⟨b, 7, none⟩ (.int .i64 x.col)).setCell ⟨b, 8, none⟩ (.int .i64 x.ty)).setCell ⟨b, 9, none⟩ (.slice As ms cs))) := Asd.mk (HF1.out.trans hst (fun k h _ => .inl h) (fun k h _ => .inr h))
    have HR3 : Asd (RdW ((((((((((w1.setCell ⟨b, 0, none⟩ (.int .i64 x.kind)).setCell ⟨b, 1, none⟩ (.int .i64 x.op)).setCell ⟨b, 2, none⟩ (.int .i64 x.v.kind)).setCell ⟨b, 3, none⟩ (.int .i64 x.v.int)).setCell ⟨b, 4, none⟩ (.string ⟨x.v.text.toArray⟩)).setCell ⟨b, 5, none⟩ (.string ⟨x.table.toArray⟩)).setCell ⟨b, 6, none⟩ (.string ⟨x.name.toArray⟩)).setCell ⟨b, 7, none⟩ (.int .i64 x.col)).setCell ⟨b, 8, none⟩ (.int .i64 x.ty)).setCell ⟨b, 9, none⟩ (.slice As ms cs)) R A m c l j d) := Asd.mk (HRX.out.var (x := .mk 0 0 vNull [] [] 0 0 []) (y := x) hst (by have := HRB.out; omega) HRB.out HB2.out HB3.out)
    have HP3 := Asd.mk (blk_fr HP2.out hst HN1B.out)
    have HH3 := Asd.mk (held_frS (held_mono HHX.out (fun g _ hg => (⟨hg, by have h1 : w.heap.size ≤ g := hg; have := HLB.out; omega⟩ : w.heap.size ≤ g ∧ g ≠ b))) hst (fun g hg h => hg.2 h))
    clear hst
    have c2 := (blk_cell HP3.out 0).trans rfl
    go_wp2_with fail
    generalize ((((((((((w1.setCell ⟨b, 0, none⟩ (.int .i64 x.kind)).setCell ⟨b, 1, none⟩ (.int .i64 x.op)).setCell ⟨b, 2, none⟩ (.int .i64 x.v.kind)).setCell ⟨b, 3, none⟩ (.int .i64 x.v.int)).setCell ⟨b, 4, none⟩ (.string ⟨x.v.text.toArray⟩)).setCell ⟨b, 5, none⟩ (.string ⟨x.table.toArray⟩)).setCell ⟨b, 6, none⟩ (.string ⟨x.name.toArray⟩)).setCell ⟨b, 7, none⟩ (.int .i64 x.col)).setCell ⟨b, 8, none⟩ (.int .i64 x.ty)).setCell ⟨b, 9, none⟩ (.slice As ms cs)) = w3 at HB3 HF3 HR3 HP3 HH3 ⊢
    refine (must_calls R A m c l j d 5 [41] w3 HNE.out (by omega) HR3.out).mono ?_
    rintro e w4 ⟨hf4, hm⟩
    have HF4 : Asd (Fr (fun k => k = R ∨ k = b) w w4) := Asd.mk (HF3.out.trans hf4 (fun k h _ => h) (fun k h _ => .inl h))
    have HB4 := Asd.mk (blk_fr HB3.out hf4 (by show ¬ b = R; have := HRB.out; omega))
    have HH4 := Asd.mk (held_frS HH3.out hf4 (fun g hg h => by have h1 := hg.1; have h2 : g = R := h; have := blk_lt HH.out.blk; omega))
    clear hf4
    cases hM : mustT l j 5 [41] with
    | error er =>
      rw [hM] at hm
      obtain ⟨N, rfl, hN⟩ := hm
      have HM := Asd.mk hM
      clear hM
      go_wp2
      refine ⟨rfl, HF4.out, ?_⟩
      rw [HE.out]
      show Ins _ _ _ _ _ _ (mustT l j 5 [41]) _ _ _
      rw [HM.out]
      exact ⟨N, rfl, hN⟩
    | ok q =>
      rw [hM] at hm
      obtain ⟨rfl, hr4⟩ := hm
      have HR4 := Asd.mk hr4
      have HM := Asd.mk hM
      clear hM hr4
      go_wp2
      refine bodyPost_end (results_none rfl _ _ _) rfl ?_
      refine ⟨HF4.out, ?_⟩
      rw [HE.out]
      show Ins _ _ _ _ _ _ (mustT l j 5 [41]) _ _ _
      rw [HM.out]
      exact ⟨rfl, HR4.out, As, ms, cs, HB4.out, HH4.out⟩
set_option maxRecDepth 100000 in
theorem item_calls (nm : List UInt8 → Bool) (R : Nat) (A : Option Addr) (m c : Nat) (l : Toks) (sub : Option PF) (i d : Nat) (w : World) (hnear : Near l) (hd : d ≤ 32)
    (hword : ∀ (w : World) (i : Nat) (s : List UInt8), i < l.length → RdW w R A m c l i d → Calls Tryz.prog 120 #[.pointer (some ⟨R, 0, none⟩), .string ⟨s.toArray⟩] w (Got R A m c l d w (wordP nm l sub s i)))
    (hsome : ∀ p, sub = some p → d < 32 ∧ PartOK 59 R A m c l p.or (d + 1)) (hnone : sub = none → ¬ d < 32) (h : RdW w R A m c l i d) :
    Calls Tryz.prog 103 #[.pointer (some ⟨R, 0, none⟩)] w (Got R A m c l d w (itemP nm l sub i)) := by
  have HH := Asd.mk h
  have HWO := Asd.mk hword
  have HSO := Asd.mk hsome
  have HNO := Asd.mk hnone
  have HNE := Asd.mk hnear
  have HD := Asd.mk hd
  have hmf := mk_func
  have HBA := Asd.mk (below_alloc (below_alloc (Below.refl _ w) (.cells #[.pointer (some ⟨R, 0, none⟩)] 91 (0, 0))) (.cells #[.int .i64 0, .int .i64 0, .int .i64 0, .int .i64 0, .string ⟨#[]⟩, .string ⟨#[]⟩, .string ⟨#[]⟩, .int .i64 0, .int .i64 0, .slice none 0 0] 26 (0, 0)))
  have HP1 := Asd.mk (blk_alloc (blk_new w (.cells #[.pointer (some ⟨R, 0, none⟩)] 91 (0, 0))) (.cells #[.int .i64 0, .int .i64 0, .int .i64 0, .int .i64 0, .string ⟨#[]⟩, .string ⟨#[]⟩, .string ⟨#[]⟩, .int .i64 0, .int .i64 0, .slice none 0 0] 26 (0, 0)))
  have HZ0 := Asd.mk (nb1 w (.cells #[.pointer (some ⟨R, 0, none⟩)] 91 (0, 0)) (.cells #[.int .i64 0, .int .i64 0, .int .i64 0, .int .i64 0, .string ⟨#[]⟩, .string ⟨#[]⟩, .string ⟨#[]⟩, .int .i64 0, .int .i64 0, .slice none 0 0] 26 (0, 0)))
  have HRW : Asd (R < w.heap.size) := Asd.mk (blk_lt h.blk)
  have hib : i ≤ 16384 := by have h1 := h.tok.1; have h2 := h.tok.2.1; have h3 := h.le; omega
  clear h hword hsome hnone hnear hd
  go_enter Tryz.func103, Tryz.ntmps103
  go_wp2_with fail
  generalize (w.alloc (.cells #[.pointer (some ⟨R, 0, none⟩)] 91 (0, 0))).alloc (.cells #[.int .i64 0, .int .i64 0, .int .i64 0, .int .i64 0, .string ⟨#[]⟩, .string ⟨#[]⟩, .string ⟨#[]⟩, .int .i64 0, .int .i64 0, .slice none 0 0] 26 (0, 0)) = w0 at HBA HP1 HZ0 ⊢
  refine (token_calls R A m c l i d w0 (HH.out.below HBA.out)).mono ?_
  rintro e w1 ⟨rfl, hb1⟩
  have HB1 : Asd (Below w.heap.size w w1) := Asd.mk (HBA.out.trans (hb1.mono HBA.out.size))
  have HP2 := Asd.mk (blk_below hb1 HP1.out)
  have HZ1 := Asd.mk (blk_below hb1 HZ0.out)
  have HSZ : Asd (w.heap.size + 1 < w1.heap.size) := Asd.mk (blk_lt HZ1.out)
  clear hb1 HBA HP1 HZ0
  by_cases hlt : i < l.length
  · rw [tkV_some hlt]
    have HL := Asd.mk (List.getElem?_eq_getElem hlt)
    generalize l[i] = x at HL ⊢
    obtain ⟨⟨kd, tx, nu⟩, pl⟩ := x
    simp only
    by_cases h2 : kd = 2
    · subst h2
      have HI : Asd (itemP nm l sub i = .ok (litE ⟨2, nu, []⟩, i + 1)) := Asd.mk (by unfold itemP; rw [HL.out]; simp)
      have HB2 : Asd (Below w.heap.size w (w1.alloc (.cells #[.int .i64 2, .string ⟨tx.toArray⟩, .int .i64 ((pl : Nat) : Int), .int .i64 nu] 88 (0, 0)))) := Asd.mk (below_alloc HB1.out _)
      have HT2 := Asd.mk (blk_new w1 (.cells #[.int .i64 2, .string ⟨tx.toArray⟩, .int .i64 ((pl : Nat) : Int), .int .i64 nu] 88 (0, 0)))
      have HZ2 := Asd.mk (blk_alloc HZ1.out (.cells #[.int .i64 2, .string ⟨tx.toArray⟩, .int .i64 ((pl : Nat) : Int), .int .i64 nu] 88 (0, 0)))
      have HP3 := Asd.mk (blk_alloc HP2.out (.cells #[.int .i64 2, .string ⟨tx.toArray⟩, .int .i64 ((pl : Nat) : Int), .int .i64 nu] 88 (0, 0)))
      have HR2 := Asd.mk (HH.out.below HB2.out)
      have c1 := (blk_cell HP3.out 0).trans rfl
      have r1 := (blk_cell HR2.out.blk 1).trans rfl
      have z1 := blk_frozen HR2.out.blk 1
      have hs := HR2.out.set (j := i + 1) (by omega)
      have HRS := Asd.mk hs.2
      have HFS := Asd.mk (frR_below HB2.out hs.1)
      have HZS := Asd.mk (blk_fr HZ2.out hs.1 (by show ¬ w.heap.size + 1 = R; have := HRW.out; omega))
      have t2 : ((w1.alloc (.cells #[.int .i64 2, .string ⟨tx.toArray⟩, .int .i64 ((pl : Nat) : Int), .int .i64 nu] 88 (0, 0))).setCell ⟨R, 1, none⟩ (.int .i64 ((i : Int) + 1))).cell? ⟨w1.heap.size, 3, none⟩ = some (.int .i64 nu) := cell_frS hs.1 (by show ¬ w1.heap.size = R; have := HRW.out; have := HSZ.out; omega) ((blk_cell HT2.out 3).trans rfl)
      clear hs
      go_wp2_with fail
      change Calls _ _ _ ((w1.alloc (.cells #[.int .i64 2, .string ⟨tx.toArray⟩, .int .i64 ((pl : Nat) : Int), .int .i64 nu] 88 (0, 0))).setCell ⟨R, 1, none⟩ (.int .i64 ((i + 1 : Nat) : Int))) _
      generalize ((w1.alloc (.cells #[.int .i64 2, .string ⟨tx.toArray⟩, .int .i64 ((pl : Nat) : Int), .int .i64 nu] 88 (0, 0))).setCell ⟨R, 1, none⟩ (.int .i64 ((i + 1 : Nat) : Int))) = w3 at HRS HFS HZS ⊢
      refine (literal_calls ⟨2, nu, []⟩ w3).mono ?_
      rintro e w4 ⟨rfl, hb4⟩
      have HF4 := Asd.mk (below_frR HFS.out hb4)
      have HZ4 := Asd.mk (blk_below hb4 HZS.out)
      have HR4 := Asd.mk (HRS.out.below hb4)
      clear hb4 t2 c1 r1 z1
      unfold exV
      have y0 := (blk_cell HZ4.out 0).trans rfl
      have y1 := (blk_cell HZ4.out 1).trans rfl
      have y2 := (blk_cell HZ4.out 2).trans rfl
      have y3 := (blk_cell HZ4.out 3).trans rfl
      have y4 := (blk_cell HZ4.out 4).trans rfl
      have y5 := (blk_cell HZ4.out 5).trans rfl
      have y6 := (blk_cell HZ4.out 6).trans rfl
      have y7 := (blk_cell HZ4.out 7).trans rfl
      have y8 := (blk_cell HZ4.out 8).trans rfl
      have y9 := (blk_cell HZ4.out 9).trans rfl
      have z0 := blk_frozen HZ4.out 0
      have z1 := blk_frozen HZ4.out 1
      have z2 := blk_frozen HZ4.out 2
      have z3 := blk_frozen HZ4.out 3
      have z4 := blk_frozen HZ4.out 4
      have z5 := blk_frozen HZ4.out 5
      have z6 := blk_frozen HZ4.out 6
      have z7 := blk_frozen HZ4.out 7
      have z8 := blk_frozen HZ4.out 8
      have z9 := blk_frozen HZ4.out 9
      go_wp2
      refine bodyPost_ret (results_cell_row rfl _ _ (w.heap.size + 1) 26 _ (0, 0) _ rfl (put10_blk HZ4.out _ _ _ _ _ _ _ _ _ _) Tryz.underlying26 rfl (by kernel_rfl)) rfl ?_
      rw [HI.out]
      exact fin_got (x := litE ⟨2, nu, []⟩) HH.out HF4.out (by omega) HR4.out (.nil _ _)
    by_cases h3 : kd = 3
    · subst h3
      have HI : Asd (itemP nm l sub i = .ok (litE ⟨3, 0, tx⟩, i + 1)) := Asd.mk (by unfold itemP; rw [HL.out]; simp)
      have HB2 : Asd (Below w.heap.size w (w1.alloc (.cells #[.int .i64 3, .string ⟨tx.toArray⟩, .int .i64 ((pl : Nat) : Int), .int .i64 nu] 88 (0, 0)))) := Asd.mk (below_alloc HB1.out _)
      have HT2 := Asd.mk (blk_new w1 (.cells #[.int .i64 3, .string ⟨tx.toArray⟩, .int .i64 ((pl : Nat) : Int), .int .i64 nu] 88 (0, 0)))
      have HZ2 := Asd.mk (blk_alloc HZ1.out (.cells #[.int .i64 3, .string ⟨tx.toArray⟩, .int .i64 ((pl : Nat) : Int), .int .i64 nu] 88 (0, 0)))
      have HP3 := Asd.mk (blk_alloc HP2.out (.cells #[.int .i64 3, .string ⟨tx.toArray⟩, .int .i64 ((pl : Nat) : Int), .int .i64 nu] 88 (0, 0)))
      have HR2 := Asd.mk (HH.out.below HB2.out)
      have c1 := (blk_cell HP3.out 0).trans rfl
      have r1 := (blk_cell HR2.out.blk 1).trans rfl
      have z1 := blk_frozen HR2.out.blk 1
      have hs := HR2.out.set (j := i + 1) (by omega)
      have HRS := Asd.mk hs.2
      have HFS := Asd.mk (frR_below HB2.out hs.1)
      have HZS := Asd.mk (blk_fr HZ2.out hs.1 (by show ¬ w.heap.size + 1 = R; have := HRW.out; omega))
      have t2 : ((w1.alloc (.cells #[.int .i64 3, .string ⟨tx.toArray⟩, .int .i64 ((pl : Nat) : Int), .int .i64 nu] 88 (0, 0))).setCell ⟨R, 1, none⟩ (.int .i64 ((i : Int) + 1))).cell? ⟨w1.heap.size, 1, none⟩ = some (.string ⟨tx.toArray⟩) := cell_frS hs.1 (by show ¬ w1.heap.size = R; have := HRW.out; have := HSZ.out; omega) ((blk_cell HT2.out 1).trans rfl)
      clear hs
      go_wp2_with fail
      change Calls _ _ _ ((w1.alloc (.cells #[.int .i64 3, .string ⟨tx.toArray⟩, .int .i64 ((pl : Nat) : Int), .int .i64 nu] 88 (0, 0))).setCell ⟨R, 1, none⟩ (.int .i64 ((i + 1 : Nat) : Int))) _
      generalize ((w1.alloc (.cells #[.int .i64 3, .string ⟨tx.toArray⟩, .int .i64 ((pl : Nat) : Int), .int .i64 nu] 88 (0, 0))).setCell ⟨R, 1, none⟩ (.int .i64 ((i + 1 : Nat) : Int))) = w3 at HRS HFS HZS ⊢
      refine (literal_calls ⟨3, 0, tx⟩ w3).mono ?_
      rintro e w4 ⟨rfl, hb4⟩
      have HF4 := Asd.mk (below_frR HFS.out hb4)
      have HZ4 := Asd.mk (blk_below hb4 HZS.out)
      have HR4 := Asd.mk (HRS.out.below hb4)
      clear hb4 t2 c1 r1 z1
      unfold exV
      have y0 := (blk_cell HZ4.out 0).trans rfl
      have y1 := (blk_cell HZ4.out 1).trans rfl
      have y2 := (blk_cell HZ4.out 2).trans rfl
      have y3 := (blk_cell HZ4.out 3).trans rfl
      have y4 := (blk_cell HZ4.out 4).trans rfl
      have y5 := (blk_cell HZ4.out 5).trans rfl
      have y6 := (blk_cell HZ4.out 6).trans rfl
      have y7 := (blk_cell HZ4.out 7).trans rfl
      have y8 := (blk_cell HZ4.out 8).trans rfl
      have y9 := (blk_cell HZ4.out 9).trans rfl
      have z0 := blk_frozen HZ4.out 0
      have z1 := blk_frozen HZ4.out 1
      have z2 := blk_frozen HZ4.out 2
      have z3 := blk_frozen HZ4.out 3
      have z4 := blk_frozen HZ4.out 4
      have z5 := blk_frozen HZ4.out 5
      have z6 := blk_frozen HZ4.out 6
      have z7 := blk_frozen HZ4.out 7
      have z8 := blk_frozen HZ4.out 8
      have z9 := blk_frozen HZ4.out 9
      go_wp2
      refine bodyPost_ret (results_cell_row rfl _ _ (w.heap.size + 1) 26 _ (0, 0) _ rfl (put10_blk HZ4.out _ _ _ _ _ _ _ _ _ _) Tryz.underlying26 rfl (by kernel_rfl)) rfl ?_
      rw [HI.out]
      exact fin_got (x := litE ⟨3, 0, tx⟩) HH.out HF4.out (by omega) HR4.out (.nil _ _)
    by_cases h4 : kd = 4
    · subst h4
      have HI : Asd (itemP nm l sub i = .ok (litE ⟨4, 0, tx⟩, i + 1)) := Asd.mk (by unfold itemP; rw [HL.out]; simp)
      have HB2 : Asd (Below w.heap.size w (w1.alloc (.cells #[.int .i64 4, .string ⟨tx.toArray⟩, .int .i64 ((pl : Nat) : Int), .int .i64 nu] 88 (0, 0)))) := Asd.mk (below_alloc HB1.out _)
      have HT2 := Asd.mk (blk_new w1 (.cells #[.int .i64 4, .string ⟨tx.toArray⟩, .int .i64 ((pl : Nat) : Int), .int .i64 nu] 88 (0, 0)))
      have HZ2 := Asd.mk (blk_alloc HZ1.out (.cells #[.int .i64 4, .string ⟨tx.toArray⟩, .int .i64 ((pl : Nat) : Int), .int .i64 nu] 88 (0, 0)))
      have HP3 := Asd.mk (blk_alloc HP2.out (.cells #[.int .i64 4, .string ⟨tx.toArray⟩, .int .i64 ((pl : Nat) : Int), .int .i64 nu] 88 (0, 0)))
      have HR2 := Asd.mk (HH.out.below HB2.out)
      have c1 := (blk_cell HP3.out 0).trans rfl
      have r1 := (blk_cell HR2.out.blk 1).trans rfl
      have z1 := blk_frozen HR2.out.blk 1
      have hs := HR2.out.set (j := i + 1) (by omega)
      have HRS := Asd.mk hs.2
      have HFS := Asd.mk (frR_below HB2.out hs.1)
      have HZS := Asd.mk (blk_fr HZ2.out hs.1 (by show ¬ w.heap.size + 1 = R; have := HRW.out; omega))
      have t2 : ((w1.alloc (.cells #[.int .i64 4, .string ⟨tx.toArray⟩, .int .i64 ((pl : Nat) : Int), .int .i64 nu] 88 (0, 0))).setCell ⟨R, 1, none⟩ (.int .i64 ((i : Int) + 1))).cell? ⟨w1.heap.size, 1, none⟩ = some (.string ⟨tx.toArray⟩) := cell_frS hs.1 (by show ¬ w1.heap.size = R; have := HRW.out; have := HSZ.out; omega) ((blk_cell HT2.out 1).trans rfl)
      clear hs
      go_wp2_with fail
      change Calls _ _ _ ((w1.alloc (.cells #[.int .i64 4, .string ⟨tx.toArray⟩, .int .i64 ((pl : Nat) : Int), .int .i64 nu] 88 (0, 0))).setCell ⟨R, 1, none⟩ (.int .i64 ((i + 1 : Nat) : Int))) _
      generalize ((w1.alloc (.cells #[.int .i64 4, .string ⟨tx.toArray⟩, .int .i64 ((pl : Nat) : Int), .int .i64 nu] 88 (0, 0))).setCell ⟨R, 1, none⟩ (.int .i64 ((i + 1 : Nat) : Int))) = w3 at HRS HFS HZS ⊢
      refine (literal_calls ⟨4, 0, tx⟩ w3).mono ?_
      rintro e w4 ⟨rfl, hb4⟩
      have HF4 := Asd.mk (below_frR HFS.out hb4)
      have HZ4 := Asd.mk (blk_below hb4 HZS.out)
      have HR4 := Asd.mk (HRS.out.below hb4)
      clear hb4 t2 c1 r1 z1
      unfold exV
      have y0 := (blk_cell HZ4.out 0).trans rfl
      have y1 := (blk_cell HZ4.out 1).trans rfl
      have y2 := (blk_cell HZ4.out 2).trans rfl
      have y3 := (blk_cell HZ4.out 3).trans rfl
      have y4 := (blk_cell HZ4.out 4).trans rfl
      have y5 := (blk_cell HZ4.out 5).trans rfl
      have y6 := (blk_cell HZ4.out 6).trans rfl
      have y7 := (blk_cell HZ4.out 7).trans rfl
      have y8 := (blk_cell HZ4.out 8).trans rfl
      have y9 := (blk_cell HZ4.out 9).trans rfl
      have z0 := blk_frozen HZ4.out 0
      have z1 := blk_frozen HZ4.out 1
      have z2 := blk_frozen HZ4.out 2
      have z3 := blk_frozen HZ4.out 3
      have z4 := blk_frozen HZ4.out 4
      have z5 := blk_frozen HZ4.out 5
      have z6 := blk_frozen HZ4.out 6
      have z7 := blk_frozen HZ4.out 7
      have z8 := blk_frozen HZ4.out 8
      have z9 := blk_frozen HZ4.out 9
      go_wp2
      refine bodyPost_ret (results_cell_row rfl _ _ (w.heap.size + 1) 26 _ (0, 0) _ rfl (put10_blk HZ4.out _ _ _ _ _ _ _ _ _ _) Tryz.underlying26 rfl (by kernel_rfl)) rfl ?_
      rw [HI.out]
      exact fin_got (x := litE ⟨4, 0, tx⟩) HH.out HF4.out (by omega) HR4.out (.nil _ _)
    by_cases h1 : kd = 1
    · subst h1
      have HI : Asd (itemP nm l sub i = wordP nm l sub tx i) := Asd.mk (by unfold itemP; rw [HL.out]; simp)
      have HB2 : Asd (Below w.heap.size w (w1.alloc (.cells #[.int .i64 1, .string ⟨tx.toArray⟩, .int .i64 ((pl : Nat) : Int), .int .i64 nu] 88 (0, 0)))) := Asd.mk (below_alloc HB1.out _)
      have HZ2 := Asd.mk (blk_alloc HZ1.out (.cells #[.int .i64 1, .string ⟨tx.toArray⟩, .int .i64 ((pl : Nat) : Int), .int .i64 nu] 88 (0, 0)))
      have HP3 := Asd.mk (blk_alloc HP2.out (.cells #[.int .i64 1, .string ⟨tx.toArray⟩, .int .i64 ((pl : Nat) : Int), .int .i64 nu] 88 (0, 0)))
      have c1 := (blk_cell HP3.out 0).trans rfl
      clear h2 h3 h4
      have HLT := Asd.mk hlt
      go_wp2_with fail
      generalize w1.alloc (.cells #[.int .i64 1, .string ⟨tx.toArray⟩, .int .i64 ((pl : Nat) : Int), .int .i64 nu] 88 (0, 0)) = w2 at HB2 HZ2 HP3 ⊢
      refine (HWO.out w2 i tx HLT.out (HH.out.below HB2.out)).mono ?_
      rintro e w3 ⟨hf3, hm⟩
      have HF3 := Asd.mk (frR_below HB2.out hf3)
      have HZ3 := Asd.mk (blk_fr HZ2.out hf3 (by show ¬ w.heap.size + 1 = R; have := HRW.out; omega))
      have HSZ2 : Asd (w.heap.size + 1 < w2.heap.size) := Asd.mk (blk_lt HZ2.out)
      clear hf3
      cases hfi : wordP nm l sub tx i with
      | error er =>
        rw [hfi] at hm
        have HE : Asd (itemP nm l sub i = .error er) := Asd.mk (by rw [HI.out, hfi])
        obtain ⟨N, rfl, hN⟩ := hm
        clear hfi
        go_wp2
        refine ⟨rfl, ?_⟩
        rw [HE.out]
        exact got_error HF3.out ⟨N, rfl, hN⟩
      | ok y =>
        obtain ⟨x, j⟩ := y
        rw [hfi] at hm
        have HE : Asd (itemP nm l sub i = .ok (x, j)) := Asd.mk (by rw [HI.out, hfi])
        obtain ⟨s, rfl, hh, hr⟩ := hm
        obtain ⟨As, ms, cs, rfl⟩ := held_slice hh
        have HHX := Asd.mk hh
        have HRX := Asd.mk hr
        clear hfi hh hr
        unfold exV
        have y0 := (blk_cell HZ3.out 0).trans rfl
        have y1 := (blk_cell HZ3.out 1).trans rfl
        have y2 := (blk_cell HZ3.out 2).trans rfl
        have y3 := (blk_cell HZ3.out 3).trans rfl
        have y4 := (blk_cell HZ3.out 4).trans rfl
        have y5 := (blk_cell HZ3.out 5).trans rfl
        have y6 := (blk_cell HZ3.out 6).trans rfl
        have y7 := (blk_cell HZ3.out 7).trans rfl
        have y8 := (blk_cell HZ3.out 8).trans rfl
        have y9 := (blk_cell HZ3.out 9).trans rfl
        have z0 := blk_frozen HZ3.out 0
        have z1 := blk_frozen HZ3.out 1
        have z2 := blk_frozen HZ3.out 2
        have z3 := blk_frozen HZ3.out 3
        have z4 := blk_frozen HZ3.out 4
        have z5 := blk_frozen HZ3.out 5
        have z6 := blk_frozen HZ3.out 6
        have z7 := blk_frozen HZ3.out 7
        have z8 := blk_frozen HZ3.out 8
        have z9 := blk_frozen HZ3.out 9
        go_wp2
        refine bodyPost_ret (results_cell_row rfl _ _ (w.heap.size + 1) 26 _ (0, 0) _ rfl (put10_blk HZ3.out _ _ _ _ _ _ _ _ _ _) Tryz.underlying26 rfl (by kernel_rfl)) rfl ?_
        rw [HE.out]
        exact fin_got HH.out HF3.out (by omega) HRX.out (held_mono HHX.out fun g _ hg => by have h1 : w2.heap.size ≤ g := hg; have := HSZ2.out; exact ⟨by omega, by omega⟩)
    have g2 : ¬ ((kd : Nat) : Int) = 2 := by omega
    have g3 : ¬ ((kd : Nat) : Int) = 3 := by omega
    have g4 : ¬ ((kd : Nat) : Int) = 4 := by omega
    have g1 : ¬ ((kd : Nat) : Int) = 1 := by omega
    have HI : Asd (itemP nm l sub i = if isT l i 5 [40] then brackP l sub i else .error (stopAt l i, 20)) := Asd.mk (by unfold itemP; rw [HL.out]; simp only [if_neg h1, if_neg h2, if_neg h3, if_neg h4])
    clear h1 h2 h3 h4
    have HB2 : Asd (Below w.heap.size w (w1.alloc (.cells #[.int .i64 ((kd : Nat) : Int), .string ⟨tx.toArray⟩, .int .i64 ((pl : Nat) : Int), .int .i64 nu] 88 (0, 0)))) := Asd.mk (below_alloc HB1.out _)
    have HZ2 := Asd.mk (blk_alloc HZ1.out (.cells #[.int .i64 ((kd : Nat) : Int), .string ⟨tx.toArray⟩, .int .i64 ((pl : Nat) : Int), .int .i64 nu] 88 (0, 0)))
    have HP3 := Asd.mk (blk_alloc HP2.out (.cells #[.int .i64 ((kd : Nat) : Int), .string ⟨tx.toArray⟩, .int .i64 ((pl : Nat) : Int), .int .i64 nu] 88 (0, 0)))
    have c1 := (blk_cell HP3.out 0).trans rfl
    go_wp2_with fail
    generalize w1.alloc (.cells #[.int .i64 ((kd : Nat) : Int), .string ⟨tx.toArray⟩, .int .i64 ((pl : Nat) : Int), .int .i64 nu] 88 (0, 0)) = w2 at HB2 HZ2 HP3 ⊢
    refine (is_calls R A m c l i d 5 [40] w2 (by omega) (HH.out.below HB2.out)).mono ?_
    rintro e w3 ⟨rfl, hb3⟩
    have HB3 : Asd (Below w.heap.size w w3) := Asd.mk (HB2.out.trans (hb3.mono HB2.out.size))
    have HZ3 := Asd.mk (blk_below hb3 HZ2.out)
    have HP4 := Asd.mk (blk_below hb3 HP3.out)
    have c3 := (blk_cell HP4.out 0).trans rfl
    clear hb3 c1
    cases hT : isT l i 5 [40] with
    | false =>
      have HE : Asd (itemP nm l sub i = .error (stopAt l i, 20)) := Asd.mk (by rw [HI.out, hT]; rfl)
      clear hT
      go_wp2_with fail
      refine (stop_calls R A m c l i d 20 w3 HNE.out (HH.out.below HB3.out)).mono ?_
      rintro e w4 ⟨hb4, N, rfl, hN⟩
      refine ⟨rfl, ?_⟩
      rw [HE.out]
      exact got_error (Fr.of_below (HB3.out.trans (hb4.mono HB3.out.size))) ⟨N, rfl, hN⟩
    | true =>
      have HIB : Asd (itemP nm l sub i = brackP l sub i) := Asd.mk (by rw [HI.out, hT]; rfl)
      have HLT := Asd.mk (isT_lt hT)
      clear hT
      have HBB := Asd.mk (below_alloc HB3.out (.cells #[.int .i64 0, .int .i64 0, .int .i64 0, .int .i64 0, .string ⟨#[]⟩, .string ⟨#[]⟩, .string ⟨#[]⟩, .int .i64 0, .int .i64 0, .slice none 0 0] 26 (0, 0)))
      have HU0 := Asd.mk (blk_new w3 (.cells #[.int .i64 0, .int .i64 0, .int .i64 0, .int .i64 0, .string ⟨#[]⟩, .string ⟨#[]⟩, .string ⟨#[]⟩, .int .i64 0, .int .i64 0, .slice none 0 0] 26 (0, 0)))
      have HP5 := Asd.mk (blk_alloc HP4.out (.cells #[.int .i64 0, .int .i64 0, .int .i64 0, .int .i64 0, .string ⟨#[]⟩, .string ⟨#[]⟩, .string ⟨#[]⟩, .int .i64 0, .int .i64 0, .slice none 0 0] 26 (0, 0)))
      have HZ5 := Asd.mk (blk_alloc HZ3.out (.cells #[.int .i64 0, .int .i64 0, .int .i64 0, .int .i64 0, .string ⟨#[]⟩, .string ⟨#[]⟩, .string ⟨#[]⟩, .int .i64 0, .int .i64 0, .slice none 0 0] 26 (0, 0)))
      have HSW : Asd (w.heap.size + 1 < w3.heap.size) := Asd.mk (blk_lt HZ3.out)
      have c5 := (blk_cell HP5.out 0).trans rfl
      go_wp2_with fail
      generalize w3.alloc (.cells #[.int .i64 0, .int .i64 0, .int .i64 0, .int .i64 0, .string ⟨#[]⟩, .string ⟨#[]⟩, .string ⟨#[]⟩, .int .i64 0, .int .i64 0, .slice none 0 0] 26 (0, 0)) = w4 at HBB HU0 HP5 HZ5 ⊢
      have HRD := Asd.mk (HH.out.below HBB.out)
      have HB4 : Asd (w3.heap.size < w4.heap.size) := Asd.mk (blk_lt HU0.out)
      generalize w3.heap.size = b3 at HU0 HSW HB4 ⊢
      cases hs : sub with
      | none =>
        have HE : Asd (itemP nm l sub i = .error (stopAt l i, 21)) := Asd.mk (by rw [HIB.out, hs]; rfl)
        have hnd := HNO.out hs
        refine (within_calls 122 #[.pointer (some ⟨w.heap.size, 0, none⟩), .pointer (some ⟨b3, 0, none⟩)] (fun k => k = R) R A m c l i d (.error (stopAt l i, 21)) (fun _ => True) w4 HNE.out rfl (isGo_of Tryz.func122 (by kernel_rfl) rfl) HLT.out HD.out (fun _ _ _ => trivial) HRD.out (fun h => absurd h hnd)).mono ?_
        rintro e w5 ⟨hf5, hm⟩
        rw [if_neg hnd] at hm
        obtain ⟨N, rfl, hN⟩ := hm
        refine ⟨rfl, ?_⟩
        first | rw [← hs, HE.out] | rw [HE.out]
        exact got_error (frR_below HBB.out hf5) ⟨N, rfl, hN⟩
      | some p =>
        obtain ⟨hd32, hpart⟩ := HSO.out p hs
        have HPA := Asd.mk hpart
        have HS := Asd.mk hs
        have HE : Asd (itemP nm l sub i = match p.or (i + 1) with | .error x => .error x | .ok (e, j) => match mustT l j 5 [41] with | .error x => .error x | .ok k => .ok (e, k)) := Asd.mk (by rw [HIB.out, hs]; rfl)
        refine (within_calls 122 #[.pointer (some ⟨w.heap.size, 0, none⟩), .pointer (some ⟨b3, 0, none⟩)] (fun k => k = R ∨ k = b3) R A m c l i d (inB l (p.or (i + 1))) (ExAt b3 w4.heap.size (exOf (p.or (i + 1)))) w4 HNE.out (.inl rfl) (isGo_of Tryz.func122 (by kernel_rfl) rfl) HLT.out HD.out (fun W v hq => hq.set (by have := HSW.out; have := HRW.out; omega) (by have := HB4.out; have := HSW.out; have := HRW.out; omega) 2 v) HRD.out (fun _ w' hf' hr' => ?_)).mono ?_
        · refine (item1_calls w.heap.size b3 R A m c l p.or (i + 1) (d + 1) w' HNE.out (blk_fr HP5.out hf' (by show ¬ w.heap.size = R; have := HRW.out; omega)) (blk_fr HU0.out hf' (by show ¬ b3 = R; have := HSW.out; have := HRW.out; omega)) (by have := HRW.out; omega) (by have := HSW.out; have := HRW.out; omega) (by have := HSW.out; omega) HPA.out hr').mono ?_
          rintro e w'' ⟨h1, h2⟩
          exact ⟨h1, ins_mono h2 fun W hq => hq.mono hf'.size⟩
        · rintro e w5 ⟨hf5, hm⟩
          rw [if_pos hd32] at hm
          have HF5 : Asd (Fr (fun k => k = R) w w5) := Asd.mk (fr_new (Fr.of_below HBB.out) hf5 (fun k hk => by rcases hk with h | h; exact .inl h; exact .inr (by have := HSW.out; omega)))
          have HZ6 := Asd.mk (blk_fr HZ5.out hf5 (by show ¬ (w.heap.size + 1 = R ∨ w.heap.size + 1 = b3); have := HSW.out; have := HRW.out; omega))
          clear hf5
          cases hfi : p.or (i + 1) with
          | error er =>
            rw [hfi] at hm
            obtain ⟨N, rfl, hN⟩ := hm
            have HE2 : Asd (itemP nm l sub i = .error er) := Asd.mk (by rw [HE.out, hfi])
            clear hfi
            go_wp2
            refine ⟨rfl, ?_⟩
            first | rw [HE2.out] | rw [← HS.out, HE2.out]
            exact got_error HF5.out ⟨N, rfl, hN⟩
          | ok y =>
            obtain ⟨x, j⟩ := y
            rw [hfi] at hm
            change Ins _ _ _ _ _ _ (mustT l j 5 [41]) _ _ _ at hm
            cases hM : mustT l j 5 [41] with
            | error er =>
              rw [hM] at hm
              obtain ⟨N, rfl, hN⟩ := hm
              have HE2 : Asd (itemP nm l sub i = .error er) := Asd.mk (by rw [HE.out, hfi]; simp only; rw [hM])
              clear hfi hM
              go_wp2
              refine ⟨rfl, ?_⟩
              first | rw [HE2.out] | rw [← HS.out, HE2.out]
              exact got_error HF5.out ⟨N, rfl, hN⟩
            | ok q =>
              rw [hM] at hm
              obtain ⟨rfl, hr5, A5, n5, c5', hb5, hh5⟩ := hm
              have HE2 : Asd (itemP nm l sub i = .ok (x, q)) := Asd.mk (by rw [HE.out, hfi]; simp only; rw [hM])
              change w5.heap[b3]? = some (Obj.cells (exC x (.slice A5 n5 c5')).toArray 26 (0, 0)) at hb5
              change Held _ _ x.args _ at hh5
              have HR5 := Asd.mk hr5
              have HH5 := Asd.mk hh5
              obtain ⟨e0, e1, e2, e3, e4, e5, e6, e7, e8, e9⟩ := ex_cells hb5
              clear hfi hM hr5 hh5 hb5
              have y0 := (blk_cell HZ6.out 0).trans rfl
              have y1 := (blk_cell HZ6.out 1).trans rfl
              have y2 := (blk_cell HZ6.out 2).trans rfl
              have y3 := (blk_cell HZ6.out 3).trans rfl
              have y4 := (blk_cell HZ6.out 4).trans rfl
              have y5 := (blk_cell HZ6.out 5).trans rfl
              have y6 := (blk_cell HZ6.out 6).trans rfl
              have y7 := (blk_cell HZ6.out 7).trans rfl
              have y8 := (blk_cell HZ6.out 8).trans rfl
              have y9 := (blk_cell HZ6.out 9).trans rfl
              have z0 := blk_frozen HZ6.out 0
              have z1 := blk_frozen HZ6.out 1
              have z2 := blk_frozen HZ6.out 2
              have z3 := blk_frozen HZ6.out 3
              have z4 := blk_frozen HZ6.out 4
              have z5 := blk_frozen HZ6.out 5
              have z6 := blk_frozen HZ6.out 6
              have z7 := blk_frozen HZ6.out 7
              have z8 := blk_frozen HZ6.out 8
              have z9 := blk_frozen HZ6.out 9
              go_wp2
              refine bodyPost_ret (results_cell_row rfl _ _ (w.heap.size + 1) 26 _ (0, 0) _ rfl (put10_blk HZ6.out _ _ _ _ _ _ _ _ _ _) Tryz.underlying26 rfl (by kernel_rfl)) rfl ?_
              first | rw [HE2.out] | rw [← HS.out, HE2.out]
              exact fin_got HH.out HF5.out (by omega) HR5.out (held_mono HH5.out fun g _ hg => by have h1 := hg.1; have := HB4.out; have := HSW.out; exact ⟨by omega, by omega⟩)
  · rw [tkV_none (by omega)]
    have HE : Asd (itemP nm l sub i = .error (stopAt l i, 20)) := Asd.mk (by unfold itemP; rw [List.getElem?_eq_none (by omega)])
    have HT := Asd.mk (isT_none (l := l) (i := i) (k := 5) (s := [40]) (by omega))
    have HB2 : Asd (Below w.heap.size w (w1.alloc (.cells #[.int .i64 0, .string ⟨#[]⟩, .int .i64 0, .int .i64 0] 88 (0, 0)))) := Asd.mk (below_alloc HB1.out _)
    have HP3 := Asd.mk (blk_alloc HP2.out (.cells #[.int .i64 0, .string ⟨#[]⟩, .int .i64 0, .int .i64 0] 88 (0, 0)))
    have c1 := (blk_cell HP3.out 0).trans rfl
    go_wp2_with fail
    generalize w1.alloc (.cells #[.int .i64 0, .string ⟨#[]⟩, .int .i64 0, .int .i64 0] 88 (0, 0)) = w2 at HB2 HP3 ⊢
    refine (is_calls R A m c l i d 5 [40] w2 (by omega) (HH.out.below HB2.out)).mono ?_
    rintro e w3 ⟨rfl, hb3⟩
    have HB3 : Asd (Below w.heap.size w w3) := Asd.mk (HB2.out.trans (hb3.mono HB2.out.size))
    have HP4 := Asd.mk (blk_below hb3 HP3.out)
    have c3 := (blk_cell HP4.out 0).trans rfl
    clear hb3 c1
    rw [HT.out]
    go_wp2_with fail
    refine (stop_calls R A m c l i d 20 w3 HNE.out (HH.out.below HB3.out)).mono ?_
    rintro e w4 ⟨hb4, N, rfl, hN⟩
    refine ⟨rfl, ?_⟩
    rw [HE.out]
    exact got_error (Fr.of_below (HB3.out.trans (hb4.mono HB3.out.size))) ⟨N, rfl, hN⟩
end Go.Proofs.YtbeeaikilcnpgaaGreatDoor.Exp

namespace Go.Proofs.YtbeeaikilcnpgaaGreatDoor.Exp
open Go.RowKit Go.Proofs.YtbeeaikilcnpgaaGreatDoor.Base Go.Proofs.YtbeeaikilcnpgaaGreatDoor.App Go.Proofs.YtbeeaikilcnpgaaGreatDoor.Byt
mutual
def sameE : Ex → Ex → Bool
  | .mk k o v t n _ _ a, .mk k' o' v' t' n' _ _ a' => k == k' && o == o' && (v.kind == v'.kind && (v.int == v'.int && v.text == v'.text)) && t == t' && n == n' && sameL a a'
def sameL : List Ex → List Ex → Bool
  | [], [] => true
  | x :: xs, y :: ys => sameE x y && sameL xs ys
  | [], _ :: _ => false
  | _ :: _, [] => false
end
mutual
def fewE : Ex → Prop
  | .mk _ _ _ _ _ _ _ a => a.length ≤ 1048576 ∧ fewL a
def fewL : List Ex → Prop
  | [] => True
  | x :: xs => fewE x ∧ fewL xs
end
theorem fewL_mem : ∀ {l : List Ex}, fewL l → ∀ x ∈ l, fewE x
  | [], _, x, hx => by cases hx
  | y :: r, h, x, hx => by
    rw [fewL] at h
    rcases List.mem_cons.mp hx with rfl | hx
    · exact h.1
    · exact fewL_mem h.2 x hx
theorem fewE_args {x : Ex} (h : fewE x) : x.args.length ≤ 1048576 ∧ fewL x.args := by
  cases x; rw [fewE] at h; exact h
theorem sameE_eq (x y : Ex) : sameE x y = (x.kind == y.kind && x.op == y.op && (x.v.kind == y.v.kind && (x.v.int == y.v.int && x.v.text == y.v.text)) && x.table == y.table && x.name == y.name && sameL x.args y.args) := by
  cases x; cases y; rw [sameE]; rfl
theorem sameL_len : ∀ {xs ys : List Ex}, xs.length ≠ ys.length → sameL xs ys = false
  | [], [], h => absurd rfl h
  | x :: xs, y :: ys, h => by rw [sameL, sameL_len (by simpa using h)]; simp
  | [], _ :: _, h => by rw [sameL]
  | _ :: _, [], h => by rw [sameL]
theorem sameL_all : ∀ {xs ys : List Ex}, xs.length = ys.length → (∀ i (h : i < xs.length) (h' : i < ys.length), sameE xs[i] ys[i] = true) → sameL xs ys = true
  | [], [], _, _ => by rw [sameL]
  | x :: xs, y :: ys, h, ha => by
    rw [sameL, show sameE x y = true from ha 0 (by simp) (by simp), sameL_all (by simpa using h) (fun i h1 h2 => ha (i + 1) (by simpa using h1) (by simpa using h2))]
    rfl
theorem sameL_not : ∀ {xs ys : List Ex} (i : Nat) (h : i < xs.length) (h' : i < ys.length), sameE xs[i] ys[i] = false → sameL xs ys = false
  | x :: xs, y :: ys, 0, h, h', hn => by rw [sameL, show sameE x y = false from hn]; rfl
  | x :: xs, y :: ys, i + 1, h, h', hn => by rw [sameL, sameL_not i (by simpa using h) (by simpa using h') (by simpa using hn)]; simp

theorem held_len {P : Nat → Prop} {W : World} {xs : List Ex} {s : Value} (h : Held P W xs s) : ∃ A c, s = .slice A xs.length c := by
  cases h with
  | nil A c => exact ⟨_, _, rfl⟩
  | cons g o c xs ss hg hl hu hrow hsub => exact ⟨_, _, rfl⟩
theorem held_at {P : Nat → Prop} {W : World} {xs : List Ex} {A : Option Addr} {n c : Nat} (h : Held P W xs (.slice A n c)) (i : Nat) (hi : i < xs.length) : ∃ g o A' n' c', A = some ⟨g, o, none⟩ ∧ RowC W g (o + i * 10) xs[i] (.slice A' n' c') ∧ Held P W xs[i].args (.slice A' n' c') := by
  cases h with
  | nil A c => exact absurd hi (by simp)
  | cons g o c xs ss hg hl hu hrow hsub =>
    have h1 := hrow i hi
    have h2 := hsub i hi
    obtain ⟨A', n', c', he⟩ := held_slice h2
    rw [he] at h1 h2
    exact ⟨g, o, A', n', c', rfl, h1, h2⟩
theorem held_frz {P : Nat → Prop} {W : World} {xs : List Ex} {g o n c : Nat} (h : Held P W xs (.slice (some ⟨g, o, none⟩) n c)) (i j : Nat) (hi : i < xs.length) (hj : j < 10) : W.frozen? ⟨g, o + i * 10 + j, none⟩ = false := by
  cases h with
  | nil A c => exact absurd hi (by simp)
  | cons g o c xs ss hg hl hu hrow hsub =>
    have := hu (i * 10 + j) (by omega)
    rwa [← Nat.add_assoc] at this
def SameR (x y : Ex) (w : World) (e : Ending) (w' : World) : Prop := e = .returned (.bool (sameE x y)) ∧ Below w.heap.size w w'
def SameOK (x y : Ex) : Prop := ∀ (P Q : Nat → Prop) (sx sy : Value) (w : World), Held P w x.args sx → Held Q w y.args sy → Calls Tryz.prog 18 #[exV x sx, exV y sy] w (SameR x y w)

set_option maxRecDepth 100000 in
theorem equal_calls (P Q : Nat → Prop) (xs ys : List Ex) (sx sy : Value) (w : World) (hx : Held P w xs sx) (hy : Held Q w ys sy) (hn : xs.length ≤ 1048576)
    (hf : ∀ i (h : i < xs.length) (h' : i < ys.length), SameOK xs[i] ys[i]) :
    Calls Tryz.prog 33 #[sx, sy, .func (.func 18) #[] #[]] w fun e w' => e = .returned (.bool (sameL xs ys)) ∧ Below w.heap.size w w' := by
  have hcf : ∀ (args : Array Value) (w : World), (callFunc 18 args).run Tryz.prog w = .ok (.enter 18 args) w := isGo_of Tryz.func18 (by decide) rfl
  obtain ⟨A, ca, rfl⟩ := held_len hx
  obtain ⟨B, cb, rfl⟩ := held_len hy
  have HX := Asd.mk hx
  have HY := Asd.mk hy
  have HF := Asd.mk hf
  generalize hm : xs.length = m at hn ⊢
  generalize hm' : ys.length = m' 
  have HM := Asd.mk hm
  have HM' := Asd.mk hm'
  clear hx hy hf hm hm'
  go_enter Tryz.func33, Tryz.ntmps33
  by_cases hmm : m = m'
  · subst hmm
    go_wp2
    go_loopw [17] (fun i wr => ∃ (k : Nat), k ≤ m ∧ i = .int .i64 (k : Int) ∧ Asd (Below w.heap.size w wr) ∧ Asd (∀ j (h : j < xs.length) (h' : j < ys.length), j < k → sameE xs[j] ys[j] = true)) (fun i _ => m - (intOf i).toNat)
    case atStart => exact ⟨0, by omega, rfl, ⟨Below.refl _ _⟩, ⟨fun j _ _ h => absurd h (by omega)⟩⟩
    case round =>
      obtain ⟨k, hk, rfl, HB, HQ⟩ := hrel
      by_cases hlt : k < m
      · have hkx : k < xs.length := by rw [HM.out]; exact hlt
        have hky : k < ys.length := by rw [HM'.out]; exact hlt
        obtain ⟨g, o, A1, n1, c1, rfl, hr1, hh1⟩ := held_at (held_below HX.out HB.out) k hkx
        obtain ⟨h, q, A2, n2, c2, rfl, hr2, hh2⟩ := held_at (held_below HY.out HB.out) k hky
        have HFK := Asd.mk (HF.out k hkx hky)
        have HSK : Asd (sameE xs[k] ys[k] = true → ∀ j (h : j < xs.length) (h' : j < ys.length), j < k + 1 → sameE xs[j] ys[j] = true) := Asd.mk fun he j h h' hj => by
          rcases Nat.lt_succ_iff_lt_or_eq.mp hj with hj | rfl
          · exact HQ.out j h h' hj
          · exact he
        have HNK : Asd (sameE xs[k] ys[k] = false → sameL xs ys = false) := Asd.mk fun he => sameL_not k hkx hky he
        generalize xs[k] = x at HFK HSK HNK hr1 hh1
        generalize ys[k] = y at HFK HSK HNK hr2 hh2
        have HR2 := Asd.mk hr2
        have HH1 := Asd.mk hh1
        have HH2 := Asd.mk hh2
        have hgl := World.block_lt_of_cell? wr _ (hr1 0 (by omega))
        have hk0 : (0 : Int) ≤ (k : Int) := by omega
        have hk1 : k < m := hlt
        have x0 : wr.cell? ⟨g, o + k * 10, none⟩ = some (.int .i64 x.kind) := hr1 0 (by omega)
        have x1 : wr.cell? ⟨g, o + k * 10 + 1, none⟩ = some (.int .i64 x.op) := hr1 1 (by omega)
        have x2 : wr.cell? ⟨g, o + k * 10 + 2, none⟩ = some (.int .i64 x.v.kind) := hr1 2 (by omega)
        have x3 : wr.cell? ⟨g, o + k * 10 + 3, none⟩ = some (.int .i64 x.v.int) := hr1 3 (by omega)
        have x4 : wr.cell? ⟨g, o + k * 10 + 4, none⟩ = some (.string ⟨x.v.text.toArray⟩) := hr1 4 (by omega)
        have x5 : wr.cell? ⟨g, o + k * 10 + 5, none⟩ = some (.string ⟨x.table.toArray⟩) := hr1 5 (by omega)
        have x6 : wr.cell? ⟨g, o + k * 10 + 6, none⟩ = some (.string ⟨x.name.toArray⟩) := hr1 6 (by omega)
        have x7 : wr.cell? ⟨g, o + k * 10 + 7, none⟩ = some (.int .i64 x.col) := hr1 7 (by omega)
        have x8 : wr.cell? ⟨g, o + k * 10 + 8, none⟩ = some (.int .i64 x.ty) := hr1 8 (by omega)
        have x9 : wr.cell? ⟨g, o + k * 10 + 9, none⟩ = some (.slice A1 n1 c1) := hr1 9 (by omega)
        clear hr1 hr2 hh1 hh2 hkx hky
        have HA1 := Asd.mk (blk_new wr (.cells #[.int .i64 x.kind, .int .i64 x.op, .int .i64 x.v.kind, .int .i64 x.v.int, .string ⟨x.v.text.toArray⟩, .string ⟨x.table.toArray⟩, .string ⟨x.name.toArray⟩, .int .i64 x.col, .int .i64 x.ty, .slice A1 n1 c1] 26 (0, 0)))
        have HB1 : Asd (Below wr.heap.size wr _) := Asd.mk (below_alloc (Below.refl _ wr) (.cells #[.int .i64 x.kind, .int .i64 x.op, .int .i64 x.v.kind, .int .i64 x.v.int, .string ⟨x.v.text.toArray⟩, .string ⟨x.table.toArray⟩, .string ⟨x.name.toArray⟩, .int .i64 x.col, .int .i64 x.ty, .slice A1 n1 c1] 26 (0, 0)))
        go_upto_region 6 with fail
        generalize wr.alloc (.cells #[.int .i64 x.kind, .int .i64 x.op, .int .i64 x.v.kind, .int .i64 x.v.int, .string ⟨x.v.text.toArray⟩, .string ⟨x.table.toArray⟩, .string ⟨x.name.toArray⟩, .int .i64 x.col, .int .i64 x.ty, .slice A1 n1 c1] 26 (0, 0)) = w1 at HA1 HB1 ⊢
        have hr2 := HR2.out.below HB1.out
        clear x0 x1 x2 x3 x4 x5 x6 x7 x8 x9
        have HP1 : Asd (wr.heap.size < w1.heap.size) := Asd.mk (blk_lt HA1.out)
        have y0 : w1.cell? ⟨h, q + k * 10, none⟩ = some (.int .i64 y.kind) := hr2 0 (by omega)
        have y1 : w1.cell? ⟨h, q + k * 10 + 1, none⟩ = some (.int .i64 y.op) := hr2 1 (by omega)
        have y2 : w1.cell? ⟨h, q + k * 10 + 2, none⟩ = some (.int .i64 y.v.kind) := hr2 2 (by omega)
        have y3 : w1.cell? ⟨h, q + k * 10 + 3, none⟩ = some (.int .i64 y.v.int) := hr2 3 (by omega)
        have y4 : w1.cell? ⟨h, q + k * 10 + 4, none⟩ = some (.string ⟨y.v.text.toArray⟩) := hr2 4 (by omega)
        have y5 : w1.cell? ⟨h, q + k * 10 + 5, none⟩ = some (.string ⟨y.table.toArray⟩) := hr2 5 (by omega)
        have y6 : w1.cell? ⟨h, q + k * 10 + 6, none⟩ = some (.string ⟨y.name.toArray⟩) := hr2 6 (by omega)
        have y7 : w1.cell? ⟨h, q + k * 10 + 7, none⟩ = some (.int .i64 y.col) := hr2 7 (by omega)
        have y8 : w1.cell? ⟨h, q + k * 10 + 8, none⟩ = some (.int .i64 y.ty) := hr2 8 (by omega)
        have y9 : w1.cell? ⟨h, q + k * 10 + 9, none⟩ = some (.slice A2 n2 c2) := hr2 9 (by omega)
        clear hr2
        have HA2 := Asd.mk (blk_new w1 (.cells #[.int .i64 y.kind, .int .i64 y.op, .int .i64 y.v.kind, .int .i64 y.v.int, .string ⟨y.v.text.toArray⟩, .string ⟨y.table.toArray⟩, .string ⟨y.name.toArray⟩, .int .i64 y.col, .int .i64 y.ty, .slice A2 n2 c2] 26 (0, 0)))
        have HB2 : Asd (Below w1.heap.size w1 _) := Asd.mk (below_alloc (Below.refl _ w1) (.cells #[.int .i64 y.kind, .int .i64 y.op, .int .i64 y.v.kind, .int .i64 y.v.int, .string ⟨y.v.text.toArray⟩, .string ⟨y.table.toArray⟩, .string ⟨y.name.toArray⟩, .int .i64 y.col, .int .i64 y.ty, .slice A2 n2 c2] 26 (0, 0)))
        go_upto_region 7 with fail
        generalize w1.alloc (.cells #[.int .i64 y.kind, .int .i64 y.op, .int .i64 y.v.kind, .int .i64 y.v.int, .string ⟨y.v.text.toArray⟩, .string ⟨y.table.toArray⟩, .string ⟨y.name.toArray⟩, .int .i64 y.col, .int .i64 y.ty, .slice A2 n2 c2] 26 (0, 0)) = w2 at HA2 HB2 ⊢
        clear y0 y1 y2 y3 y4 y5 y6 y7 y8 y9
        have HB12 : Asd (Below wr.heap.size wr w2) := Asd.mk (HB1.out.trans (HB2.out.mono HB1.out.size))
        have HA12 := Asd.mk (blk_below HB2.out HA1.out)
        have u0 := (blk_cell HA12.out 0).trans rfl
        have u1 := (blk_cell HA12.out 1).trans rfl
        have u2 := (blk_cell HA12.out 2).trans rfl
        have u3 := (blk_cell HA12.out 3).trans rfl
        have u4 := (blk_cell HA12.out 4).trans rfl
        have u5 := (blk_cell HA12.out 5).trans rfl
        have u6 := (blk_cell HA12.out 6).trans rfl
        have u7 := (blk_cell HA12.out 7).trans rfl
        have u8 := (blk_cell HA12.out 8).trans rfl
        have u9 := (blk_cell HA12.out 9).trans rfl
        have v0 := (blk_cell HA2.out 0).trans rfl
        have v1 := (blk_cell HA2.out 1).trans rfl
        have v2 := (blk_cell HA2.out 2).trans rfl
        have v3 := (blk_cell HA2.out 3).trans rfl
        have v4 := (blk_cell HA2.out 4).trans rfl
        have v5 := (blk_cell HA2.out 5).trans rfl
        have v6 := (blk_cell HA2.out 6).trans rfl
        have v7 := (blk_cell HA2.out 7).trans rfl
        have v8 := (blk_cell HA2.out 8).trans rfl
        have v9 := (blk_cell HA2.out 9).trans rfl
        go_wp2_with fail
        refine (HFK.out P Q (.slice A1 n1 c1) (.slice A2 n2 c2) w2 (held_below HH1.out HB12.out) (held_below HH2.out HB12.out)).mono ?_
        rintro e w3 ⟨rfl, hb3⟩
        have HB3 : Asd (Below w.heap.size w w3) := Asd.mk (HB.out.trans ((HB12.out.trans (hb3.mono HB12.out.size)).mono HB.out.size))
        clear hb3 u0 v0 u1 v1 u2 v2 u3 v3 u4 v4 u5 v5 u6 v6 u7 v7 u8 v8 u9 v9
        cases hs : sameE x y with
        | true =>
          have HS := Asd.mk (HSK.out hs)
          clear hs
          go_wp2
          go_roundw
          case rel => exact ⟨k + 1, by omega, by go_num, HB3, HS⟩
          case measure => simp [intOf]; omega
        | false =>
          have HS := Asd.mk (HNK.out hs)
          clear hs
          go_wp2
          go_ret
          exact ⟨ret_eq (by rw [HS.out]; rfl), HB3.out⟩
      · have HS : Asd (sameL xs ys = true) := Asd.mk (sameL_all (HM.out.trans HM'.out.symm) fun i h h' => HQ.out i h h' (by have := HM.out; omega))
        have hge : ¬ (k : Int) < (m : Int) := by omega
        clear HQ
        go_wp2
        go_ret
        exact ⟨ret_eq (by rw [HS.out]; rfl), HB.out⟩
  · have HS : Asd (sameL xs ys = false) := Asd.mk (sameL_len (by rw [HM.out, HM'.out]; exact hmm))
    have hne : ((m : Int) != (m' : Int)) = true := by rw [bne_iff_ne]; omega
    clear hmm
    go_wp2
    go_ret
    exact ⟨ret_eq (by rw [HS.out]; rfl), Below.refl _ _⟩
theorem val_in (d : Nat) (w : World) (x0 y0 x1 y1 : Int) (x2 y2 : ByteArray) :
    (Op.equalIn (d + 2) 23 (.agg #[.int .i64 x0, .int .i64 x1, .string x2]) (.agg #[.int .i64 y0, .int .i64 y1, .string y2])).run Tryz.prog w = .ok (x0 == y0 && (x1 == y1 && (x2.toList == y2.toList))) w := by
  refine Eqs.s_of Tryz.underlying23 (by kernel_rfl) ?_
  refine Eqs.f_cons (by rfl) (by go_simp; rfl) (by go_simp; rfl) (by go_simp) ?_
  refine Eqs.f_cons (by rfl) (by go_simp; rfl) (by go_simp; rfl) (by go_simp) ?_
  exact Eqs.f_last (by rfl) (by go_simp; rfl) (by go_simp; rfl) (by go_simp)
theorem val_eql (w : World) (x0 y0 x1 y1 : Int) (x2 y2 : ByteArray) :
    (binOp .eql 23 (.agg #[.int .i64 x0, .int .i64 x1, .string x2]) (.agg #[.int .i64 y0, .int .i64 y1, .string y2])).run Tryz.prog w = .ok (.bool (x0 == y0 && (x1 == y1 && (x2.toList == y2.toList)))) w := Eqs.op_eql fun d => val_in d w x0 y0 x1 y1 x2 y2
theorem tl_eq (a b : List UInt8) : ((⟨a.toArray⟩ : ByteArray).toList == (⟨b.toArray⟩ : ByteArray).toList) = (a == b) := by rw [Lib.toList_data, Lib.toList_data]

set_option maxRecDepth 100000 in
theorem same_step (x y : Ex) (hx : fewE x) (hsub : ∀ i (h : i < x.args.length) (h' : i < y.args.length), SameOK x.args[i] y.args[i]) : SameOK x y := by
  intro P Q sx sy w hhx hhy
  obtain ⟨A1, n1, c1, rfl⟩ := held_slice hhx
  obtain ⟨A2, n2, c2, rfl⟩ := held_slice hhy
  have HS := Asd.mk (fun (W : World) (hb : Below w.heap.size w W) => equal_calls P Q x.args y.args (.slice A1 n1 c1) (.slice A2 n2 c2) W (held_below hhx hb) (held_below hhy hb) (fewE_args hx).1 hsub)
  have HE := Asd.mk (sameE_eq x y)
  have HB : Asd (Below w.heap.size w ((w.alloc (.cells #[.int .i64 x.kind, .int .i64 x.op, .int .i64 x.v.kind, .int .i64 x.v.int, .string ⟨x.v.text.toArray⟩, .string ⟨x.table.toArray⟩, .string ⟨x.name.toArray⟩, .int .i64 x.col, .int .i64 x.ty, .slice A1 n1 c1] 26 (0, 0))).alloc (.cells #[.int .i64 y.kind, .int .i64 y.op, .int .i64 y.v.kind, .int .i64 y.v.int, .string ⟨y.v.text.toArray⟩, .string ⟨y.table.toArray⟩, .string ⟨y.name.toArray⟩, .int .i64 y.col, .int .i64 y.ty, .slice A2 n2 c2] 26 (0, 0)))) := Asd.mk (below_alloc (below_alloc (Below.refl _ w) _) _)
  clear hhx hhy hx hsub
  unfold exV
  go_enter Tryz.func18, Tryz.ntmps18
  cases h1 : (x.kind == y.kind) with
  | false =>
    have HR : Asd (sameE x y = false) := Asd.mk (by rw [HE.out, h1]; simp)
    go_wp2
    go_ret
    exact ⟨ret_eq (by rw [HR.out]; rfl), HB.out⟩
  | true =>
    cases h2 : (x.op == y.op) with
    | false =>
      have HR : Asd (sameE x y = false) := Asd.mk (by rw [HE.out, h1, h2]; simp)
      go_wp2
      go_ret
      exact ⟨ret_eq (by rw [HR.out]; rfl), HB.out⟩
    | true =>
      cases h3 : (x.v.kind == y.v.kind && (x.v.int == y.v.int && x.v.text == y.v.text)) with
      | false =>
        have HR : Asd (sameE x y = false) := Asd.mk (by rw [HE.out, h1, h2, h3]; simp)
        have hve : ∀ W, (binOp .eql 23 (.agg #[.int .i64 x.v.kind, .int .i64 x.v.int, .string ⟨x.v.text.toArray⟩]) (.agg #[.int .i64 y.v.kind, .int .i64 y.v.int, .string ⟨y.v.text.toArray⟩])).run Tryz.prog W = .ok (.bool false) W := fun W => by rw [val_eql, tl_eq, h3]
        clear h3
        go_wp2
        go_ret
        exact ⟨ret_eq (by rw [HR.out]; rfl), HB.out⟩
      | true =>
        cases h4 : (x.table == y.table) with
        | false =>
          have HR : Asd (sameE x y = false) := Asd.mk (by rw [HE.out, h1, h2, h3, h4]; simp)
          have hve : ∀ W, (binOp .eql 23 (.agg #[.int .i64 x.v.kind, .int .i64 x.v.int, .string ⟨x.v.text.toArray⟩]) (.agg #[.int .i64 y.v.kind, .int .i64 y.v.int, .string ⟨y.v.text.toArray⟩])).run Tryz.prog W = .ok (.bool true) W := fun W => by rw [val_eql, tl_eq, h3]
          clear h3
          go_wp2
          go_ret
          exact ⟨ret_eq (by rw [HR.out]; rfl), HB.out⟩
        | true =>
          cases h5 : (x.name == y.name) with
          | false =>
            have HR : Asd (sameE x y = false) := Asd.mk (by rw [HE.out, h1, h2, h3, h4, h5]; simp)
            have hve : ∀ W, (binOp .eql 23 (.agg #[.int .i64 x.v.kind, .int .i64 x.v.int, .string ⟨x.v.text.toArray⟩]) (.agg #[.int .i64 y.v.kind, .int .i64 y.v.int, .string ⟨y.v.text.toArray⟩])).run Tryz.prog W = .ok (.bool true) W := fun W => by rw [val_eql, tl_eq, h3]
            clear h3
            go_wp2
            go_ret
            exact ⟨ret_eq (by rw [HR.out]; rfl), HB.out⟩
          | true =>
            have HR : Asd (sameE x y = sameL x.args y.args) := Asd.mk (by rw [HE.out, h1, h2, h3, h4, h5]; simp)
            have hve : ∀ W, (binOp .eql 23 (.agg #[.int .i64 x.v.kind, .int .i64 x.v.int, .string ⟨x.v.text.toArray⟩]) (.agg #[.int .i64 y.v.kind, .int .i64 y.v.int, .string ⟨y.v.text.toArray⟩])).run Tryz.prog W = .ok (.bool true) W := fun W => by rw [val_eql, tl_eq, h3]
            clear h3
            go_wp2_with fail
            refine (HS.out _ HB.out).mono ?_
            rintro e w2 ⟨rfl, hb2⟩
            have HB2 := Asd.mk (HB.out.trans (hb2.mono HB.out.size))
            clear hb2
            cases hl : sameL x.args y.args with
            | true =>
              have HR2 : Asd (sameE x y = true) := Asd.mk (HR.out.trans hl)
              clear hl
              go_wp2
              go_ret
              exact ⟨ret_eq (by rw [HR2.out]; rfl), HB2.out⟩
            | false =>
              have HR2 : Asd (sameE x y = false) := Asd.mk (HR.out.trans hl)
              clear hl
              go_wp2
              go_ret
              exact ⟨ret_eq (by rw [HR2.out]; rfl), HB2.out⟩
theorem args_lt (x : Ex) (i : Nat) (h : i < x.args.length) : SizeOf.sizeOf x.args[i] < SizeOf.sizeOf x := by
  cases x with
  | mk k o v t n c ty a =>
    have h1 := List.sizeOf_lt_of_mem (List.getElem_mem (l := a) h)
    have h2 : SizeOf.sizeOf a < SizeOf.sizeOf (Ex.mk k o v t n c ty a) := by simp; omega
    exact Nat.lt_trans h1 h2
theorem same_ok (x y : Ex) (hx : fewE x) : SameOK x y :=
  same_step x y hx fun i h h' => same_ok x.args[i] y.args[i] (fewL_mem (fewE_args hx).2 _ (List.getElem_mem h))
termination_by SizeOf.sizeOf x
decreasing_by exact args_lt x i h
theorem same_calls (P Q : Nat → Prop) (x y : Ex) (sx sy : Value) (w : World) (hx : fewE x) (hhx : Held P w x.args sx) (hhy : Held Q w y.args sy) :
    Calls Tryz.prog 18 #[exV x sx, exV y sy] w (SameR x y w) := same_ok x y hx P Q sx sy w hhx hhy

set_option maxRecDepth 100000 in
theorem operands_calls (k : Nat) (w : World) : Calls Tryz.prog 60 #[.int .i64 (k : Nat)] w fun e w' => e = .returned (.int .i64 ((opn k : Nat) : Int)) ∧ w' = w := by
  by_cases h5 : k = 5
  · subst h5
    go_enter Tryz.func60, Tryz.ntmps60
    go_wp2
    go_ret
    exact ⟨rfl, rfl⟩
  · by_cases h6 : k = 6
    · subst h6
      clear h5
      go_enter Tryz.func60, Tryz.ntmps60
      go_wp2
      go_ret
      exact ⟨rfl, rfl⟩
    · have h5' : ¬ (k : Int) = 5 := by omega
      have h6' : ¬ (k : Int) = 6 := by omega
      have HO : Asd (opn k = 1) := Asd.mk (by unfold opn; rw [if_neg h5, if_neg h6])
      clear h5 h6
      go_enter Tryz.func60, Tryz.ntmps60
      go_wp2
      go_ret
      exact ⟨ret_eq (by rw [HO.out]; rfl), rfl⟩
def pairLn (o : Nat) : Int := [0, 0, 0, 1, 2, 4, 4, 4, 4, 4, 4, 6, 6, 7, 7, 7, 5].getD o 0
def LineR (L : Int) (w : World) (e : Ending) (w' : World) : Prop := e = .returned (.int .i64 L) ∧ Below w.heap.size w w'
set_option maxRecDepth 100000 in
theorem line_index (o : Nat) (h : 3 ≤ o) (h' : o ≤ 16) (W : World) : (Instr.index 95 (.agg #[.int .i64 0, .int .i64 0, .int .i64 0, .int .i64 1, .int .i64 2, .int .i64 4, .int .i64 4, .int .i64 4, .int .i64 4, .int .i64 4, .int .i64 4, .int .i64 6, .int .i64 6, .int .i64 7, .int .i64 7, .int .i64 7, .int .i64 5]) (.int .i64 (o : Nat))).run Tryz.prog W = .ok (.int .i64 (pairLn o)) W := by
  have hc : o = 3 ∨ o = 4 ∨ o = 5 ∨ o = 6 ∨ o = 7 ∨ o = 8 ∨ o = 9 ∨ o = 10 ∨ o = 11 ∨ o = 12 ∨ o = 13 ∨ o = 14 ∨ o = 15 ∨ o = 16 := by omega
  clear h h'
  rcases hc with rfl | rfl | rfl | rfl | rfl | rfl | rfl | rfl | rfl | rfl | rfl | rfl | rfl | rfl
  all_goals
    first | rfl | (show _ = _; kernel_rfl)
end Go.Proofs.YtbeeaikilcnpgaaGreatDoor.Exp

namespace Go.Proofs.YtbeeaikilcnpgaaGreatDoor.Exp
open Go.RowKit Go.Proofs.YtbeeaikilcnpgaaGreatDoor.Base Go.Proofs.YtbeeaikilcnpgaaGreatDoor.App Go.Proofs.YtbeeaikilcnpgaaGreatDoor.Byt Go.Proofs.YtbeeaikilcnpgaaGreatDoor.Lex
def fn1 : List ByteArray := [⟨#[]⟩, ⟨#[108, 101, 110, 103, 116, 104]⟩, ⟨#[97, 98, 115]⟩, ⟨#[117, 112, 112, 101, 114]⟩, ⟨#[108, 111, 119, 101, 114]⟩, ⟨#[115, 117, 98, 115, 116, 114]⟩, ⟨#[99, 111, 97, 108, 101, 115, 99, 101]⟩]
def fn2 : List ByteArray := [⟨#[]⟩, ⟨#[99, 111, 117, 110, 116]⟩, ⟨#[115, 117, 109]⟩, ⟨#[109, 105, 110]⟩, ⟨#[109, 97, 120]⟩]
theorem ba_ne {a b : List UInt8} (h : a ≠ b) : (⟨a.toArray⟩ : ByteArray) ≠ ⟨b.toArray⟩ := by
  intro e
  injection e with e
  exact h (by simpa using congrArg Array.toList e)
theorem idx_le (zs : List ByteArray) (n : Nat) (x : ByteArray) (hn : 0 < n) (hz : n ≤ zs.length) (h : ∀ j, 1 ≤ j → j < n → zs.getD j ByteArray.empty ≠ x) : Lib.idxOfS (zs.take n) x ≤ 0 := by
  by_cases h0 : zs.getD 0 ByteArray.empty = x
  · rw [Lib.idxOfS_hit zs n 0 x hn hz h0 (fun j hj => absurd hj (by omega))]; simp
  · rw [Lib.idxOfS_miss zs n x (fun j hj => by
      rcases Nat.eq_zero_or_pos j with rfl | h1
      · exact h0
      · exact h j h1 hj)]
    decide
theorem fn_ways (s : List UInt8) : (∃ k : Nat, 1 ≤ k ∧ k ≤ 6 ∧ Lib.idxOfS (fn1.take 7) ⟨s.toArray⟩ = (k : Int) ∧ funT s = some (5, (k : Int), opn k)) ∨
    (Lib.idxOfS (fn1.take 7) ⟨s.toArray⟩ ≤ 0 ∧ ∃ j : Nat, 1 ≤ j ∧ j ≤ 4 ∧ Lib.idxOfS (fn2.take 5) ⟨s.toArray⟩ = (j : Int) ∧ funT s = some (6, (j : Int), 1)) ∨
    (Lib.idxOfS (fn1.take 7) ⟨s.toArray⟩ ≤ 0 ∧ Lib.idxOfS (fn2.take 5) ⟨s.toArray⟩ ≤ 0 ∧ funT s = none) := by
  by_cases a1 : s = [108, 101, 110, 103, 116, 104]
  · subst a1
    exact .inl ⟨1, by omega, by omega, by kernel_rfl, by decide⟩
  by_cases a2 : s = [97, 98, 115]
  · subst a2
    exact .inl ⟨2, by omega, by omega, by kernel_rfl, by decide⟩
  by_cases a3 : s = [117, 112, 112, 101, 114]
  · subst a3
    exact .inl ⟨3, by omega, by omega, by kernel_rfl, by decide⟩
  by_cases a4 : s = [108, 111, 119, 101, 114]
  · subst a4
    exact .inl ⟨4, by omega, by omega, by kernel_rfl, by decide⟩
  by_cases a5 : s = [115, 117, 98, 115, 116, 114]
  · subst a5
    exact .inl ⟨5, by omega, by omega, by kernel_rfl, by decide⟩
  by_cases a6 : s = [99, 111, 97, 108, 101, 115, 99, 101]
  · subst a6
    exact .inl ⟨6, by omega, by omega, by kernel_rfl, by decide⟩
  have h1 : Lib.idxOfS (fn1.take 7) ⟨s.toArray⟩ ≤ 0 := idx_le fn1 7 _ (by decide) (by decide) (fun j hj hj7 => by
    obtain rfl | rfl | rfl | rfl | rfl | rfl : j = 1 ∨ j = 2 ∨ j = 3 ∨ j = 4 ∨ j = 5 ∨ j = 6 := by omega
    · exact ba_ne (a := [108, 101, 110, 103, 116, 104]) (fun e => a1 e.symm)
    · exact ba_ne (a := [97, 98, 115]) (fun e => a2 e.symm)
    · exact ba_ne (a := [117, 112, 112, 101, 114]) (fun e => a3 e.symm)
    · exact ba_ne (a := [108, 111, 119, 101, 114]) (fun e => a4 e.symm)
    · exact ba_ne (a := [115, 117, 98, 115, 116, 114]) (fun e => a5 e.symm)
    · exact ba_ne (a := [99, 111, 97, 108, 101, 115, 99, 101]) (fun e => a6 e.symm))
  by_cases b1 : s = [99, 111, 117, 110, 116]
  · subst b1
    exact .inr (.inl ⟨h1, 1, by omega, by omega, by kernel_rfl, by decide⟩)
  by_cases b2 : s = [115, 117, 109]
  · subst b2
    exact .inr (.inl ⟨h1, 2, by omega, by omega, by kernel_rfl, by decide⟩)
  by_cases b3 : s = [109, 105, 110]
  · subst b3
    exact .inr (.inl ⟨h1, 3, by omega, by omega, by kernel_rfl, by decide⟩)
  by_cases b4 : s = [109, 97, 120]
  · subst b4
    exact .inr (.inl ⟨h1, 4, by omega, by omega, by kernel_rfl, by decide⟩)
  have h2 : Lib.idxOfS (fn2.take 5) ⟨s.toArray⟩ ≤ 0 := idx_le fn2 5 _ (by decide) (by decide) (fun j hj hj7 => by
    obtain rfl | rfl | rfl | rfl : j = 1 ∨ j = 2 ∨ j = 3 ∨ j = 4 := by omega
    · exact ba_ne (a := [99, 111, 117, 110, 116]) (fun e => b1 e.symm)
    · exact ba_ne (a := [115, 117, 109]) (fun e => b2 e.symm)
    · exact ba_ne (a := [109, 105, 110]) (fun e => b3 e.symm)
    · exact ba_ne (a := [109, 97, 120]) (fun e => b4 e.symm))
  refine .inr (.inr ⟨h1, h2, ?_⟩)
  unfold funT
  rw [if_neg a1, if_neg a2, if_neg a3, if_neg a4, if_neg a5, if_neg a6, if_neg b1, if_neg b2, if_neg b3, if_neg b4]

theorem load_called {w : World} {g : Nat} {cs : Array Value} (hg : w.heap[g]? = some (.cells cs 163 (0, 0))) (h3 : cs.size = 3) : (loadVar 163 ⟨g, 0, none⟩).run Tryz.prog w = .ok (.agg cs) w :=
  run_loadVar_row w g 163 163 cs (0, 0) _ hg Tryz.underlying163 rfl (by rw [h3]; kernel_rfl)
theorem results_called {fn : Func} {p u : Tmp} (h : fn.results = #[.cell p 163, .tmp u]) (tmps : Array Value) (w : World) (g : Nat) (cs : Array Value)
    (hp : tmps.getD p undef = .pointer (some ⟨g, 0, none⟩)) (hg : w.heap[g]? = some (.cells cs 163 (0, 0))) (h3 : cs.size = 3) :
    (results fn tmps).run Tryz.prog w = .ok (.tuple #[.agg cs, tmps.getD u undef]) w := by
  rw [results_cell_tmp h, hp]
  simp [asAddr, load_called hg h3, Result.andThen]
def FnEnd (r : Option (Int × Int × Nat)) (e : Ending) : Prop := match r with
  | some f => e = .returned (.tuple #[.agg #[.int .i64 f.1, .int .i64 f.2.1, .int .i64 (f.2.2 : Nat)], .bool true])
  | none => ∃ k o n, e = .returned (.tuple #[.agg #[.int .i64 k, .int .i64 o, .int .i64 n], .bool false])

theorem hit_cells {W : World} {g : Nat} {T : TypeId} (zs : List ByteArray) (h : W.heap[g]? = some (.cells (zs.map Value.string).toArray T (0, 0))) : ∀ j, j < zs.length → W.cell? ⟨g, 0 + j, none⟩ = some (.string (zs.getD j ByteArray.empty)) := by
  intro j hj
  rw [blk_cell h, Nat.zero_add, List.getElem?_toArray, List.getElem?_map, List.getElem?_eq_getElem hj, List.getD_eq_getElem?_getD, List.getElem?_eq_getElem hj]
  rfl
set_option maxRecDepth 100000 in
theorem function_calls (s : List UInt8) (w : World) : Calls Tryz.prog 136 #[.string ⟨s.toArray⟩] w fun e w' => FnEnd (funT s) e ∧ Below w.heap.size w w' := by
  have HB1 := Asd.mk (below_alloc (below_alloc (Below.refl _ w) (.cells #[.int .i64 0, .int .i64 0, .int .i64 0] 163 (0, 0))) (.cells (fn1.map Value.string).toArray 9 (0, 0)))
  have HC0 := Asd.mk (blk_alloc (blk_new w (.cells #[.int .i64 0, .int .i64 0, .int .i64 0] 163 (0, 0))) (.cells (fn1.map Value.string).toArray 9 (0, 0)))
  have HC1 := Asd.mk (nb1 w (.cells #[.int .i64 0, .int .i64 0, .int .i64 0] 163 (0, 0)) (.cells (fn1.map Value.string).toArray 9 (0, 0)))
  have HWY := Asd.mk (fn_ways s)
  go_enter Tryz.func136, Tryz.ntmps136
  go_wp2_with fail
  change Calls _ _ _ ((w.alloc (.cells #[.int .i64 0, .int .i64 0, .int .i64 0] 163 (0, 0))).alloc (.cells (fn1.map Value.string).toArray 9 (0, 0))) _
  generalize (w.alloc (.cells #[.int .i64 0, .int .i64 0, .int .i64 0] 163 (0, 0))).alloc (.cells (fn1.map Value.string).toArray 9 (0, 0)) = w1 at HB1 HC0 HC1 ⊢
  refine (Tryz.slices_Index_string (w.heap.size + 1) 0 7 7 fn1 ⟨s.toArray⟩ w1 (by decide) (by decide) (hit_cells fn1 HC1.out)).mono ?_
  rintro e wq ⟨rfl, hq⟩
  obtain rfl : w1 = wq := hq.symm
  have HTAIL : Asd (∀ o, Below w.heap.size w (w1.alloc o) ∧ (w1.alloc o).heap[w.heap.size]? = some (.cells #[.int .i64 0, .int .i64 0, .int .i64 0] 163 (0, 0))) := Asd.mk fun o => ⟨below_alloc HB1.out o, blk_alloc HC0.out o⟩
  generalize hi1 : Lib.idxOfS (fn1.take 7) ⟨s.toArray⟩ = i1
  rcases HWY.out with ⟨k, hk1, hk6, hik, hfn⟩ | ⟨hle, j, hj1, hj4, hij, hfn⟩ | ⟨hle, hle2, hfn⟩
  · obtain rfl : i1 = (k : Int) := hi1.symm.trans hik
    have HFN := Asd.mk hfn
    clear hi1 hik hfn
    have y0 := (blk_cell HC0.out 0).trans rfl
    have y1 := (blk_cell HC0.out 1).trans rfl
    have y2 := (blk_cell HC0.out 2).trans rfl
    have z0 := blk_frozen HC0.out 0
    have z1 := blk_frozen HC0.out 1
    have z2 := blk_frozen HC0.out 2
    go_wp2_with fail
    refine (operands_calls k _).mono ?_
    rintro e wq ⟨rfl, hq⟩
    obtain rfl : w1 = wq := hq.symm
    have HFIN : Asd (∀ a b c, (((w1.setCell ⟨w.heap.size, 0, none⟩ a).setCell ⟨w.heap.size, 1, none⟩ b).setCell ⟨w.heap.size, 2, none⟩ c).heap[w.heap.size]? = some (.cells #[a, b, c] 163 (0, 0)) ∧ Below w.heap.size w (((w1.setCell ⟨w.heap.size, 0, none⟩ a).setCell ⟨w.heap.size, 1, none⟩ b).setCell ⟨w.heap.size, 2, none⟩ c)) := Asd.mk fun a b c =>
      ⟨(blk_set (blk_set (blk_set HC0.out 0 a) 1 b) 2 c).trans rfl, ((HB1.out.setCell (Nat.le_refl _) a).setCell (Nat.le_refl _) b).setCell (Nat.le_refl _) c⟩
    go_wp2
    refine bodyPost_ret (results_called rfl _ _ w.heap.size _ rfl (HFIN.out _ _ _).1 rfl) rfl ?_
    refine ⟨?_, (HFIN.out _ _ _).2⟩
    rw [HFN.out]
    rfl
  · have HFN := Asd.mk hfn
    have hle1 : i1 ≤ 0 := by rw [← hi1]; exact hle
    have HIJ := Asd.mk hij
    clear hi1 hle hij hfn
    have hng : ¬ (0 : Int) < i1 := by omega
    have HB2 := Asd.mk (HTAIL.out (.cells (fn2.map Value.string).toArray 9 (0, 0))).1
    have HD0 := Asd.mk (HTAIL.out (.cells (fn2.map Value.string).toArray 9 (0, 0))).2
    have HD1 := Asd.mk (blk_new w1 (.cells (fn2.map Value.string).toArray 9 (0, 0)))
    go_wp2_with fail
    change Calls _ _ _ (w1.alloc (.cells (fn2.map Value.string).toArray 9 (0, 0))) _
    generalize w1.alloc (.cells (fn2.map Value.string).toArray 9 (0, 0)) = w2 at HB2 HD0 HD1 ⊢
    refine (Tryz.slices_Index_string w1.heap.size 0 5 5 fn2 ⟨s.toArray⟩ w2 (by decide) (by decide) (hit_cells fn2 HD1.out)).mono ?_
    rintro e wq ⟨rfl, hq⟩
    obtain rfl : w2 = wq := hq.symm
    have y0 := (blk_cell HD0.out 0).trans rfl
    have y1 := (blk_cell HD0.out 1).trans rfl
    have y2 := (blk_cell HD0.out 2).trans rfl
    have z0 := blk_frozen HD0.out 0
    have z1 := blk_frozen HD0.out 1
    have z2 := blk_frozen HD0.out 2
    have HFIN : Asd (∀ a b c, (((w2.setCell ⟨w.heap.size, 0, none⟩ a).setCell ⟨w.heap.size, 1, none⟩ b).setCell ⟨w.heap.size, 2, none⟩ c).heap[w.heap.size]? = some (.cells #[a, b, c] 163 (0, 0)) ∧ Below w.heap.size w (((w2.setCell ⟨w.heap.size, 0, none⟩ a).setCell ⟨w.heap.size, 1, none⟩ b).setCell ⟨w.heap.size, 2, none⟩ c)) := Asd.mk fun a b c =>
      ⟨(blk_set (blk_set (blk_set HD0.out 0 a) 1 b) 2 c).trans rfl, ((HB2.out.setCell (Nat.le_refl _) a).setCell (Nat.le_refl _) b).setCell (Nat.le_refl _) c⟩
    rw [HIJ.out]
    go_wp2
    refine bodyPost_ret (results_called rfl _ _ w.heap.size _ rfl (HFIN.out _ _ _).1 rfl) rfl ?_
    refine ⟨?_, (HFIN.out _ _ _).2⟩
    rw [HFN.out]
    have hj : decide ((0 : Int) < (j : Int)) = true := by simp; omega
    first | rfl | (simp [FnEnd]; try omega)
  · have HFN := Asd.mk hfn
    have hle1 : i1 ≤ 0 := by rw [← hi1]; exact hle
    have HLE2 := Asd.mk hle2
    clear hi1 hle hle2 hfn
    have hng : ¬ (0 : Int) < i1 := by omega
    have HB2 := Asd.mk (HTAIL.out (.cells (fn2.map Value.string).toArray 9 (0, 0))).1
    have HD0 := Asd.mk (HTAIL.out (.cells (fn2.map Value.string).toArray 9 (0, 0))).2
    have HD1 := Asd.mk (blk_new w1 (.cells (fn2.map Value.string).toArray 9 (0, 0)))
    go_wp2_with fail
    change Calls _ _ _ (w1.alloc (.cells (fn2.map Value.string).toArray 9 (0, 0))) _
    generalize w1.alloc (.cells (fn2.map Value.string).toArray 9 (0, 0)) = w2 at HB2 HD0 HD1 ⊢
    refine (Tryz.slices_Index_string w1.heap.size 0 5 5 fn2 ⟨s.toArray⟩ w2 (by decide) (by decide) (hit_cells fn2 HD1.out)).mono ?_
    rintro e wq ⟨rfl, hq⟩
    obtain rfl : w2 = wq := hq.symm
    have y0 := (blk_cell HD0.out 0).trans rfl
    have y1 := (blk_cell HD0.out 1).trans rfl
    have y2 := (blk_cell HD0.out 2).trans rfl
    have z0 := blk_frozen HD0.out 0
    have z1 := blk_frozen HD0.out 1
    have z2 := blk_frozen HD0.out 2
    have HFIN : Asd (∀ a b c, (((w2.setCell ⟨w.heap.size, 0, none⟩ a).setCell ⟨w.heap.size, 1, none⟩ b).setCell ⟨w.heap.size, 2, none⟩ c).heap[w.heap.size]? = some (.cells #[a, b, c] 163 (0, 0)) ∧ Below w.heap.size w (((w2.setCell ⟨w.heap.size, 0, none⟩ a).setCell ⟨w.heap.size, 1, none⟩ b).setCell ⟨w.heap.size, 2, none⟩ c)) := Asd.mk fun a b c =>
      ⟨(blk_set (blk_set (blk_set HD0.out 0 a) 1 b) 2 c).trans rfl, ((HB2.out.setCell (Nat.le_refl _) a).setCell (Nat.le_refl _) b).setCell (Nat.le_refl _) c⟩
    generalize hi2 : Lib.idxOfS (fn2.take 5) ⟨s.toArray⟩ = i2
    have hle3 : ¬ (0 : Int) < i2 := by rw [← hi2]; have := HLE2.out; omega
    clear hi2
    go_wp2
    refine bodyPost_ret (results_called rfl _ _ w.heap.size _ rfl (HFIN.out _ _ _).1 rfl) rfl ?_
    refine ⟨?_, (HFIN.out _ _ _).2⟩
    rw [HFN.out]
    have hd : decide ((0 : Int) < i2) = false := by simpa using hle3
    exact ⟨6, i2, 1, ret_eq (by show Value.tuple #[.agg #[.int .i64 6, .int .i64 i2, .int .i64 1], .bool (decide ((0 : Int) < i2))] = _; rw [hd])⟩

theorem funT_bound {s : List UInt8} {f : Int × Int × Nat} (h : funT s = some f) : 1 ≤ f.2.2 ∧ f.2.2 ≤ 3 := by
  unfold funT at h
  repeat' split at h
  all_goals first | (injection h with h; subst h; exact ⟨by decide, by decide⟩) | cases h
def wordR (nm : List UInt8 → Bool) (l : Toks) (sub : Option PF) (s : List UInt8) (i : Nat) : Res Ex := match funT s with
  | some f => if isT l (i + 1) 5 [40] then callP l sub f (i + 1) else colP nm l i
  | none => colP nm l i
set_option maxRecDepth 100000 in
theorem word_null (R : Nat) (A : Option Addr) (m c : Nat) (l : Toks) (i d : Nat) (w : World) (hi : i < l.length) (h : RdW w R A m c l i d) :
    Calls Tryz.prog 120 #[.pointer (some ⟨R, 0, none⟩), .string ⟨#[110, 117, 108, 108]⟩] w (Got R A m c l d w (.ok (litE vNull, i + 1))) := by
  have HH := Asd.mk h
  have HRW : Asd (R < w.heap.size) := Asd.mk (blk_lt h.blk)
  have hib : i ≤ 16384 := by have h1 := h.tok.1; have h2 := h.tok.2.1; omega
  have HBA := Asd.mk (below_alloc (Below.refl _ w) (.cells #[.int .i64 0, .int .i64 0, .int .i64 0, .int .i64 0, .string ⟨#[]⟩, .string ⟨#[]⟩, .string ⟨#[]⟩, .int .i64 0, .int .i64 0, .slice none 0 0] 26 (0, 0)))
  have HZ0 := Asd.mk (blk_new w (.cells #[.int .i64 0, .int .i64 0, .int .i64 0, .int .i64 0, .string ⟨#[]⟩, .string ⟨#[]⟩, .string ⟨#[]⟩, .int .i64 0, .int .i64 0, .slice none 0 0] 26 (0, 0)))
  clear h
  have HRA := Asd.mk (HH.out.below HBA.out)
  have r1 := (blk_cell HRA.out.blk 1).trans rfl
  have z1 := blk_frozen HRA.out.blk 1
  have hs := HRA.out.set (j := i + 1) (by omega)
  have HRS := Asd.mk hs.2
  have HFS := Asd.mk (frR_below HBA.out hs.1)
  have HZS := Asd.mk (blk_fr HZ0.out hs.1 (by show ¬ w.heap.size = R; have := HRW.out; omega))
  clear hs
  go_enter Tryz.func120, Tryz.ntmps120
  go_wp2_with fail
  change Calls _ _ _ ((w.alloc (.cells #[.int .i64 0, .int .i64 0, .int .i64 0, .int .i64 0, .string ⟨#[]⟩, .string ⟨#[]⟩, .string ⟨#[]⟩, .int .i64 0, .int .i64 0, .slice none 0 0] 26 (0, 0))).setCell ⟨R, 1, none⟩ (.int .i64 ((i + 1 : Nat) : Int))) _
  generalize ((w.alloc (.cells #[.int .i64 0, .int .i64 0, .int .i64 0, .int .i64 0, .string ⟨#[]⟩, .string ⟨#[]⟩, .string ⟨#[]⟩, .int .i64 0, .int .i64 0, .slice none 0 0] 26 (0, 0))).setCell ⟨R, 1, none⟩ (.int .i64 ((i + 1 : Nat) : Int))) = w3 at HRS HFS HZS ⊢
  refine (literal_calls vNull w3).mono ?_
  rintro e w4 ⟨rfl, hb4⟩
  have HF4 := Asd.mk (below_frR HFS.out hb4)
  have HZ4 := Asd.mk (blk_below hb4 HZS.out)
  have HR4 := Asd.mk (HRS.out.below hb4)
  clear hb4 r1 z1
  unfold exV
  have y0 := (blk_cell HZ4.out 0).trans rfl
  have y1 := (blk_cell HZ4.out 1).trans rfl
  have y2 := (blk_cell HZ4.out 2).trans rfl
  have y3 := (blk_cell HZ4.out 3).trans rfl
  have y4 := (blk_cell HZ4.out 4).trans rfl
  have y5 := (blk_cell HZ4.out 5).trans rfl
  have y6 := (blk_cell HZ4.out 6).trans rfl
  have y7 := (blk_cell HZ4.out 7).trans rfl
  have y8 := (blk_cell HZ4.out 8).trans rfl
  have y9 := (blk_cell HZ4.out 9).trans rfl
  have z0 := blk_frozen HZ4.out 0
  have z1 := blk_frozen HZ4.out 1
  have z2 := blk_frozen HZ4.out 2
  have z3 := blk_frozen HZ4.out 3
  have z4 := blk_frozen HZ4.out 4
  have z5 := blk_frozen HZ4.out 5
  have z6 := blk_frozen HZ4.out 6
  have z7 := blk_frozen HZ4.out 7
  have z8 := blk_frozen HZ4.out 8
  have z9 := blk_frozen HZ4.out 9
  go_wp2
  refine bodyPost_ret (results_cell_row rfl _ _ w.heap.size 26 _ (0, 0) _ rfl (put10_blk HZ4.out _ _ _ _ _ _ _ _ _ _) Tryz.underlying26 rfl (by kernel_rfl)) rfl ?_
  exact fin_got (x := litE vNull) HH.out HF4.out (Nat.le_refl _) HR4.out (.nil _ _)
set_option maxRecDepth 100000 in
theorem word_true (R : Nat) (A : Option Addr) (m c : Nat) (l : Toks) (i d : Nat) (w : World) (hi : i < l.length) (h : RdW w R A m c l i d) :
    Calls Tryz.prog 120 #[.pointer (some ⟨R, 0, none⟩), .string ⟨#[116, 114, 117, 101]⟩] w (Got R A m c l d w (.ok (litE (⟨1, 1, []⟩ : Vl), i + 1))) := by
  have HH := Asd.mk h
  have HRW : Asd (R < w.heap.size) := Asd.mk (blk_lt h.blk)
  have hib : i ≤ 16384 := by have h1 := h.tok.1; have h2 := h.tok.2.1; omega
  have HBA := Asd.mk (below_alloc (Below.refl _ w) (.cells #[.int .i64 0, .int .i64 0, .int .i64 0, .int .i64 0, .string ⟨#[]⟩, .string ⟨#[]⟩, .string ⟨#[]⟩, .int .i64 0, .int .i64 0, .slice none 0 0] 26 (0, 0)))
  have HZ0 := Asd.mk (blk_new w (.cells #[.int .i64 0, .int .i64 0, .int .i64 0, .int .i64 0, .string ⟨#[]⟩, .string ⟨#[]⟩, .string ⟨#[]⟩, .int .i64 0, .int .i64 0, .slice none 0 0] 26 (0, 0)))
  clear h
  have HRA := Asd.mk (HH.out.below HBA.out)
  have r1 := (blk_cell HRA.out.blk 1).trans rfl
  have z1 := blk_frozen HRA.out.blk 1
  have hs := HRA.out.set (j := i + 1) (by omega)
  have HRS := Asd.mk hs.2
  have HFS := Asd.mk (frR_below HBA.out hs.1)
  have HZS := Asd.mk (blk_fr HZ0.out hs.1 (by show ¬ w.heap.size = R; have := HRW.out; omega))
  clear hs
  go_enter Tryz.func120, Tryz.ntmps120
  have HBV := Asd.mk fun (o : Obj) => below_alloc (Below.refl _ ((w.alloc (.cells #[.int .i64 0, .int .i64 0, .int .i64 0, .int .i64 0, .string ⟨#[]⟩, .string ⟨#[]⟩, .string ⟨#[]⟩, .int .i64 0, .int .i64 0, .slice none 0 0] 26 (0, 0))).setCell ⟨R, 1, none⟩ (.int .i64 ((i + 1 : Nat) : Int)))) o
  go_wp2_with fail
  change Calls _ _ _ (((w.alloc (.cells #[.int .i64 0, .int .i64 0, .int .i64 0, .int .i64 0, .string ⟨#[]⟩, .string ⟨#[]⟩, .string ⟨#[]⟩, .int .i64 0, .int .i64 0, .slice none 0 0] 26 (0, 0))).setCell ⟨R, 1, none⟩ (.int .i64 ((i + 1 : Nat) : Int))).alloc (.cells #[.int .i64 1, .int .i64 1, .string ⟨#[]⟩] 23 (0, 0))) _
  have HRS2 := Asd.mk (HRS.out.below (HBV.out (.cells #[.int .i64 1, .int .i64 1, .string ⟨#[]⟩] 23 (0, 0))))
  have HFS2 := Asd.mk (below_frR HFS.out (HBV.out (.cells #[.int .i64 1, .int .i64 1, .string ⟨#[]⟩] 23 (0, 0))))
  have HZS2 := Asd.mk (blk_below (HBV.out (.cells #[.int .i64 1, .int .i64 1, .string ⟨#[]⟩] 23 (0, 0))) HZS.out)
  clear HBV HRS HFS HZS
  generalize ((w.alloc (.cells #[.int .i64 0, .int .i64 0, .int .i64 0, .int .i64 0, .string ⟨#[]⟩, .string ⟨#[]⟩, .string ⟨#[]⟩, .int .i64 0, .int .i64 0, .slice none 0 0] 26 (0, 0))).setCell ⟨R, 1, none⟩ (.int .i64 ((i + 1 : Nat) : Int))).alloc (.cells #[.int .i64 1, .int .i64 1, .string ⟨#[]⟩] 23 (0, 0)) = w3 at HRS2 HFS2 HZS2 ⊢
  have HRS := HRS2
  have HFS := HFS2
  have HZS := HZS2
  refine (literal_calls (⟨1, 1, []⟩ : Vl) w3).mono ?_
  rintro e w4 ⟨rfl, hb4⟩
  have HF4 := Asd.mk (below_frR HFS.out hb4)
  have HZ4 := Asd.mk (blk_below hb4 HZS.out)
  have HR4 := Asd.mk (HRS.out.below hb4)
  clear hb4 r1 z1
  unfold exV
  have y0 := (blk_cell HZ4.out 0).trans rfl
  have y1 := (blk_cell HZ4.out 1).trans rfl
  have y2 := (blk_cell HZ4.out 2).trans rfl
  have y3 := (blk_cell HZ4.out 3).trans rfl
  have y4 := (blk_cell HZ4.out 4).trans rfl
  have y5 := (blk_cell HZ4.out 5).trans rfl
  have y6 := (blk_cell HZ4.out 6).trans rfl
  have y7 := (blk_cell HZ4.out 7).trans rfl
  have y8 := (blk_cell HZ4.out 8).trans rfl
  have y9 := (blk_cell HZ4.out 9).trans rfl
  have z0 := blk_frozen HZ4.out 0
  have z1 := blk_frozen HZ4.out 1
  have z2 := blk_frozen HZ4.out 2
  have z3 := blk_frozen HZ4.out 3
  have z4 := blk_frozen HZ4.out 4
  have z5 := blk_frozen HZ4.out 5
  have z6 := blk_frozen HZ4.out 6
  have z7 := blk_frozen HZ4.out 7
  have z8 := blk_frozen HZ4.out 8
  have z9 := blk_frozen HZ4.out 9
  go_wp2
  refine bodyPost_ret (results_cell_row rfl _ _ w.heap.size 26 _ (0, 0) _ rfl (put10_blk HZ4.out _ _ _ _ _ _ _ _ _ _) Tryz.underlying26 rfl (by kernel_rfl)) rfl ?_
  exact fin_got (x := litE (⟨1, 1, []⟩ : Vl)) HH.out HF4.out (Nat.le_refl _) HR4.out (.nil _ _)
set_option maxRecDepth 100000 in
theorem word_false (R : Nat) (A : Option Addr) (m c : Nat) (l : Toks) (i d : Nat) (w : World) (hi : i < l.length) (h : RdW w R A m c l i d) :
    Calls Tryz.prog 120 #[.pointer (some ⟨R, 0, none⟩), .string ⟨#[102, 97, 108, 115, 101]⟩] w (Got R A m c l d w (.ok (litE (⟨1, 0, []⟩ : Vl), i + 1))) := by
  have HH := Asd.mk h
  have HRW : Asd (R < w.heap.size) := Asd.mk (blk_lt h.blk)
  have hib : i ≤ 16384 := by have h1 := h.tok.1; have h2 := h.tok.2.1; omega
  have HBA := Asd.mk (below_alloc (Below.refl _ w) (.cells #[.int .i64 0, .int .i64 0, .int .i64 0, .int .i64 0, .string ⟨#[]⟩, .string ⟨#[]⟩, .string ⟨#[]⟩, .int .i64 0, .int .i64 0, .slice none 0 0] 26 (0, 0)))
  have HZ0 := Asd.mk (blk_new w (.cells #[.int .i64 0, .int .i64 0, .int .i64 0, .int .i64 0, .string ⟨#[]⟩, .string ⟨#[]⟩, .string ⟨#[]⟩, .int .i64 0, .int .i64 0, .slice none 0 0] 26 (0, 0)))
  clear h
  have HRA := Asd.mk (HH.out.below HBA.out)
  have r1 := (blk_cell HRA.out.blk 1).trans rfl
  have z1 := blk_frozen HRA.out.blk 1
  have hs := HRA.out.set (j := i + 1) (by omega)
  have HRS := Asd.mk hs.2
  have HFS := Asd.mk (frR_below HBA.out hs.1)
  have HZS := Asd.mk (blk_fr HZ0.out hs.1 (by show ¬ w.heap.size = R; have := HRW.out; omega))
  clear hs
  go_enter Tryz.func120, Tryz.ntmps120
  have HBV := Asd.mk fun (o : Obj) => below_alloc (Below.refl _ ((w.alloc (.cells #[.int .i64 0, .int .i64 0, .int .i64 0, .int .i64 0, .string ⟨#[]⟩, .string ⟨#[]⟩, .string ⟨#[]⟩, .int .i64 0, .int .i64 0, .slice none 0 0] 26 (0, 0))).setCell ⟨R, 1, none⟩ (.int .i64 ((i + 1 : Nat) : Int)))) o
  go_wp2_with fail
  change Calls _ _ _ (((w.alloc (.cells #[.int .i64 0, .int .i64 0, .int .i64 0, .int .i64 0, .string ⟨#[]⟩, .string ⟨#[]⟩, .string ⟨#[]⟩, .int .i64 0, .int .i64 0, .slice none 0 0] 26 (0, 0))).setCell ⟨R, 1, none⟩ (.int .i64 ((i + 1 : Nat) : Int))).alloc (.cells #[.int .i64 1, .int .i64 0, .string ⟨#[]⟩] 23 (0, 0))) _
  have HRS2 := Asd.mk (HRS.out.below (HBV.out (.cells #[.int .i64 1, .int .i64 0, .string ⟨#[]⟩] 23 (0, 0))))
  have HFS2 := Asd.mk (below_frR HFS.out (HBV.out (.cells #[.int .i64 1, .int .i64 0, .string ⟨#[]⟩] 23 (0, 0))))
  have HZS2 := Asd.mk (blk_below (HBV.out (.cells #[.int .i64 1, .int .i64 0, .string ⟨#[]⟩] 23 (0, 0))) HZS.out)
  clear HBV HRS HFS HZS
  generalize ((w.alloc (.cells #[.int .i64 0, .int .i64 0, .int .i64 0, .int .i64 0, .string ⟨#[]⟩, .string ⟨#[]⟩, .string ⟨#[]⟩, .int .i64 0, .int .i64 0, .slice none 0 0] 26 (0, 0))).setCell ⟨R, 1, none⟩ (.int .i64 ((i + 1 : Nat) : Int))).alloc (.cells #[.int .i64 1, .int .i64 0, .string ⟨#[]⟩] 23 (0, 0)) = w3 at HRS2 HFS2 HZS2 ⊢
  have HRS := HRS2
  have HFS := HFS2
  have HZS := HZS2
  refine (literal_calls (⟨1, 0, []⟩ : Vl) w3).mono ?_
  rintro e w4 ⟨rfl, hb4⟩
  have HF4 := Asd.mk (below_frR HFS.out hb4)
  have HZ4 := Asd.mk (blk_below hb4 HZS.out)
  have HR4 := Asd.mk (HRS.out.below hb4)
  clear hb4 r1 z1
  unfold exV
  have y0 := (blk_cell HZ4.out 0).trans rfl
  have y1 := (blk_cell HZ4.out 1).trans rfl
  have y2 := (blk_cell HZ4.out 2).trans rfl
  have y3 := (blk_cell HZ4.out 3).trans rfl
  have y4 := (blk_cell HZ4.out 4).trans rfl
  have y5 := (blk_cell HZ4.out 5).trans rfl
  have y6 := (blk_cell HZ4.out 6).trans rfl
  have y7 := (blk_cell HZ4.out 7).trans rfl
  have y8 := (blk_cell HZ4.out 8).trans rfl
  have y9 := (blk_cell HZ4.out 9).trans rfl
  have z0 := blk_frozen HZ4.out 0
  have z1 := blk_frozen HZ4.out 1
  have z2 := blk_frozen HZ4.out 2
  have z3 := blk_frozen HZ4.out 3
  have z4 := blk_frozen HZ4.out 4
  have z5 := blk_frozen HZ4.out 5
  have z6 := blk_frozen HZ4.out 6
  have z7 := blk_frozen HZ4.out 7
  have z8 := blk_frozen HZ4.out 8
  have z9 := blk_frozen HZ4.out 9
  go_wp2
  refine bodyPost_ret (results_cell_row rfl _ _ w.heap.size 26 _ (0, 0) _ rfl (put10_blk HZ4.out _ _ _ _ _ _ _ _ _ _) Tryz.underlying26 rfl (by kernel_rfl)) rfl ?_
  exact fin_got (x := litE (⟨1, 0, []⟩ : Vl)) HH.out HF4.out (Nat.le_refl _) HR4.out (.nil _ _)
set_option maxRecDepth 100000 in
theorem word_rest (R : Nat) (A : Option Addr) (m c : Nat) (l : Toks) (sub : Option PF) (i d : Nat) (s : List UInt8) (w : World) (hnear : Near l) (hi : i < l.length)
    (h1 : s ≠ [110, 117, 108, 108]) (h2 : s ≠ [116, 114, 117, 101]) (h3 : s ≠ [102, 97, 108, 115, 101])
    (hcall : ∀ (w : World) (j : Nat) (f : Int × Int × Nat), 1 ≤ f.2.2 ∧ f.2.2 ≤ 3 → isT l j 5 [40] = true → RdW w R A m c l j d → Calls Tryz.prog 137 #[.pointer (some ⟨R, 0, none⟩), .agg #[.int .i64 f.1, .int .i64 f.2.1, .int .i64 (f.2.2 : Nat)]] w (Got R A m c l d w (callP l sub f j))) (h : RdW w R A m c l i d) :
    Calls Tryz.prog 120 #[.pointer (some ⟨R, 0, none⟩), .string ⟨s.toArray⟩] w (Got R A m c l d w (wordR nmOk l sub s i)) := by
  have HH := Asd.mk h
  have HRW : Asd (R < w.heap.size) := Asd.mk (blk_lt h.blk)
  have HCA := Asd.mk hcall
  have HNE := Asd.mk hnear
  have HI := Asd.mk hi
  have hib : i ≤ 16384 := by have h1 := h.tok.1; have h2 := h.tok.2.1; omega
  have HBA := Asd.mk (below_alloc (Below.refl _ w) (.cells #[.int .i64 0, .int .i64 0, .int .i64 0, .int .i64 0, .string ⟨#[]⟩, .string ⟨#[]⟩, .string ⟨#[]⟩, .int .i64 0, .int .i64 0, .slice none 0 0] 26 (0, 0)))
  have HZ0 := Asd.mk (blk_new w (.cells #[.int .i64 0, .int .i64 0, .int .i64 0, .int .i64 0, .string ⟨#[]⟩, .string ⟨#[]⟩, .string ⟨#[]⟩, .int .i64 0, .int .i64 0, .slice none 0 0] 26 (0, 0)))
  have g1 : (s == [110, 117, 108, 108]) = false := by simp [h1]
  have g2 : (s == [116, 114, 117, 101]) = false := by simp [h2]
  have g3 : (s == [102, 97, 108, 115, 101]) = false := by simp [h3]
  clear h h1 h2 h3 hcall hnear hi
  go_enter Tryz.func120, Tryz.ntmps120
  go_wp2_with fail
  generalize w.alloc (.cells #[.int .i64 0, .int .i64 0, .int .i64 0, .int .i64 0, .string ⟨#[]⟩, .string ⟨#[]⟩, .string ⟨#[]⟩, .int .i64 0, .int .i64 0, .slice none 0 0] 26 (0, 0)) = w0 at HBA HZ0 ⊢
  refine (function_calls s w0).mono ?_
  rintro e w1 ⟨hfn, hb1⟩
  have HB1 : Asd (Below w.heap.size w w1) := Asd.mk (HBA.out.trans (hb1.mono HBA.out.size))
  have HZ1 := Asd.mk (blk_below hb1 HZ0.out)
  clear hb1 g1 g2 g3 HBA HZ0
  obtain ⟨k1, k2, k3, ok, rfl, hway⟩ : ∃ k1 k2 k3 ok, e = .returned (.tuple #[.agg #[.int .i64 k1, .int .i64 k2, .int .i64 k3], .bool ok]) ∧ ((ok = false ∧ wordR nmOk l sub s i = colP nmOk l i) ∨ (∃ f : Int × Int × Nat, (1 ≤ f.2.2 ∧ f.2.2 ≤ 3) ∧ ok = true ∧ k1 = f.1 ∧ k2 = f.2.1 ∧ k3 = (f.2.2 : Nat) ∧ wordR nmOk l sub s i = if isT l (i + 1) 5 [40] then callP l sub f (i + 1) else colP nmOk l i)) := by
    cases hx : funT s with
    | none => rw [hx] at hfn; obtain ⟨k, o, n, rfl⟩ := hfn; exact ⟨k, o, n, false, rfl, .inl ⟨rfl, by unfold wordR; rw [hx]⟩⟩
    | some f => rw [hx] at hfn; exact ⟨_, _, _, true, hfn, .inr ⟨f, funT_bound hx, rfl, rfl, rfl, rfl, by unfold wordR; rw [hx]⟩⟩
  have HWAY := Asd.mk hway
  clear hfn hway
  have HB2 : Asd (Below w.heap.size w (w1.alloc (.cells #[.int .i64 k1, .int .i64 k2, .int .i64 k3] 163 (0, 0)))) := Asd.mk (below_alloc HB1.out _)
  have HZ2 := Asd.mk (blk_alloc HZ1.out (.cells #[.int .i64 k1, .int .i64 k2, .int .i64 k3] 163 (0, 0)))
  have HC2 := Asd.mk (blk_new w1 (.cells #[.int .i64 k1, .int .i64 k2, .int .i64 k3] 163 (0, 0)))
  go_upto_region 13 with fail
  generalize w1.alloc (.cells #[.int .i64 k1, .int .i64 k2, .int .i64 k3] 163 (0, 0)) = w2 at HB2 HZ2 HC2 ⊢
  have HSW : Asd (w.heap.size < w1.heap.size) := Asd.mk (blk_lt HZ1.out)
  generalize w1.heap.size = b6 at HC2 HSW ⊢
  have HR2 := Asd.mk (HH.out.below HB2.out)
  go_cut [85] (fun s85 wx => s85 = .bool (ok && isT l (i + 1) 5 [40]) ∧ Asd (Below w2.heap.size w2 wx))
  case first =>
    have r0 := (blk_cell HR2.out.blk 0).trans rfl
    have r1 := (blk_cell HR2.out.blk 1).trans rfl
    cases ok with
    | false =>
      go_quiet (fail)
      have HQ := Asd.mk (below_drewN' w2 nq)
      go_wp2
      go_meet
      exact ⟨rfl, HQ⟩
    | true =>
      by_cases hlt : i + 1 < l.length
      · have hltm : i + 1 < m := by have := HR2.out.tok.1; omega
        have hlti : (i : Int) + 1 < (m : Int) := by omega
        obtain ⟨gt, rfl, hc⟩ := HR2.out.tok.2.2 (by omega)
        obtain ⟨t0, t1, t2, t3⟩ := hc (i + 1) hlt
        have HTT := Asd.mk (isT_some (k := 5) (s := [40]) hlt)
        generalize l[i + 1] = x at t0 t1 t2 t3 HTT
        clear hc
        by_cases hk : x.1.kind = 5
        · have hk' : ((x.1.kind : Nat) : Int) = 5 := by omega
          rw [hk'] at t0
          by_cases hs : x.1.text = [40]
          · rw [hs] at t1
            have HO : Asd (isT l (i + 1) 5 [40] = true) := Asd.mk (by rw [HTT.out]; simp [hk, hs])
            clear hk hk' hs
            go_quiet (fail)
            have HQ := Asd.mk (below_drewN' w2 nq)
            go_wp2
            go_meet
            exact ⟨by rw [HO.out]; rfl, HQ⟩
          · have hs' : ¬ (⟨x.1.text.toArray⟩ : ByteArray).toList = (⟨#[40]⟩ : ByteArray).toList := by rw [toList_mk, show (⟨#[40]⟩ : ByteArray).toList = [40] from toList_mk _]; exact hs
            have HO : Asd (isT l (i + 1) 5 [40] = false) := Asd.mk (by rw [HTT.out]; simp [hs])
            have HX2 : Asd ((x.1.text == [40]) = false) := Asd.mk (by simp [hs])
            clear hk hk' hs
            go_quiet (fail)
            have HQ := Asd.mk (below_drewN' w2 nq)
            go_wp2
            go_meet
            exact ⟨by rw [HO.out]; first | rfl | (show Value.bool (x.1.text == [40]) = Value.bool false; rw [HX2.out]), HQ⟩
        · have hk' : ¬ ((x.1.kind : Nat) : Int) = 5 := by omega
          have hkb : (((x.1.kind : Nat) : Int) == 5) = false := by simpa using hk'
          have HO : Asd (isT l (i + 1) 5 [40] = false) := Asd.mk (by rw [HTT.out]; simp [hk])
          clear hk
          go_quiet (fail)
          have HQ := Asd.mk (below_drewN' w2 nq)
          go_wp2
          go_meet
          exact ⟨by rw [HO.out]; rfl, HQ⟩
      · have hltm : ¬ i + 1 < m := by have := HR2.out.tok.1; omega
        have hlti : ¬ (i : Int) + 1 < (m : Int) := by omega
        have HO : Asd (isT l (i + 1) 5 [40] = false) := Asd.mk (isT_none (by omega))
        clear hlt
        go_quiet (fail)
        have HQ := Asd.mk (below_drewN' w2 nq)
        go_wp2
        go_meet
        exact ⟨by rw [HO.out]; rfl, HQ⟩
  case rest =>
    obtain ⟨rfl, HQ⟩ := hcut
    have HB3 : Asd (Below w.heap.size w wc) := Asd.mk (HB2.out.trans (HQ.out.mono HB2.out.size))
    have HZ3 := Asd.mk (blk_below HQ.out HZ2.out)
    have HC3 := Asd.mk (blk_below HQ.out HC2.out)
    have HR3 := Asd.mk (HR2.out.below HQ.out)
    clear HQ HB2 HZ2 HC2 HR2
    by_cases hb : (ok && isT l (i + 1) 5 [40]) = true
    · rw [hb]
      obtain ⟨f, hfb, rfl, rfl, rfl, rfl, hw⟩ : ∃ f : Int × Int × Nat, (1 ≤ f.2.2 ∧ f.2.2 ≤ 3) ∧ ok = true ∧ k1 = f.1 ∧ k2 = f.2.1 ∧ k3 = (f.2.2 : Nat) ∧ wordR nmOk l sub s i = callP l sub f (i + 1) := by
        rcases HWAY.out with ⟨h1, _⟩ | ⟨f, h0, h1, h2, h3, h4, h5⟩
        · rw [h1] at hb; cases hb
        · rw [h1] at hb; exact ⟨f, h0, h1, h2, h3, h4, by rw [h5, if_pos (by simpa using hb)]⟩
      have HW := Asd.mk hw
      have HFB := Asd.mk hfb
      have HIT : Asd (isT l (i + 1) 5 [40] = true) := Asd.mk (by simpa using hb)
      have HLT := Asd.mk (isT_lt HIT.out)
      clear hb hw hfb HWAY
      have r1 := (blk_cell HR3.out.blk 1).trans rfl
      have z1 := blk_frozen HR3.out.blk 1
      have hs := HR3.out.set (j := i + 1) (by have := HLT.out; omega)
      have HRS := Asd.mk hs.2
      have HFS := Asd.mk (frR_below HB3.out hs.1)
      have HZS := Asd.mk (blk_fr HZ3.out hs.1 (by show ¬ w.heap.size = R; have := HRW.out; omega))
      have HCS := blk_fr HC3.out hs.1 (by show ¬ b6 = R; have := HRW.out; have := HSW.out; omega)
      have q0 : (wc.setCell ⟨R, 1, none⟩ (.int .i64 ((i : Int) + 1))).cell? ⟨b6, 0, none⟩ = some (.int .i64 f.1) := (blk_cell HCS 0).trans rfl
      have q1 : (wc.setCell ⟨R, 1, none⟩ (.int .i64 ((i : Int) + 1))).cell? ⟨b6, 1, none⟩ = some (.int .i64 f.2.1) := (blk_cell HCS 1).trans rfl
      have q2 : (wc.setCell ⟨R, 1, none⟩ (.int .i64 ((i : Int) + 1))).cell? ⟨b6, 2, none⟩ = some (.int .i64 (f.2.2 : Nat)) := (blk_cell HCS 2).trans rfl
      clear hs HCS
      go_wp2_with fail
      change Calls _ _ _ (wc.setCell ⟨R, 1, none⟩ (.int .i64 ((i + 1 : Nat) : Int))) _
      clear q0 q1 q2 r1 z1
      generalize wc.setCell ⟨R, 1, none⟩ (.int .i64 ((i + 1 : Nat) : Int)) = w3 at HRS HFS HZS ⊢
      refine (HCA.out w3 (i + 1) f HFB.out HIT.out HRS.out).mono ?_
      rintro e w4 ⟨hf4, hm⟩
      have HF4 := Asd.mk (frR_trans HFS.out hf4)
      have HZ4 := Asd.mk (blk_fr HZS.out hf4 (by show ¬ w.heap.size = R; have := HRW.out; omega))
      have HS3 : Asd (w.heap.size < w3.heap.size) := Asd.mk (blk_lt HZS.out)
      clear hf4
      cases hfi : callP l sub f (i + 1) with
      | error er =>
        rw [hfi] at hm
        have HE : Asd (wordR nmOk l sub s i = .error er) := Asd.mk (by rw [HW.out, hfi])
        obtain ⟨N, rfl, hN⟩ := hm
        clear hfi
        go_wp2
        refine ⟨rfl, ?_⟩
        rw [HE.out]
        exact got_error HF4.out ⟨N, rfl, hN⟩
      | ok y =>
        obtain ⟨x, j⟩ := y
        rw [hfi] at hm
        have HE : Asd (wordR nmOk l sub s i = .ok (x, j)) := Asd.mk (by rw [HW.out, hfi])
        obtain ⟨sv, rfl, hh, hr⟩ := hm
        obtain ⟨As, ms, cs, rfl⟩ := held_slice hh
        have HHX := Asd.mk hh
        have HRX := Asd.mk hr
        clear hfi hh hr
        unfold exV
        have y0 := (blk_cell HZ4.out 0).trans rfl
        have y1 := (blk_cell HZ4.out 1).trans rfl
        have y2 := (blk_cell HZ4.out 2).trans rfl
        have y3 := (blk_cell HZ4.out 3).trans rfl
        have y4 := (blk_cell HZ4.out 4).trans rfl
        have y5 := (blk_cell HZ4.out 5).trans rfl
        have y6 := (blk_cell HZ4.out 6).trans rfl
        have y7 := (blk_cell HZ4.out 7).trans rfl
        have y8 := (blk_cell HZ4.out 8).trans rfl
        have y9 := (blk_cell HZ4.out 9).trans rfl
        have z0 := blk_frozen HZ4.out 0
        have z1 := blk_frozen HZ4.out 1
        have z2 := blk_frozen HZ4.out 2
        have z3 := blk_frozen HZ4.out 3
        have z4 := blk_frozen HZ4.out 4
        have z5 := blk_frozen HZ4.out 5
        have z6 := blk_frozen HZ4.out 6
        have z7 := blk_frozen HZ4.out 7
        have z8 := blk_frozen HZ4.out 8
        have z9 := blk_frozen HZ4.out 9
        go_wp2
        refine bodyPost_ret (results_cell_row rfl _ _ w.heap.size 26 _ (0, 0) _ rfl (put10_blk HZ4.out _ _ _ _ _ _ _ _ _ _) Tryz.underlying26 rfl (by kernel_rfl)) rfl ?_
        rw [HE.out]
        exact fin_got HH.out HF4.out (Nat.le_refl _) HRX.out (held_mono HHX.out fun g _ hg => by have h1 : w3.heap.size ≤ g := hg; have := HS3.out; exact ⟨by omega, by omega⟩)
    · have hbf : (ok && isT l (i + 1) 5 [40]) = false := by simpa using hb
      rw [hbf]
      have HW : Asd (wordR nmOk l sub s i = colP nmOk l i) := Asd.mk (by
        rcases HWAY.out with ⟨_, h⟩ | ⟨f, h0, h1, h2, h3, h4, h5⟩
        · exact h
        · rw [h1] at hbf; rw [h5, if_neg (by have : isT l (i + 1) 5 [40] = false := by simpa using hbf
                                             rw [this]; decide)])
      clear hb hbf HWAY
      go_wp2_with fail
      refine (name_calls R A m c l i d wc HNE.out HR3.out).mono ?_
      rintro e w3 ⟨hf3, hm⟩
      have HF3 := Asd.mk (frR_below HB3.out hf3)
      have HZ4 := Asd.mk (blk_fr HZ3.out hf3 (by show ¬ w.heap.size = R; have := HRW.out; omega))
      clear hf3
      cases hn : nameT nmOk l i with
      | error er =>
        rw [hn] at hm
        have HE : Asd (wordR nmOk l sub s i = .error er) := Asd.mk (by rw [HW.out]; unfold colP; rw [hn])
        obtain ⟨N, rfl, hN⟩ := hm
        clear hn
        go_wp2
        refine ⟨rfl, ?_⟩
        rw [HE.out]
        exact got_error HF3.out ⟨N, rfl, hN⟩
      | ok y =>
        obtain ⟨n1, j⟩ := y
        rw [hn] at hm
        have HN := Asd.mk hn
        obtain ⟨rfl, hr3⟩ := hm
        have HBB := Asd.mk (below_alloc (Below.refl _ w3) (.cells #[.int .i64 2, .int .i64 0, .int .i64 0, .int .i64 0, .string ⟨#[]⟩, .string ⟨#[]⟩, .string ⟨n1.toArray⟩, .int .i64 0, .int .i64 0, .slice none 0 0] 26 (0, 0)))
        have HE0 := Asd.mk (blk_new w3 (.cells #[.int .i64 2, .int .i64 0, .int .i64 0, .int .i64 0, .string ⟨#[]⟩, .string ⟨#[]⟩, .string ⟨n1.toArray⟩, .int .i64 0, .int .i64 0, .slice none 0 0] 26 (0, 0)))
        have HZ5 := Asd.mk (blk_alloc HZ4.out (.cells #[.int .i64 2, .int .i64 0, .int .i64 0, .int .i64 0, .string ⟨#[]⟩, .string ⟨#[]⟩, .string ⟨n1.toArray⟩, .int .i64 0, .int .i64 0, .slice none 0 0] 26 (0, 0)))
        have HR5 := Asd.mk (RdW.below hr3 HBB.out)
        have HF5 := Asd.mk (below_frR HF3.out HBB.out)
        have HSE : Asd (w.heap.size < w3.heap.size) := Asd.mk (blk_lt HZ4.out)
        clear hn hr3
        go_wp2_with fail
        generalize w3.alloc (.cells #[.int .i64 2, .int .i64 0, .int .i64 0, .int .i64 0, .string ⟨#[]⟩, .string ⟨#[]⟩, .string ⟨n1.toArray⟩, .int .i64 0, .int .i64 0, .slice none 0 0] 26 (0, 0)) = w5 at HBB HE0 HZ5 HR5 HF5 ⊢
        generalize w3.heap.size = b8 at HE0 HSE ⊢
        refine (take_calls R A m c l j d 5 [46] w5 (by omega) HR5.out).mono ?_
        rintro e w6 ⟨rfl, hf6, hr6⟩
        have HF6 := Asd.mk (frR_trans HF5.out hf6)
        have HZ6 := Asd.mk (blk_fr HZ5.out hf6 (by show ¬ w.heap.size = R; have := HRW.out; omega))
        have HE6 := Asd.mk (blk_fr HE0.out hf6 (by show ¬ b8 = R; have := HRW.out; have := HSE.out; omega))
        have HRT := Asd.mk hr6
        clear hf6 hr6
        cases hT : isT l j 5 [46] with
        | false =>
          have HR6 : Asd (RdW w6 R A m c l j d) := Asd.mk (by have := HRT.out; unfold tookT at this; rw [hT] at this; exact this)
          have HE : Asd (wordR nmOk l sub s i = .ok (colE [] n1, j)) := Asd.mk (by rw [HW.out]; unfold colP; rw [HN.out]; simp only; rw [if_neg (by rw [hT]; decide)])
          clear hT
          have x0 := (blk_cell HE6.out 0).trans rfl
          have x1 := (blk_cell HE6.out 1).trans rfl
          have x2 := (blk_cell HE6.out 2).trans rfl
          have x3 := (blk_cell HE6.out 3).trans rfl
          have x4 := (blk_cell HE6.out 4).trans rfl
          have x5 := (blk_cell HE6.out 5).trans rfl
          have x6 := (blk_cell HE6.out 6).trans rfl
          have x7 := (blk_cell HE6.out 7).trans rfl
          have x8 := (blk_cell HE6.out 8).trans rfl
          have x9 := (blk_cell HE6.out 9).trans rfl
          have y0 := (blk_cell HZ6.out 0).trans rfl
          have y1 := (blk_cell HZ6.out 1).trans rfl
          have y2 := (blk_cell HZ6.out 2).trans rfl
          have y3 := (blk_cell HZ6.out 3).trans rfl
          have y4 := (blk_cell HZ6.out 4).trans rfl
          have y5 := (blk_cell HZ6.out 5).trans rfl
          have y6 := (blk_cell HZ6.out 6).trans rfl
          have y7 := (blk_cell HZ6.out 7).trans rfl
          have y8 := (blk_cell HZ6.out 8).trans rfl
          have y9 := (blk_cell HZ6.out 9).trans rfl
          have z0 := blk_frozen HZ6.out 0
          have z1 := blk_frozen HZ6.out 1
          have z2 := blk_frozen HZ6.out 2
          have z3 := blk_frozen HZ6.out 3
          have z4 := blk_frozen HZ6.out 4
          have z5 := blk_frozen HZ6.out 5
          have z6 := blk_frozen HZ6.out 6
          have z7 := blk_frozen HZ6.out 7
          have z8 := blk_frozen HZ6.out 8
          have z9 := blk_frozen HZ6.out 9
          go_wp2
          refine bodyPost_ret (results_cell_row rfl _ _ w.heap.size 26 _ (0, 0) _ rfl (put10_blk HZ6.out _ _ _ _ _ _ _ _ _ _) Tryz.underlying26 rfl (by kernel_rfl)) rfl ?_
          rw [HE.out]
          exact fin_got (x := colE [] n1) HH.out HF6.out (Nat.le_refl _) HR6.out (.nil _ _)
        | true =>
          have HR6 : Asd (RdW w6 R A m c l (j + 1) d) := Asd.mk (by have := HRT.out; unfold tookT at this; rw [hT] at this; exact this)
          have HT := Asd.mk hT
          clear hT
          have HRD : Asd (RdW w6.drew R A m c l (j + 1) d) := Asd.mk (HR6.out.below (below_drewN' w6 1))
          have HFD : Asd (Fr (fun k => k = R) w w6.drew) := Asd.mk HF6.out.drew
          have HED : Asd (w6.drew.heap[b8]? = some (.cells #[.int .i64 2, .int .i64 0, .int .i64 0, .int .i64 0, .string ⟨#[]⟩, .string ⟨#[]⟩, .string ⟨n1.toArray⟩, .int .i64 0, .int .i64 0, .slice none 0 0] 26 (0, 0))) := Asd.mk HE6.out
          have HZD : Asd (w6.drew.heap[w.heap.size]? = some (.cells #[.int .i64 0, .int .i64 0, .int .i64 0, .int .i64 0, .string ⟨#[]⟩, .string ⟨#[]⟩, .string ⟨#[]⟩, .int .i64 0, .int .i64 0, .slice none 0 0] 26 (0, 0))) := Asd.mk HZ6.out
          go_upto_region 18 with fail
          refine wp_region_held_drew (S := fun _ => True) (by kernel_rfl) trivial (fun hHeld => ?_)
          have xn : w6.drew.cell? ⟨b8, 6, none⟩ = some (.string ⟨n1.toArray⟩) := (blk_cell HED.out 6).trans rfl
          generalize w6.drew = wd at HRD HFD HED HZD xn ⊢
          refine wpAnyH_take (i := 0) (oi := ({ dst := some 101, op := Op.fieldAddr 26 (Operand.tmp 8) 4, type := 0, pos := "expr.go:246", after := #[], guard := none } : Oper)) (v := ?vs0) rfl (by kernel_rfl) (by kernel_rfl) (by kernel_rfl) (fun _ _ _ h => h) (Or.inl ⟨by rfl, ?hs0⟩) (by assumption) ?rs0
          case hs0 => (intro w hSw; (try dsimp only at hSw); go_simp; try (with_reducible rfl))
          try simp only [Act.put, List.setIfInBounds_toArray, List.set_cons_zero, List.set_cons_succ]
          refine wpAnyH_take (i := 2) (oi := ({ dst := some 103, op := Op.move (Operand.tmp 0), type := 91, pos := "expr.go:246", after := #[], guard := none } : Oper)) (v := ?vs2) rfl (by kernel_rfl) (by kernel_rfl) (by kernel_rfl) (fun _ _ _ h => h) (Or.inl ⟨by rfl, ?hs2⟩) (by assumption) ?rs2
          case hs2 => (intro w hSw; (try dsimp only at hSw); go_simp; try (with_reducible rfl))
          try simp only [Act.put, List.setIfInBounds_toArray, List.set_cons_zero, List.set_cons_succ]
          refine wpAnyH_ready (rs := [1, 3]) (by kernel_rfl) (by simp) ?_
          refine AllReadyH.cons (o := ({ dst := some 102, op := Op.load 9 (Operand.tmp 101), type := 9, pos := "expr.go:246", after := #[{ on := 0, ground := Ground.data }], guard := none } : Oper)) rfl ?aq (AllReadyH.cons (o := ({ dst := some 104, op := Op.call { callee := Callee.value (Operand.func 138), args := #[Operand.tmp 103], argTypes := #[91] }, type := 9, pos := "expr.go:246", after := #[{ on := 2, ground := Ground.data }], guard := none } : Oper)) rfl ?bq AllReadyH.nil)
          case aq =>
            intro K hK
            go_simp
            go_wp2_with fail
            refine hK.out _ _ (trivial) (fun hHeld => ?_)
            clear hK K
            try simp only [Act.put, List.setIfInBounds_toArray, List.set_cons_zero, List.set_cons_succ]
            refine wpAnyH_take (i := 4) (oi := ({ dst := some 105, op := Op.fieldAddr 26 (Operand.tmp 8) 3, type := 0, pos := "expr.go:246", after := #[{ on := 0, ground := Ground.phase }, { on := 1, ground := Ground.phase }, { on := 2, ground := Ground.textOnly Departure.lateStores }, { on := 3, ground := Ground.textOnly Departure.lateStoresUnsure }], guard := none } : Oper)) (v := ?vta4) rfl (by kernel_rfl) (by kernel_rfl) (by kernel_rfl) (fun _ _ _ h => h) (Or.inl ⟨by rfl, ?hta4⟩) (by assumption) ?rta4
            case hta4 => (intro w hSw; (try dsimp only at hSw); go_simp; try (with_reducible rfl))
            try simp only [Act.put, List.setIfInBounds_toArray, List.set_cons_zero, List.set_cons_succ]
            refine wpAnyH_ready (rs := [3]) (by kernel_rfl) (by simp) ?_
            refine AllReadyH.cons (o := ({ dst := some 104, op := Op.call { callee := Callee.value (Operand.func 138), args := #[Operand.tmp 103], argTypes := #[91] }, type := 9, pos := "expr.go:246", after := #[{ on := 2, ground := Ground.data }], guard := none } : Oper)) rfl (fun K hK => ?_) AllReadyH.nil
            go_simp
            refine (name_calls R A m c l (j + 1) d wd HNE.out HRD.out).mono ?_
            rintro e w7 ⟨hf7, hm⟩
            have HF7 := Asd.mk (frR_trans HFD.out hf7)
            have HZ7 := Asd.mk (blk_fr HZD.out hf7 (by show ¬ w.heap.size = R; have := HRW.out; omega))
            have HE7 := Asd.mk (blk_fr HED.out hf7 (by show ¬ b8 = R; have := HRW.out; have := HSE.out; omega))
            clear hf7
            cases hn : nameT nmOk l (j + 1) with
            | error er =>
              rw [hn] at hm
              have HE : Asd (wordR nmOk l sub s i = .error er) := Asd.mk (by rw [HW.out]; unfold colP; rw [HN.out]; simp only; rw [if_pos HT.out, hn])
              obtain ⟨N, rfl, hN⟩ := hm
              refine ⟨rfl, ?_⟩
              rw [HE.out]
              exact got_error HF7.out ⟨N, rfl, hN⟩
            | ok y =>
            obtain ⟨n2, q⟩ := y
            rw [hn] at hm
            have HE : Asd (wordR nmOk l sub s i = .ok (colE n1 n2, q)) := Asd.mk (by rw [HW.out]; unfold colP; rw [HN.out]; simp only; rw [if_pos HT.out, hn])
            obtain ⟨rfl, hr7⟩ := hm
            have HR7 := Asd.mk hr7
            clear hn hr7
            have xn7 := (blk_cell HE7.out 6).trans rfl
            go_wp2_with fail
            refine hK.out _ _ (trivial) (fun hHeld => ?_)
            clear hK K
            try simp only [Act.put, List.setIfInBounds_toArray, List.set_cons_zero, List.set_cons_succ]
            have z5 := blk_frozen HE7.out 5
            have y5 := (blk_cell HE7.out 5).trans rfl
            refine wpAnyH_ready (rs := [5]) (by kernel_rfl) (by simp) ?_
            refine AllReadyH.cons (o := ({ dst := none, op := Op.store 9 (Operand.tmp 105) (Operand.tmp 102), type := 0, pos := "expr.go:246", after := #[{ on := 4, ground := Ground.data }, { on := 1, ground := Ground.data }, { on := 3, ground := Ground.chain }, { on := 0, ground := Ground.phase }, { on := 1, ground := Ground.phase }, { on := 2, ground := Ground.textOnly Departure.lateStores }, { on := 3, ground := Ground.textOnly Departure.lateStoresUnsure }], guard := none } : Oper)) rfl (fun K hK => ?_) AllReadyH.nil
            go_simp
            go_wp2_with fail
            refine hK.out _ _ (trivial) (fun hHeld => ?_)
            clear hK K
            try simp only [Act.put, List.setIfInBounds_toArray, List.set_cons_zero, List.set_cons_succ]
            refine wpAnyH_take (i := 6) (oi := ({ dst := some 106, op := Op.fieldAddr 26 (Operand.tmp 8) 4, type := 0, pos := "expr.go:246", after := #[{ on := 0, ground := Ground.phase }, { on := 1, ground := Ground.phase }, { on := 2, ground := Ground.phase }, { on := 3, ground := Ground.phase }, { on := 4, ground := Ground.phase }, { on := 5, ground := Ground.phase }], guard := none } : Oper)) (v := ?vta6) rfl (by kernel_rfl) (by kernel_rfl) (by kernel_rfl) (fun _ _ _ h => h) (Or.inl ⟨by rfl, ?hta6⟩) (by assumption) ?rta6
            case hta6 => (intro w hSw; (try dsimp only at hSw); go_simp; try (with_reducible rfl))
            try simp only [Act.put, List.setIfInBounds_toArray, List.set_cons_zero, List.set_cons_succ]
            have hst5 := Fr.setCell (S := fun k => k = b8) (Fr.refl _ w7) (p := ⟨b8, 5, none⟩) rfl (.string ⟨n1.toArray⟩)
            have HE8 : Asd ((w7.setCell ⟨b8, 5, none⟩ (.string ⟨n1.toArray⟩)).heap[b8]? = some (.cells #[.int .i64 2, .int .i64 0, .int .i64 0, .int .i64 0, .string ⟨#[]⟩, .string ⟨n1.toArray⟩, .string ⟨n1.toArray⟩, .int .i64 0, .int .i64 0, .slice none 0 0] 26 (0, 0))) := Asd.mk ((blk_set HE7.out 5 _).trans rfl)
            have z6 := blk_frozen HE8.out 6
            have y6 := (blk_cell HE8.out 6).trans rfl
            refine wpAnyH_ready (rs := [7]) (by kernel_rfl) (by simp) ?_
            refine AllReadyH.cons (o := ({ dst := none, op := Op.store 9 (Operand.tmp 106) (Operand.tmp 104), type := 0, pos := "expr.go:246", after := #[{ on := 6, ground := Ground.data }, { on := 3, ground := Ground.data }, { on := 5, ground := Ground.chain }, { on := 0, ground := Ground.phase }, { on := 1, ground := Ground.phase }, { on := 2, ground := Ground.phase }, { on := 3, ground := Ground.phase }, { on := 4, ground := Ground.phase }, { on := 5, ground := Ground.phase }], guard := none } : Oper)) rfl (fun K hK => ?_) AllReadyH.nil
            go_simp
            go_wp2_with fail
            refine hK.out _ _ (trivial) (fun hHeld => ?_)
            clear hK K
            try simp only [Act.put, List.setIfInBounds_toArray, List.set_cons_zero, List.set_cons_succ]
            have hst6 := Fr.setCell (S := fun k => k = b8) (Fr.refl _ (w7.setCell ⟨b8, 5, none⟩ (.string ⟨n1.toArray⟩))) (p := ⟨b8, 6, none⟩) rfl (.string ⟨n2.toArray⟩)
            have hst := hst5.trans hst6 (U := fun k => k = b8) (fun _ h _ => h) (fun _ h _ => h)
            have HE9 : Asd (((w7.setCell ⟨b8, 5, none⟩ (.string ⟨n1.toArray⟩)).setCell ⟨b8, 6, none⟩ (.string ⟨n2.toArray⟩)).heap[b8]? = some (.cells #[.int .i64 2, .int .i64 0, .int .i64 0, .int .i64 0, .string ⟨#[]⟩, .string ⟨n1.toArray⟩, .string ⟨n2.toArray⟩, .int .i64 0, .int .i64 0, .slice none 0 0] 26 (0, 0))) := Asd.mk ((blk_set HE8.out 6 _).trans rfl)
            have HF9 := Asd.mk (fr_new HF7.out hst (fun k hk => .inr (by have h1 : k = b8 := hk; have := HSE.out; omega)))
            have HZ9 := Asd.mk (blk_fr HZ7.out hst (by show ¬ w.heap.size = b8; have := HSE.out; omega))
            have HR9 := Asd.mk (HR7.out.var (x := colE [] n1) (y := colE n1 n2) hst (by have := HRW.out; have := HSE.out; omega) (by have := HRW.out; have := HSE.out; omega) HE7.out HE9.out)
            clear hst hst5 hst6
            refine wpAnyH_done (by kernel_rfl) ?_ _
            generalize (w7.setCell ⟨b8, 5, none⟩ (.string ⟨n1.toArray⟩)).setCell ⟨b8, 6, none⟩ (.string ⟨n2.toArray⟩) = w9 at HE9 HF9 HZ9 HR9 ⊢
            have x0 := (blk_cell HE9.out 0).trans rfl
            have x1 := (blk_cell HE9.out 1).trans rfl
            have x2 := (blk_cell HE9.out 2).trans rfl
            have x3 := (blk_cell HE9.out 3).trans rfl
            have x4 := (blk_cell HE9.out 4).trans rfl
            have x5 := (blk_cell HE9.out 5).trans rfl
            have x6 := (blk_cell HE9.out 6).trans rfl
            have x7 := (blk_cell HE9.out 7).trans rfl
            have x8 := (blk_cell HE9.out 8).trans rfl
            have x9 := (blk_cell HE9.out 9).trans rfl
            have y0 := (blk_cell HZ9.out 0).trans rfl
            have y1 := (blk_cell HZ9.out 1).trans rfl
            have y2 := (blk_cell HZ9.out 2).trans rfl
            have y3 := (blk_cell HZ9.out 3).trans rfl
            have y4 := (blk_cell HZ9.out 4).trans rfl
            have y5 := (blk_cell HZ9.out 5).trans rfl
            have y6 := (blk_cell HZ9.out 6).trans rfl
            have y7 := (blk_cell HZ9.out 7).trans rfl
            have y8 := (blk_cell HZ9.out 8).trans rfl
            have y9 := (blk_cell HZ9.out 9).trans rfl
            have z0 := blk_frozen HZ9.out 0
            have z1 := blk_frozen HZ9.out 1
            have z2 := blk_frozen HZ9.out 2
            have z3 := blk_frozen HZ9.out 3
            have z4 := blk_frozen HZ9.out 4
            have z5 := blk_frozen HZ9.out 5
            have z6 := blk_frozen HZ9.out 6
            have z7 := blk_frozen HZ9.out 7
            have z8 := blk_frozen HZ9.out 8
            have z9 := blk_frozen HZ9.out 9
            go_wp2
            refine bodyPost_ret (results_cell_row rfl _ _ w.heap.size 26 _ (0, 0) _ rfl (put10_blk HZ9.out _ _ _ _ _ _ _ _ _ _) Tryz.underlying26 rfl (by kernel_rfl)) rfl ?_
            rw [HE.out]
            exact fin_got (x := colE n1 n2) HH.out HF9.out (Nat.le_refl _) HR9.out (.nil _ _)
          case bq =>
            intro K hK
            go_simp
            refine (name_calls R A m c l (j + 1) d wd HNE.out HRD.out).mono ?_
            rintro e w7 ⟨hf7, hm⟩
            have HF7 := Asd.mk (frR_trans HFD.out hf7)
            have HZ7 := Asd.mk (blk_fr HZD.out hf7 (by show ¬ w.heap.size = R; have := HRW.out; omega))
            have HE7 := Asd.mk (blk_fr HED.out hf7 (by show ¬ b8 = R; have := HRW.out; have := HSE.out; omega))
            clear hf7
            cases hn : nameT nmOk l (j + 1) with
            | error er =>
              rw [hn] at hm
              have HE : Asd (wordR nmOk l sub s i = .error er) := Asd.mk (by rw [HW.out]; unfold colP; rw [HN.out]; simp only; rw [if_pos HT.out, hn])
              obtain ⟨N, rfl, hN⟩ := hm
              refine ⟨rfl, ?_⟩
              rw [HE.out]
              exact got_error HF7.out ⟨N, rfl, hN⟩
            | ok y =>
            obtain ⟨n2, q⟩ := y
            rw [hn] at hm
            have HE : Asd (wordR nmOk l sub s i = .ok (colE n1 n2, q)) := Asd.mk (by rw [HW.out]; unfold colP; rw [HN.out]; simp only; rw [if_pos HT.out, hn])
            obtain ⟨rfl, hr7⟩ := hm
            have HR7 := Asd.mk hr7
            clear hn hr7
            have xn7 := (blk_cell HE7.out 6).trans rfl
            go_wp2_with fail
            refine hK.out _ _ (trivial) (fun hHeld => ?_)
            clear hK K
            try simp only [Act.put, List.setIfInBounds_toArray, List.set_cons_zero, List.set_cons_succ]
            refine wpAnyH_ready (rs := [1]) (by kernel_rfl) (by simp) ?_
            refine AllReadyH.cons (o := ({ dst := some 102, op := Op.load 9 (Operand.tmp 101), type := 9, pos := "expr.go:246", after := #[{ on := 0, ground := Ground.data }], guard := none } : Oper)) rfl (fun K hK => ?_) AllReadyH.nil
            go_simp
            go_wp2_with fail
            refine hK.out _ _ (trivial) (fun hHeld => ?_)
            clear hK K
            try simp only [Act.put, List.setIfInBounds_toArray, List.set_cons_zero, List.set_cons_succ]
            refine wpAnyH_take (i := 4) (oi := ({ dst := some 105, op := Op.fieldAddr 26 (Operand.tmp 8) 3, type := 0, pos := "expr.go:246", after := #[{ on := 0, ground := Ground.phase }, { on := 1, ground := Ground.phase }, { on := 2, ground := Ground.textOnly Departure.lateStores }, { on := 3, ground := Ground.textOnly Departure.lateStoresUnsure }], guard := none } : Oper)) (v := ?vtb4) rfl (by kernel_rfl) (by kernel_rfl) (by kernel_rfl) (fun _ _ _ h => h) (Or.inl ⟨by rfl, ?htb4⟩) (by assumption) ?rtb4
            case htb4 => (intro w hSw; (try dsimp only at hSw); go_simp; try (with_reducible rfl))
            try simp only [Act.put, List.setIfInBounds_toArray, List.set_cons_zero, List.set_cons_succ]
            have z5 := blk_frozen HE7.out 5
            have y5 := (blk_cell HE7.out 5).trans rfl
            refine wpAnyH_ready (rs := [5]) (by kernel_rfl) (by simp) ?_
            refine AllReadyH.cons (o := ({ dst := none, op := Op.store 9 (Operand.tmp 105) (Operand.tmp 102), type := 0, pos := "expr.go:246", after := #[{ on := 4, ground := Ground.data }, { on := 1, ground := Ground.data }, { on := 3, ground := Ground.chain }, { on := 0, ground := Ground.phase }, { on := 1, ground := Ground.phase }, { on := 2, ground := Ground.textOnly Departure.lateStores }, { on := 3, ground := Ground.textOnly Departure.lateStoresUnsure }], guard := none } : Oper)) rfl (fun K hK => ?_) AllReadyH.nil
            go_simp
            go_wp2_with fail
            refine hK.out _ _ (trivial) (fun hHeld => ?_)
            clear hK K
            try simp only [Act.put, List.setIfInBounds_toArray, List.set_cons_zero, List.set_cons_succ]
            refine wpAnyH_take (i := 6) (oi := ({ dst := some 106, op := Op.fieldAddr 26 (Operand.tmp 8) 4, type := 0, pos := "expr.go:246", after := #[{ on := 0, ground := Ground.phase }, { on := 1, ground := Ground.phase }, { on := 2, ground := Ground.phase }, { on := 3, ground := Ground.phase }, { on := 4, ground := Ground.phase }, { on := 5, ground := Ground.phase }], guard := none } : Oper)) (v := ?vtb6) rfl (by kernel_rfl) (by kernel_rfl) (by kernel_rfl) (fun _ _ _ h => h) (Or.inl ⟨by rfl, ?htb6⟩) (by assumption) ?rtb6
            case htb6 => (intro w hSw; (try dsimp only at hSw); go_simp; try (with_reducible rfl))
            try simp only [Act.put, List.setIfInBounds_toArray, List.set_cons_zero, List.set_cons_succ]
            have hst5 := Fr.setCell (S := fun k => k = b8) (Fr.refl _ w7) (p := ⟨b8, 5, none⟩) rfl (.string ⟨n1.toArray⟩)
            have HE8 : Asd ((w7.setCell ⟨b8, 5, none⟩ (.string ⟨n1.toArray⟩)).heap[b8]? = some (.cells #[.int .i64 2, .int .i64 0, .int .i64 0, .int .i64 0, .string ⟨#[]⟩, .string ⟨n1.toArray⟩, .string ⟨n1.toArray⟩, .int .i64 0, .int .i64 0, .slice none 0 0] 26 (0, 0))) := Asd.mk ((blk_set HE7.out 5 _).trans rfl)
            have z6 := blk_frozen HE8.out 6
            have y6 := (blk_cell HE8.out 6).trans rfl
            refine wpAnyH_ready (rs := [7]) (by kernel_rfl) (by simp) ?_
            refine AllReadyH.cons (o := ({ dst := none, op := Op.store 9 (Operand.tmp 106) (Operand.tmp 104), type := 0, pos := "expr.go:246", after := #[{ on := 6, ground := Ground.data }, { on := 3, ground := Ground.data }, { on := 5, ground := Ground.chain }, { on := 0, ground := Ground.phase }, { on := 1, ground := Ground.phase }, { on := 2, ground := Ground.phase }, { on := 3, ground := Ground.phase }, { on := 4, ground := Ground.phase }, { on := 5, ground := Ground.phase }], guard := none } : Oper)) rfl (fun K hK => ?_) AllReadyH.nil
            go_simp
            go_wp2_with fail
            refine hK.out _ _ (trivial) (fun hHeld => ?_)
            clear hK K
            try simp only [Act.put, List.setIfInBounds_toArray, List.set_cons_zero, List.set_cons_succ]
            have hst6 := Fr.setCell (S := fun k => k = b8) (Fr.refl _ (w7.setCell ⟨b8, 5, none⟩ (.string ⟨n1.toArray⟩))) (p := ⟨b8, 6, none⟩) rfl (.string ⟨n2.toArray⟩)
            have hst := hst5.trans hst6 (U := fun k => k = b8) (fun _ h _ => h) (fun _ h _ => h)
            have HE9 : Asd (((w7.setCell ⟨b8, 5, none⟩ (.string ⟨n1.toArray⟩)).setCell ⟨b8, 6, none⟩ (.string ⟨n2.toArray⟩)).heap[b8]? = some (.cells #[.int .i64 2, .int .i64 0, .int .i64 0, .int .i64 0, .string ⟨#[]⟩, .string ⟨n1.toArray⟩, .string ⟨n2.toArray⟩, .int .i64 0, .int .i64 0, .slice none 0 0] 26 (0, 0))) := Asd.mk ((blk_set HE8.out 6 _).trans rfl)
            have HF9 := Asd.mk (fr_new HF7.out hst (fun k hk => .inr (by have h1 : k = b8 := hk; have := HSE.out; omega)))
            have HZ9 := Asd.mk (blk_fr HZ7.out hst (by show ¬ w.heap.size = b8; have := HSE.out; omega))
            have HR9 := Asd.mk (HR7.out.var (x := colE [] n1) (y := colE n1 n2) hst (by have := HRW.out; have := HSE.out; omega) (by have := HRW.out; have := HSE.out; omega) HE7.out HE9.out)
            clear hst hst5 hst6
            refine wpAnyH_done (by kernel_rfl) ?_ _
            generalize (w7.setCell ⟨b8, 5, none⟩ (.string ⟨n1.toArray⟩)).setCell ⟨b8, 6, none⟩ (.string ⟨n2.toArray⟩) = w9 at HE9 HF9 HZ9 HR9 ⊢
            have x0 := (blk_cell HE9.out 0).trans rfl
            have x1 := (blk_cell HE9.out 1).trans rfl
            have x2 := (blk_cell HE9.out 2).trans rfl
            have x3 := (blk_cell HE9.out 3).trans rfl
            have x4 := (blk_cell HE9.out 4).trans rfl
            have x5 := (blk_cell HE9.out 5).trans rfl
            have x6 := (blk_cell HE9.out 6).trans rfl
            have x7 := (blk_cell HE9.out 7).trans rfl
            have x8 := (blk_cell HE9.out 8).trans rfl
            have x9 := (blk_cell HE9.out 9).trans rfl
            have y0 := (blk_cell HZ9.out 0).trans rfl
            have y1 := (blk_cell HZ9.out 1).trans rfl
            have y2 := (blk_cell HZ9.out 2).trans rfl
            have y3 := (blk_cell HZ9.out 3).trans rfl
            have y4 := (blk_cell HZ9.out 4).trans rfl
            have y5 := (blk_cell HZ9.out 5).trans rfl
            have y6 := (blk_cell HZ9.out 6).trans rfl
            have y7 := (blk_cell HZ9.out 7).trans rfl
            have y8 := (blk_cell HZ9.out 8).trans rfl
            have y9 := (blk_cell HZ9.out 9).trans rfl
            have z0 := blk_frozen HZ9.out 0
            have z1 := blk_frozen HZ9.out 1
            have z2 := blk_frozen HZ9.out 2
            have z3 := blk_frozen HZ9.out 3
            have z4 := blk_frozen HZ9.out 4
            have z5 := blk_frozen HZ9.out 5
            have z6 := blk_frozen HZ9.out 6
            have z7 := blk_frozen HZ9.out 7
            have z8 := blk_frozen HZ9.out 8
            have z9 := blk_frozen HZ9.out 9
            go_wp2
            refine bodyPost_ret (results_cell_row rfl _ _ w.heap.size 26 _ (0, 0) _ rfl (put10_blk HZ9.out _ _ _ _ _ _ _ _ _ _) Tryz.underlying26 rfl (by kernel_rfl)) rfl ?_
            rw [HE.out]
            exact fin_got (x := colE n1 n2) HH.out HF9.out (Nat.le_refl _) HR9.out (.nil _ _)
theorem word_calls (R : Nat) (A : Option Addr) (m c : Nat) (l : Toks) (sub : Option PF) (i d : Nat) (s : List UInt8) (w : World) (hnear : Near l) (hi : i < l.length)
    (hcall : ∀ (w : World) (j : Nat) (f : Int × Int × Nat), 1 ≤ f.2.2 ∧ f.2.2 ≤ 3 → isT l j 5 [40] = true → RdW w R A m c l j d → Calls Tryz.prog 137 #[.pointer (some ⟨R, 0, none⟩), .agg #[.int .i64 f.1, .int .i64 f.2.1, .int .i64 (f.2.2 : Nat)]] w (Got R A m c l d w (callP l sub f j))) (h : RdW w R A m c l i d) :
    Calls Tryz.prog 120 #[.pointer (some ⟨R, 0, none⟩), .string ⟨s.toArray⟩] w (Got R A m c l d w (wordP nmOk l sub s i)) := by
  by_cases h1 : s = [110, 117, 108, 108]
  · subst h1; exact word_null R A m c l i d w hi h
  · by_cases h2 : s = [116, 114, 117, 101]
    · subst h2; exact word_true R A m c l i d w hi h
    · by_cases h3 : s = [102, 97, 108, 115, 101]
      · subst h3; exact word_false R A m c l i d w hi h
      · have e : wordP nmOk l sub s i = wordR nmOk l sub s i := by unfold wordP wordR; rw [if_neg h1, if_neg h2, if_neg h3]; rfl
        rw [e]
        exact word_rest R A m c l sub i d s w hnear hi h1 h2 h3 hcall h
end Go.Proofs.YtbeeaikilcnpgaaGreatDoor.Exp
