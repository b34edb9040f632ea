/- node.read's closure key. -/
import Derived.Test.YtnohhmopiflboaaNode29
set_option linter.unusedVariables false
set_option linter.unusedSimpArgs false
namespace Go.Proofs.Ytnohhmopiflboaa.Nod
open Go.RowKit Go.Proofs.Ytnohhmopiflboaa.Base Go.Proofs.Ytnohhmopiflboaa.Byt Go.Proofs.Ytnohhmopiflboaa.Rd Go.Proofs.Ytnohhmopiflboaa.App

set_option maxRecDepth 100000 in
set_option maxHeartbeats 1600000 in
theorem key_calls (ft g gb : Nat) (xs : PB) (w : World) (hf : FuncAt w ft g) (hne : ft ≠ g) (h : Rest w g gb xs) :
    Calls Try.prog 79 #[.pointer (some ⟨ft, 0, none⟩)] w (Keyed w g gb xs) := by
  have p0 : w.cell? ⟨ft, 0, none⟩ = some (.func (.func 77) #[] #[.pointer (some ⟨g, 0, none⟩)]) := (blk_cell hf 0).trans rfl
  have HF := Asd.mk hf
  have HRD : Asd (Rest w.drew g gb xs) := Asd.mk ⟨h.out⟩
  clear h hf
  go_enter Try.func79, Try.ntmps79
  go_upto_region 1 with fail
  refine wp_region_held_drew (S := fun w' => w'.cell? ⟨ft, 0, none⟩ = some (.func (.func 77) #[] #[.pointer (some ⟨g, 0, none⟩)])) (by kernel_rfl) p0 (fun hHeld => ?_)
  refine wpAnyH_take (i := 0) (oi := ({ dst := some 2, op := Op.load 44 (Operand.tmp 0), type := 44, pos := "node.go:174", after := #[], guard := none } : Oper)) (v := ?va0) rfl (by kernel_rfl) (by kernel_rfl) (by kernel_rfl) (fun _ _ _ h => h) (Or.inl ⟨by rfl, ?ha0⟩) (by assumption) ?ra0
  case ha0 => (intro w hSw; (try dsimp only at hSw); go_simp; try (with_reducible rfl))
  try simp only [Act.put, List.setIfInBounds_toArray, List.set_cons_zero, List.set_cons_succ]
  refine wpAnyH_take (i := 1) (oi := ({ dst := some 3, op := Op.load 44 (Operand.tmp 0), type := 44, pos := "node.go:174", after := #[], guard := none } : Oper)) (v := ?va1) rfl (by kernel_rfl) (by kernel_rfl) (by kernel_rfl) (fun _ _ _ h => h) (Or.inl ⟨by rfl, ?ha1⟩) (by assumption) ?ra1
  case ha1 => (intro w hSw; (try dsimp only at hSw); go_simp; try (with_reducible rfl))
  try simp only [Act.put, List.setIfInBounds_toArray, List.set_cons_zero, List.set_cons_succ]
  refine wpAnyH_ready (rs := [2]) (by kernel_rfl) (by simp) ?_
  refine AllReadyH.cons (o := ({ dst := some 4, op := Op.call { callee := Callee.value (Operand.tmp 3), args := #[Operand.const (Value.int IntKind.i64 1)], argTypes := #[3] }, type := 31, pos := "node.go:174", after := #[{ on := 1, ground := Ground.data }], guard := none } : Oper)) rfl (fun K hK => ?_) AllReadyH.nil
  go_simp
  refine (take_calls g gb 1 xs w.drew (by omega) HRD.out).mono ?_
  rintro e w2 ⟨hfr, hm⟩
  have HFR : Asd (Fr (fun k => k = g) w w2) := Asd.mk ⟨hfr.os, hfr.tape, hfr.output, hfr.size, hfr.block⟩
  cases ht : takeP 1 xs with
  | none =>
    rw [ht] at hm
    subst hm
    refine ⟨rfl, HFR.out, ?_⟩
    rw [show keyP xs = none by simp [keyP, ht]]
  | some p =>
  obtain ⟨ys, r⟩ := p
  rw [ht] at hm
  obtain ⟨⟨A', c', rfl, ho⟩, hr⟩ := hm
  have HR2 := Asd.mk hr
  have p1 := (blk_cell (HF.out.fr HFR.out hne) 0).trans rfl
  obtain ⟨b, cur, rfl, hbb, hh, hc0⟩ := own_cell ho 0 (by omega)
  have q0 := (blk_cell hh 0).trans hc0
  have HK : Asd (keyP xs = takeP (ys.getD 0 0).toNat r) := Asd.mk (by simp [keyP, ht])
  have hyn : (ys.getD 0 0).toNat < 256 := (ys.getD 0 0).toNat_lt
  generalize ys.getD 0 0 = y at q0 hyn HK
  have hw : IntKind.i64.wrap (y.toNat : Int) = (y.toNat : Int) := by rw [IntKind.wrap_i64]; omega
  simp only [bcell] at q0
  clear hfr ho hr hbb hh hc0 ht
  go_wp2_with fail
  refine hK.out _ _ (p1) (fun hHeld => ?_)
  clear hK K
  try simp only [Act.put, List.setIfInBounds_toArray, List.set_cons_zero, List.set_cons_succ]
  refine wpAnyH_take (i := 3) (oi := ({ dst := some 5, op := Op.indexAddr 31 (Operand.tmp 4) (Operand.const (Value.int IntKind.i64 0)), type := 0, pos := "node.go:174", after := #[{ on := 2, ground := Ground.data }], guard := none } : Oper)) (v := ?va3) rfl (by kernel_rfl) (by kernel_rfl) (by kernel_rfl) (fun _ _ _ h => h) (Or.inl ⟨by rfl, ?ha3⟩) (by assumption) ?ra3
  case ha3 => (intro w hSw; (try dsimp only at hSw); go_simp; try (with_reducible rfl))
  try simp only [Act.put, List.setIfInBounds_toArray, List.set_cons_zero, List.set_cons_succ]
  refine wpAnyH_ready (rs := [4]) (by kernel_rfl) (by simp) ?_
  refine AllReadyH.cons (o := ({ dst := some 6, op := Op.load 5 (Operand.tmp 5), type := 5, pos := "node.go:174", after := #[{ on := 3, ground := Ground.data }], guard := none } : Oper)) rfl (fun K hK => ?_) AllReadyH.nil
  go_simp
  go_wp2_with fail
  refine hK.out _ _ (p1) (fun hHeld => ?_)
  clear hK K
  try simp only [Act.put, List.setIfInBounds_toArray, List.set_cons_zero, List.set_cons_succ]
  refine wpAnyH_take (i := 5) (oi := ({ dst := some 7, op := Op.convert 5 3 (Operand.tmp 6), type := 3, pos := "node.go:174", after := #[{ on := 4, ground := Ground.data }], guard := none } : Oper)) (v := ?va5) rfl (by kernel_rfl) (by kernel_rfl) (by kernel_rfl) (fun _ _ _ h => h) (Or.inl ⟨by rfl, ?ha5⟩) (by assumption) ?ra5
  case ha5 => (intro w hSw; (try dsimp only at hSw); go_simp; try (with_reducible rfl))
  try simp only [Act.put, List.setIfInBounds_toArray, List.set_cons_zero, List.set_cons_succ]
  refine wpAnyH_ready (rs := [6]) (by kernel_rfl) (by simp) ?_
  refine AllReadyH.cons (o := ({ dst := some 8, op := Op.call { callee := Callee.value (Operand.tmp 2), args := #[Operand.tmp 7], argTypes := #[3] }, type := 31, pos := "node.go:174", after := #[{ on := 0, ground := Ground.data }, { on := 5, ground := Ground.data }, { on := 2, ground := Ground.chain }], guard := none } : Oper)) rfl (fun K hK => ?_) AllReadyH.nil
  go_simp
  refine (take_calls g gb y.toNat r w2 (by omega) HR2.out).mono ?_
  rintro e w3 ⟨hfr, hm⟩
  have HFR3 : Asd (Fr (fun k => k = g) w w3) := Asd.mk (HFR.out.trans hfr (fun _ h _ => h) (fun _ h _ => h))
  have hsz := HFR.out.size
  cases ht : takeP y.toNat r with
  | none =>
    rw [ht] at hm
    subst hm
    refine ⟨rfl, HFR3.out, ?_⟩
    rw [HK.out, ht]
  | some p =>
  obtain ⟨zs, r3⟩ := p
  rw [ht] at hm
  obtain ⟨⟨A3, c3, rfl, ho⟩, hr⟩ := hm
  have hlen : y.toNat = zs.length := ho.len
  have HO : Asd (OwnM w3 w.heap.size A3 zs.length c3 zs) := Asd.mk (by have := own_base ho hsz; rw [← hlen]; exact this)
  have HR3 := Asd.mk hr
  have p2 := (blk_cell (HF.out.fr HFR3.out hne) 0).trans rfl
  have HKK : Asd (keyP xs = some (zs, r3)) := Asd.mk (by rw [HK.out, ht])
  have HLEN := Asd.mk hlen
  clear hfr ho hr ht hlen hsz
  go_wp2_with fail
  refine hK.out _ _ (p2) (fun hHeld => ?_)
  clear hK K
  try simp only [Act.put, List.setIfInBounds_toArray, List.set_cons_zero, List.set_cons_succ]
  refine wpAnyH_take (i := 7) (oi := ({ dst := some 1, op := Op.assign (Operand.tmp 8), type := 31, pos := "node.go:174", after := #[{ on := 6, ground := Ground.data }, { on := 6, ground := Ground.chain }, { on := 0, ground := Ground.phase }, { on := 1, ground := Ground.phase }, { on := 2, ground := Ground.phase }, { on := 3, ground := Ground.phase }, { on := 4, ground := Ground.phase }, { on := 5, ground := Ground.phase }, { on := 6, ground := Ground.phase }], guard := none } : Oper)) (v := ?va7) rfl (by kernel_rfl) (by kernel_rfl) (by kernel_rfl) (fun _ _ _ h => h) (Or.inl ⟨by rfl, ?ha7⟩) (by assumption) ?ra7
  case ha7 => (intro w hSw; (try dsimp only at hSw); go_simp; try (with_reducible rfl))
  try simp only [Act.put, List.setIfInBounds_toArray, List.set_cons_zero, List.set_cons_succ]
  refine wpAnyH_done (by kernel_rfl) ?_ _
  go_wp2
  go_ret
  refine ⟨HFR3.out, ?_⟩
  rw [HKK.out]
  exact ⟨⟨A3, c3, by simp [HLEN.out], HO.out⟩, HR3.out⟩
end Go.Proofs.Ytnohhmopiflboaa.Nod
