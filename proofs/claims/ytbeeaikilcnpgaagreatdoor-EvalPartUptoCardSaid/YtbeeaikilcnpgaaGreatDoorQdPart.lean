/- Parts of an expression; Eval with a part known. -/
import Derived.Test.YtbeeaikilcnpgaaGreatDoorQc8
set_option linter.unusedVariables false
set_option linter.unusedSimpArgs false
namespace Go.Proofs.YtbeeaikilcnpgaaGreatDoor.Exp
open Go.RowKit Go.Proofs.YtbeeaikilcnpgaaGreatDoor.Base Go.Proofs.YtbeeaikilcnpgaaGreatDoor.App Go.Proofs.YtbeeaikilcnpgaaGreatDoor.Byt Go.Proofs.YtbeeaikilcnpgaaGreatDoor.Lex

theorem rightL_mem : ∀ {l : List Ex}, rightL l = true → ∀ x ∈ l, rightX x = true
  | [], _, x, hx => by cases hx
  | y :: r, h, x, hx => by
    rw [rightL, Bool.and_eq_true] at h
    rcases List.mem_cons.mp hx with rfl | hx
    · exact h.1
    · exact rightL_mem h.2 x hx
theorem rngXL_mem : ∀ {l : List Ex}, rngXL l → ∀ x ∈ l, rngX x
  | [], _, x, hx => by cases hx
  | y :: r, h, x, hx => by
    rw [rngXL] at h
    rcases List.mem_cons.mp hx with rfl | hx
    · exact h.1
    · exact rngXL_mem h.2 x hx
/-- What a part of an expression has of it. -/
structure PartOf (x p : Ex) : Prop where
  bulk : bulkX p ≤ bulkX x
  right : rightX x = true → rightX p = true
  rng : rngX x → rngX p
  col : hasCol x = false → hasCol p = false
theorem PartOf.refl (x : Ex) : PartOf x x := ⟨Nat.le_refl _, fun h => h, fun h => h, fun h => h⟩
theorem PartOf.arg {x p : Ex} (h : PartOf x p) (i : Nat) (hi : i < p.args.length) : PartOf x p.args[i] := by
  refine ⟨?_, fun hr => ?_, fun hr => ?_, fun hc => ?_⟩
  · have h1 := bulkXL_mem (List.getElem_mem hi)
    have h2 := h.bulk
    rw [bulkX_eq p] at h2
    omega
  · have h1 := h.right hr
    rw [rightX_eq, Bool.and_eq_true] at h1
    exact rightL_mem h1.2 _ (List.getElem_mem hi)
  · have h1 := h.rng hr
    rw [rngX_eq] at h1
    exact rngXL_mem h1.2 _ (List.getElem_mem hi)
  · have h1 := h.col hc
    rw [hasCol_eq, Bool.or_eq_false_iff] at h1
    exact hasColL_at _ i hi h1.2
/-- A number of unsigned 64 bits by another: what remains. -/
theorem remW (v : Int) (n : Nat) (h0 : 0 < n) (hn : n ≤ 1048576) : ∃ r : Nat, r < n ∧ (IntKind.u64.wrap v).tmod ((n : Nat) : Int) = ((r : Nat) : Int) := by
  have hv : 0 ≤ IntKind.u64.wrap v := by
    simp [IntKind.wrap, IntKind.signed, IntKind.bits]
    omega
  generalize IntKind.u64.wrap v = y at hv
  have e : y.tmod (n : Int) = y % (n : Int) := Int.tmod_eq_emod_of_nonneg hv
  have h1 : 0 ≤ y % (n : Int) := Int.emod_nonneg _ (by omega)
  have h2 : y % (n : Int) < (n : Int) := Int.emod_lt_of_pos _ (by omega)
  exact ⟨(y % (n : Int)).toNat, by omega, by rw [e]; omega⟩
theorem knP {P : Nat → Prop} {W : World} {b m c : Nat} {A : Option Addr} {p : Ex} {u : Vl} (h : W.heap[b]? = some (kK (p, u) (.slice A m c))) (hh : Held P W p.args (.slice A m c)) : KnSl P W (some ⟨b, 0, none⟩) [(p, u)] := fun _ => by
  refine ⟨b, 0, rfl, fun i hi => ?_⟩
  obtain rfl : i = 0 := by simp at hi; omega
  refine ⟨A, m, c, fun j hj => ?_, hh, ?_⟩
  · rcases (show j = 0 ∨ j = 1 ∨ j = 2 ∨ j = 3 ∨ j = 4 ∨ j = 5 ∨ j = 6 ∨ j = 7 ∨ j = 8 ∨ j = 9 by omega) with rfl | rfl | rfl | rfl | rfl | rfl | rfl | rfl | rfl | rfl <;> exact (blk_cell h _).trans rfl
  · exact ⟨(blk_cell h 10).trans rfl, (blk_cell h 11).trans rfl, (blk_cell h 12).trans rfl⟩
set_option maxRecDepth 100000 in
/-- Eval with one part known as what it is worth. -/
theorem evalK (us : List Vl) (x p : Ex) (m : Nat) (hm : x.args.length = m) (hN : bulkX x ≤ 1048576) (hr : rngX x) (hrt : rightX x = true) (hu : (us.all fun v => chkV v == 0) = true) (hp : PartOf x p) (hc : hasCol x = false) {u : Vl} (hv : evE us [] p = .ok u) {r : Ev} (hq : evE us [] x = r)
    (A : Option Addr) (c : Nat) (RA : Option Addr) (ca : Nat) (w : World) (hrow : RowW w RA us) {P : Nat → Prop} (hh : Held (fun _ => True) w x.args (.slice A m c)) {b : Nat} {A' : Option Addr} {m' c' : Nat} (hk : w.heap[b]? = some (kK (p, u) (.slice A' m' c'))) (hd : Held P w p.args (.slice A' m' c')) :
    Calls Tryz.prog 11 #[exV x (.slice A m c), .slice RA us.length ca, .slice (some ⟨b, 0, none⟩) 1 1] w fun e w' => e = .returned (.tuple #[vC (resVal r), .int .i64 (resNum r)]) ∧ Below w.heap.size w w' := by
  subst hm
  have hrow' := hrow.env hu
  have hrp : rvX p := rvX_of p (hp.right hrt) (hp.rng hr) (Nat.le_trans hp.bulk hN)
  have hru : RV u := evE_rv (known := []) hrow'.rrv (fun _ hq => by cases hq) p hrp u hv
  have he : EnvW P w RA (some ⟨b, 0, none⟩) us [(p, u)] := ⟨hrow'.vals, hrow'.rlen, hrow'.rrv, knP hk hd, by simp, (fun q hq => by
    obtain rfl := List.mem_singleton.mp hq
    exact hru), (fun q hq => by
    obtain rfl := List.mem_singleton.mp hq
    exact few_of p (Nat.le_trans hp.bulk hN))⟩
  refine (eval_calls us [(p, u)] x (rvX_of x hrt hr hN) _ _ A RA (some ⟨b, 0, none⟩) c ca 1 w he hh).mono fun e w' h => ?_
  have h2 := ev2_form h
  rw [evE_part us p u (hp.col hc) hv x, hq] at h2
  exact h2
/-- A box of an expression is stored anew. -/
theorem put_box {a W : World} {b : Nat} {p x : Ex} {s0 s : Value} {P : Nat → Prop} (hb : W.heap[b]? = some (xK p s0)) (hB : Below a.heap.size a W) (hab : a.heap.size ≤ b) (hh : Held P W x.args s) (hP : ∀ g, P g → ¬ g = b) :
    Below a.heap.size a (((((((((((W.setCell ⟨b, 0, none⟩ (.int .i64 x.kind)).setCell ⟨b, 1, none⟩ (.int .i64 x.op)).setCell ⟨b, 2, none⟩ (.int .i64 x.v.kind)).setCell ⟨b, 3, none⟩ (.int .i64 x.v.int)).setCell ⟨b, 4, none⟩ (.string ⟨x.v.text.toArray⟩)).setCell ⟨b, 5, none⟩ (.string ⟨x.table.toArray⟩)).setCell ⟨b, 6, none⟩ (.string ⟨x.name.toArray⟩)).setCell ⟨b, 7, none⟩ (.int .i64 x.col)).setCell ⟨b, 8, none⟩ (.int .i64 x.ty)).setCell ⟨b, 9, none⟩ s).drew) ∧ (((((((((((W.setCell ⟨b, 0, none⟩ (.int .i64 x.kind)).setCell ⟨b, 1, none⟩ (.int .i64 x.op)).setCell ⟨b, 2, none⟩ (.int .i64 x.v.kind)).setCell ⟨b, 3, none⟩ (.int .i64 x.v.int)).setCell ⟨b, 4, none⟩ (.string ⟨x.v.text.toArray⟩)).setCell ⟨b, 5, none⟩ (.string ⟨x.table.toArray⟩)).setCell ⟨b, 6, none⟩ (.string ⟨x.name.toArray⟩)).setCell ⟨b, 7, none⟩ (.int .i64 x.col)).setCell ⟨b, 8, none⟩ (.int .i64 x.ty)).setCell ⟨b, 9, none⟩ s).drew).heap[b]? = some (xK x s) ∧ Held P (((((((((((W.setCell ⟨b, 0, none⟩ (.int .i64 x.kind)).setCell ⟨b, 1, none⟩ (.int .i64 x.op)).setCell ⟨b, 2, none⟩ (.int .i64 x.v.kind)).setCell ⟨b, 3, none⟩ (.int .i64 x.v.int)).setCell ⟨b, 4, none⟩ (.string ⟨x.v.text.toArray⟩)).setCell ⟨b, 5, none⟩ (.string ⟨x.table.toArray⟩)).setCell ⟨b, 6, none⟩ (.string ⟨x.name.toArray⟩)).setCell ⟨b, 7, none⟩ (.int .i64 x.col)).setCell ⟨b, 8, none⟩ (.int .i64 x.ty)).setCell ⟨b, 9, none⟩ s).drew) x.args s :=
  ⟨(below_put10 hB hab _ _ _ _ _ _ _ _ _ _).drew, blk_below (Below.refl _ _).drew (put10_blk hb _ _ _ _ _ _ _ _ _ _), held_below (held_frS hh (put10_fr (S := fun g => g = b) rfl _ _ _ _ _ _ _ _ _ _) hP) (Below.refl _ _).drew⟩
end Go.Proofs.YtbeeaikilcnpgaaGreatDoor.Exp
