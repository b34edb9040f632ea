/- Decode: the node that a load is. -/
import Derived.Test.YtnohhmopiflboaaNode33
import Derived.Test.YtnohhmopiflboaaNode34
set_option linter.unusedVariables false
set_option linter.unusedSimpArgs false
namespace Go.Proofs.Ytnohhmopiflboaa.Nod
open Go.RowKit Go.Proofs.Ytnohhmopiflboaa.Base Go.Proofs.Ytnohhmopiflboaa.Byt Go.Proofs.Ytnohhmopiflboaa.Rd Go.Proofs.Ytnohhmopiflboaa.App

set_option maxRecDepth 100000 in
set_option maxHeartbeats 1600000 in
/-- The same, whatever the node held: the panic is caught, an empty node and the error are laid. -/
theorem catch_any (p q : Nat) (v0 v1 v2 v3 : Value) (w : World) (hp : w.heap[p]? = some (.cells #[v0, v1, v2, v3] 29 (0, 0))) (hq : w.heap[q]? = some (.cells #[.int .i64 0] 32 (0, 0))) (hpq : p ≠ q) :
    CallsD Try.prog 45 #[.pointer (some ⟨p, 0, none⟩), .pointer (some ⟨q, 0, none⟩)] (.panicking ({ v := bad, recovered := false } :: [])) w fun e u' w' =>
      e = .returned (.tuple #[]) ∧ u' = .panicking ({ v := bad, recovered := true } :: []) ∧ Fr (fun k => k = p ∨ k = q) w w' ∧ w'.heap[p]? = some (.cells #[.bool false, .slice none 0 0, .slice none 0 0, .slice none 0 0] 29 (0, 0)) ∧ w'.heap[q]? = some (.cells #[.int .i64 10] 32 (0, 0)) := by
  have p0 := (blk_cell hp 0).trans rfl
  have p1 := (blk_cell hp 1).trans rfl
  have p2 := (blk_cell hp 2).trans rfl
  have p3 := (blk_cell hp 3).trans rfl
  have z0 := blk_frozen hp 0
  have z1 := blk_frozen hp 1
  have z2 := blk_frozen hp 2
  have z3 := blk_frozen hp 3
  have q0 := (blk_cell hq 0).trans rfl
  have f0 := blk_frozen hq 0
  have HP := Asd.mk hp
  have HQ := Asd.mk hq
  clear hp hq
  refine callsD_of_wpS Try.func45 rfl fun c₀ cs hu => ?_
  apply wpS_seq
  apply wpS_region
  simp [wpOpsS, go_sem, recoverD, hu, Try.ntmps45, Exit.thenS]
  refine wpS_of_wp ?_
  simp only [Array.replicate_succ, Array.replicate_zero, List.push_toArray, List.append_toArray, List.nil_append, List.cons_append, List.setIfInBounds_toArray, List.set_cons_zero, List.set_cons_succ]
  have hta := as_bad
  go_wp2
  have k1 := blk_set HP.out 0 (.bool false)
  have k2 := blk_set k1 1 (.slice none 0 0)
  have k3 := blk_set k2 2 (.slice none 0 0)
  have k4 := blk_set k3 3 (.slice none 0 0)
  have k5 := blk_far k4 (p := ⟨q, 0, none⟩) hpq (.int .i64 10)
  have j1 := blk_far HQ.out (p := ⟨p, 0, none⟩) (Ne.symm hpq) (.bool false)
  have j2 := blk_far j1 (p := ⟨p, 1, none⟩) (Ne.symm hpq) (.slice none 0 0)
  have j3 := blk_far j2 (p := ⟨p, 2, none⟩) (Ne.symm hpq) (.slice none 0 0)
  have j4 := blk_far j3 (p := ⟨p, 3, none⟩) (Ne.symm hpq) (.slice none 0 0)
  have j5 := blk_set j4 0 (.int .i64 10)
  have hfr : Fr (fun k => k = p ∨ k = q) w _ := Fr.setCell (S := fun k => k = p ∨ k = q) (Fr.setCell (S := fun k => k = p ∨ k = q) (Fr.setCell (S := fun k => k = p ∨ k = q) (Fr.setCell (S := fun k => k = p ∨ k = q) (Fr.setCell (S := fun k => k = p ∨ k = q) (Fr.refl _ w) (p := ⟨p, 0, none⟩) (.inl rfl) (.bool false)) (p := ⟨p, 1, none⟩) (.inl rfl) (.slice none 0 0)) (p := ⟨p, 2, none⟩) (.inl rfl) (.slice none 0 0)) (p := ⟨p, 3, none⟩) (.inl rfl) (.slice none 0 0)) (p := ⟨q, 0, none⟩) (.inr rfl) (.int .i64 10)
  simp only [bodyPostS]
  exact ⟨trivial, _, rfl, _, results_none rfl _ _ _, rfl, rfl, hfr, by simpa using k5, by simpa using j5⟩

theorem read_calls (gb o c : Nat) (xs : PB) (w : World) (h : IsBytes w (some ⟨gb, o, none⟩) 508 xs) (hmc : 508 ≤ c) (hgb : gb < w.heap.size) :
    Calls Try.prog 46 #[.slice (some ⟨gb, o, none⟩) 508 c] w (Reads w xs) := by
  by_cases h1 : xs.getD 0 0 = 1
  · exact read_leaf gb o 508 c xs w h hmc (by omega) (by omega) hgb h1
  · by_cases h2 : xs.getD 0 0 = 2
    · exact read_inner gb o 508 c xs w h hmc (by omega) (by omega) hgb h2
    · refine (read_kind gb o 508 c xs w h hmc (by omega) hgb h1 h2).mono ?_
      rintro e w' ⟨he, hb⟩
      refine ⟨hb, ?_⟩
      have hl := h.1
      have e0 : (xs.take 1).getD 0 0 = xs.getD 0 0 := by cases xs <;> simp
      have hn : readP xs = none := by
        unfold readP takeP
        rw [if_neg (by omega)]
        dsimp only
        rw [e0, if_neg h1, if_neg h2]
      rw [hn]
      exact he

set_option maxRecDepth 100000 in
set_option maxHeartbeats 1600000 in
/-- The deferred closure of a Decode that returns: nothing. -/
theorem catch_idle (p q : Nat) (w : World) :
    CallsD Try.prog 45 #[.pointer (some ⟨p, 0, none⟩), .pointer (some ⟨q, 0, none⟩)] .returning w fun e u' w' => e = .returned (.tuple #[]) ∧ u' = .returning ∧ w' = w := by
  refine callsD_of_wpS Try.func45 rfl fun c₀ cs hu => ?_
  apply wpS_seq
  apply wpS_region
  simp [wpOpsS, go_sem, recoverD, hu, Try.ntmps45, Exit.thenS]
  refine wpS_of_wp ?_
  simp only [Array.replicate_succ, Array.replicate_zero, List.push_toArray, List.append_toArray, List.nil_append, List.cons_append, List.setIfInBounds_toArray, List.set_cons_zero, List.set_cons_succ]
  go_wp2
  simp only [bodyPostS]
  refine ⟨trivial, .returning, ?_, _, results_none rfl _ _ _, rfl, rfl, trivial⟩
  cases c₀
  simp_all

def decP (xs : PB) : Option PNode := if xs.length = 508 then (readP xs).bind fun x => if checkN x = 0 then some x else none else none
def Decoded (w : World) (xs : PB) (e : Ending) (w' : World) : Prop := Below w.heap.size w w' ∧ match decP xs with
  | none => e = .returned (.tuple #[.agg #[.bool false, .slice none 0 0, .slice none 0 0, .slice none 0 0], .int .i64 10])
  | some x => ∃ v0 v1 v2 v3, e = .returned (.tuple #[.agg #[v0, v1, v2, v3], .int .i64 0]) ∧ OwnNode 61 w' w.heap.size v0 v1 v2 v3 x
theorem decoded_none {w w' : World} {xs : PB} (h : decP xs = none) (hb : Below w.heap.size w w') : Decoded w xs (.returned (.tuple #[.agg #[.bool false, .slice none 0 0, .slice none 0 0, .slice none 0 0], .int .i64 10])) w' := ⟨hb, by rw [h]⟩

set_option maxRecDepth 100000 in
set_option maxHeartbeats 3200000 in
theorem decode_calls (gb o c : Nat) (xs : PB) (w : World) (h : IsBytes w (some ⟨gb, o, none⟩) 508 xs) (hmc : 508 ≤ c) (hgb : gb < w.heap.size) :
    Calls Try.prog 25 #[.slice (some ⟨gb, o, none⟩) 508 c] w (Decoded w xs) := by
  have hmf := mk_func
  have hw2 := two_new w (.cells #[.bool false, .slice none 0 0, .slice none 0 0, .slice none 0 0] 29) (.cells #[.int .i64 0] 32)
  have HB : Asd (Below w.heap.size w ((w.alloc (.cells #[.bool false, .slice none 0 0, .slice none 0 0, .slice none 0 0] 29)).alloc (.cells #[.int .i64 0] 32))) := Asd.mk (below_alloc (below_alloc (Below.refl _ _) _) _)
  have HR := Asd.mk (read_calls gb o c xs _ (h.below HB.out) hmc (by simp; omega))
  have H2 := Asd.mk hw2
  have hl := h.1
  have HDP : Asd (decP xs = (readP xs).bind fun x => if checkN x = 0 then some x else none) := Asd.mk (by unfold decP; rw [if_pos hl])
  have HLEN := Asd.mk hl
  clear h hw2 hl
  go_enter_defers Try.func25, Try.ntmps25
  go_wp2_with fail
  refine HR.out.mono ?_
  rintro e w2 ⟨hb, hm⟩
  have HP : Asd (w2.heap[w.heap.size]? = some (.cells #[.bool false, .slice none 0 0, .slice none 0 0, .slice none 0 0] 29 (0, 0))) := Asd.mk (blk_below hb H2.out.1)
  have HQ : Asd (w2.heap[w.heap.size + 1]? = some (.cells #[.int .i64 0] 32 (0, 0))) := Asd.mk (blk_below hb H2.out.2)
  have HB2 : Asd (Below w.heap.size w w2) := Asd.mk (HB.out.trans (hb.mono HB.out.size))
  cases hrd : readP xs with
  | none =>
    rw [hrd] at hm
    subst hm
    have HN : Asd (decP xs = none) := Asd.mk (by rw [HDP.out, hrd]; rfl)
    clear hb hrd
    refine leaves_cons (f := 45) (args := #[.pointer (some ⟨w.heap.size, 0, none⟩), .pointer (some ⟨w.heap.size + 1, 0, none⟩)]) (by simp) (by simp [go_sem]) ?_
    refine (catch_any w.heap.size (w.heap.size + 1) _ _ _ _ w2 HP.out HQ.out (by omega)).mono ?_
    rintro e u' w3 ⟨rfl, rfl, hfr, hp, hq⟩
    have p0 := (blk_cell hp 0).trans rfl
    have p1 := (blk_cell hp 1).trans rfl
    have p2 := (blk_cell hp 2).trans rfl
    have p3 := (blk_cell hp 3).trans rfl
    have q0 := (blk_cell hq 0).trans rfl
    have HB3 : Below w.heap.size w w3 := HB2.out.trans ⟨hfr.os, hfr.tape, hfr.output, hfr.size, fun k hk => hfr.block k (by have := HB2.out.size; omega) (by omega)⟩
    simp [Leaves, settle, results, Try.results25, go_sem, p0, p1, p2, p3, q0]
    exact decoded_none HN.out HB3
  | some x =>
    rw [hrd] at hm
    obtain ⟨v0, v1, v2, v3, rfl, hon⟩ := hm
    have HSN := Asd.mk (sane_read hrd (by have := HLEN.out; omega))
    have HD2 : Asd (decP xs = if checkN x = 0 then some x else none) := Asd.mk (by rw [HDP.out, hrd]; rfl)
    obtain ⟨rfl, ⟨E1, i1, j1, rfl⟩, ⟨E2, i2, j2, rfl⟩, ⟨E3, i3, j3, rfl⟩⟩ := own_node_form hon
    rw [show ((w.alloc (.cells #[.bool false, .slice none 0 0, .slice none 0 0, .slice none 0 0] 29)).alloc (.cells #[.int .i64 0] 32)).heap.size = w.heap.size + 2 by simp] at hon
    have p0 := (blk_cell HP.out 0).trans rfl
    have p1 := (blk_cell HP.out 1).trans rfl
    have p2 := (blk_cell HP.out 2).trans rfl
    have p3 := (blk_cell HP.out 3).trans rfl
    have z0 := blk_frozen HP.out 0
    have z1 := blk_frozen HP.out 1
    have z2 := blk_frozen HP.out 2
    have z3 := blk_frozen HP.out 3
    generalize hx0 : x.1 = x0 at hon ⊢
    have k1 := blk_set HP.out 0 (.bool x0)
    have k2 := blk_set k1 1 (.slice E1 i1 j1)
    have k3 := blk_set k2 2 (.slice E2 i2 j2)
    have k4 := blk_set k3 3 (.slice E3 i3 j3)
    have hab : Above (w.heap.size + 2) w2 ((((w2.setCell ⟨w.heap.size, 0, none⟩ (.bool x0)).setCell ⟨w.heap.size, 1, none⟩ (.slice E1 i1 j1)).setCell ⟨w.heap.size, 2, none⟩ (.slice E2 i2 j2)).setCell ⟨w.heap.size, 3, none⟩ (.slice E3 i3 j3)) := fun g o hg ho => by
      exact blk_far (blk_far (blk_far (blk_far ho (p := ⟨w.heap.size, 0, none⟩) (by simp; omega) _) (p := ⟨w.heap.size, 1, none⟩) (by simp; omega) _) (p := ⟨w.heap.size, 2, none⟩) (by simp; omega) _) (p := ⟨w.heap.size, 3, none⟩) (by simp; omega) _
    have HON := Asd.mk (hon.above hab)
    have HP4 : Asd (((((w2.setCell ⟨w.heap.size, 0, none⟩ (.bool x0)).setCell ⟨w.heap.size, 1, none⟩ (.slice E1 i1 j1)).setCell ⟨w.heap.size, 2, none⟩ (.slice E2 i2 j2)).setCell ⟨w.heap.size, 3, none⟩ (.slice E3 i3 j3)).heap[w.heap.size]? = some (.cells #[.bool x0, .slice E1 i1 j1, .slice E2 i2 j2, .slice E3 i3 j3] 29 (0, 0))) := Asd.mk (by simpa using k4)
    have HQ4 := Asd.mk (blk_far (blk_far (blk_far (blk_far HQ.out (p := ⟨w.heap.size, 0, none⟩) (by simp) (.bool x0)) (p := ⟨w.heap.size, 1, none⟩) (by simp) (.slice E1 i1 j1)) (p := ⟨w.heap.size, 2, none⟩) (by simp) (.slice E2 i2 j2)) (p := ⟨w.heap.size, 3, none⟩) (by simp) (.slice E3 i3 j3))
    have HB4 : Asd (Below w.heap.size w ((((w2.setCell ⟨w.heap.size, 0, none⟩ (.bool x0)).setCell ⟨w.heap.size, 1, none⟩ (.slice E1 i1 j1)).setCell ⟨w.heap.size, 2, none⟩ (.slice E2 i2 j2)).setCell ⟨w.heap.size, 3, none⟩ (.slice E3 i3 j3))) := Asd.mk ((((HB2.out.setCell (p := ⟨w.heap.size, 0, none⟩) (Nat.le_refl _) _).setCell (p := ⟨w.heap.size, 1, none⟩) (Nat.le_refl _) _).setCell (p := ⟨w.heap.size, 2, none⟩) (Nat.le_refl _) _).setCell (p := ⟨w.heap.size, 3, none⟩) (Nat.le_refl _) _)
    have HX0 := Asd.mk hx0
    clear hb hrd hon k1 k2 k3 k4 hab hx0
    have q4 := (blk_cell HQ4.out 0).trans rfl
    have zq4 := blk_frozen HQ4.out 0
    go_upto_region 5 with fail
    generalize ((((w2.setCell ⟨w.heap.size, 0, none⟩ (.bool x0)).setCell ⟨w.heap.size, 1, none⟩ (.slice E1 i1 j1)).setCell ⟨w.heap.size, 2, none⟩ (.slice E2 i2 j2)).setCell ⟨w.heap.size, 3, none⟩ (.slice E3 i3 j3)) = w3 at HON HP4 HQ4 HB4 q4 zq4 ⊢
    have p0 := (blk_cell HP4.out 0).trans rfl
    have p1 := (blk_cell HP4.out 1).trans rfl
    have p2 := (blk_cell HP4.out 2).trans rfl
    have p3 := (blk_cell HP4.out 3).trans rfl
    go_wp2_with fail
    refine (check_calls _ _ _ _ x w3 (HON.out.read HSN.out)).mono ?_
    rintro e w4 ⟨rfl, hb4⟩
    have HON4 := Asd.mk (HON.out.above (above_below hb4))
    have HP5 := Asd.mk (blk_below hb4 HP4.out)
    have HQ5 := Asd.mk (blk_below hb4 HQ4.out)
    have HB5 : Asd (Below w.heap.size w w4) := Asd.mk (HB4.out.trans (hb4.mono HB4.out.size))
    clear p0 p1 p2 p3 q4 zq4 hb4 HON HP4 HQ4 HB4 z0 z1 z2 z3
    by_cases hck : checkN x = 0
    · have HN : Asd (decP xs = some x) := Asd.mk (by rw [HD2.out, if_pos hck])
      rw [hck]
      have p0 := (blk_cell HP5.out 0).trans rfl
      have p1 := (blk_cell HP5.out 1).trans rfl
      have p2 := (blk_cell HP5.out 2).trans rfl
      have p3 := (blk_cell HP5.out 3).trans rfl
      have z0 := blk_frozen HP5.out 0
      have z1 := blk_frozen HP5.out 1
      have z2 := blk_frozen HP5.out 2
      have z3 := blk_frozen HP5.out 3
      have q0 := (blk_cell HQ5.out 0).trans rfl
      have y0 := blk_frozen HQ5.out 0
      clear hck
      go_wp2
      have k1 := blk_set HP5.out 0 (.bool x0)
      have k2 := blk_set k1 1 (.slice E1 i1 j1)
      have k3 := blk_set k2 2 (.slice E2 i2 j2)
      have k4 := blk_set k3 3 (.slice E3 i3 j3)
      have k5 := blk_far k4 (p := ⟨w.heap.size + 1, 0, none⟩) (by simp) (.int .i64 0)
      have j1' := blk_set (blk_far (blk_far (blk_far (blk_far HQ5.out (p := ⟨w.heap.size, 0, none⟩) (by simp) (.bool x0)) (p := ⟨w.heap.size, 1, none⟩) (by simp) (.slice E1 i1 j1)) (p := ⟨w.heap.size, 2, none⟩) (by simp) (.slice E2 i2 j2)) (p := ⟨w.heap.size, 3, none⟩) (by simp) (.slice E3 i3 j3)) 0 (.int .i64 0)
      have hab : Above (w.heap.size + 2) w4 (((((w4.setCell ⟨w.heap.size, 0, none⟩ (.bool x0)).setCell ⟨w.heap.size, 1, none⟩ (.slice E1 i1 j1)).setCell ⟨w.heap.size, 2, none⟩ (.slice E2 i2 j2)).setCell ⟨w.heap.size, 3, none⟩ (.slice E3 i3 j3)).setCell ⟨w.heap.size + 1, 0, none⟩ (.int .i64 0)) := fun g o hg ho => by
        exact blk_far (blk_far (blk_far (blk_far (blk_far ho (p := ⟨w.heap.size, 0, none⟩) (by simp; omega) _) (p := ⟨w.heap.size, 1, none⟩) (by simp; omega) _) (p := ⟨w.heap.size, 2, none⟩) (by simp; omega) _) (p := ⟨w.heap.size, 3, none⟩) (by simp; omega) _) (p := ⟨w.heap.size + 1, 0, none⟩) (by simp; omega) _
      have HON6 := HON4.out.above hab
      have HB6 : Below w.heap.size w (((((w4.setCell ⟨w.heap.size, 0, none⟩ (.bool x0)).setCell ⟨w.heap.size, 1, none⟩ (.slice E1 i1 j1)).setCell ⟨w.heap.size, 2, none⟩ (.slice E2 i2 j2)).setCell ⟨w.heap.size, 3, none⟩ (.slice E3 i3 j3)).setCell ⟨w.heap.size + 1, 0, none⟩ (.int .i64 0)) := ((((HB5.out.setCell (p := ⟨w.heap.size, 0, none⟩) (Nat.le_refl _) _).setCell (p := ⟨w.heap.size, 1, none⟩) (Nat.le_refl _) _).setCell (p := ⟨w.heap.size, 2, none⟩) (Nat.le_refl _) _).setCell (p := ⟨w.heap.size, 3, none⟩) (Nat.le_refl _) _).setCell (p := ⟨w.heap.size + 1, 0, none⟩) (by simp) _
      generalize (((((w4.setCell ⟨w.heap.size, 0, none⟩ (.bool x0)).setCell ⟨w.heap.size, 1, none⟩ (.slice E1 i1 j1)).setCell ⟨w.heap.size, 2, none⟩ (.slice E2 i2 j2)).setCell ⟨w.heap.size, 3, none⟩ (.slice E3 i3 j3)).setCell ⟨w.heap.size + 1, 0, none⟩ (.int .i64 0)) = w6 at k5 j1' HON6 HB6 ⊢
      refine leaves_cons (f := 45) (args := #[.pointer (some ⟨w.heap.size, 0, none⟩), .pointer (some ⟨w.heap.size + 1, 0, none⟩)]) (by simp) (by simp [go_sem]) ?_
      refine (catch_idle w.heap.size (w.heap.size + 1) w6).mono ?_
      rintro e u' w7 ⟨rfl, rfl, rfl⟩
      have p0 := (blk_cell k5 0).trans rfl
      have p1 := (blk_cell k5 1).trans rfl
      have p2 := (blk_cell k5 2).trans rfl
      have p3 := (blk_cell k5 3).trans rfl
      have q0 := (blk_cell j1' 0).trans rfl
      have HDEC : Decoded w xs (.returned (.tuple #[.agg #[.bool x0, .slice E1 i1 j1, .slice E2 i2 j2, .slice E3 i3 j3], .int .i64 0])) w7 := by
        refine ⟨HB6, ?_⟩
        rw [HN.out]
        obtain ⟨ps, hc⟩ := HON6.cells
        obtain ⟨qs, hky⟩ := HON6.keys
        exact ⟨_, _, _, _, rfl, ⟨HON6.leaf, ⟨ps, own_base hc.own (by omega), hc.len, fun j a b => ⟨own_base (hc.cell j a b).1 (by omega), own_base (hc.cell j a b).2.1 (by omega), (hc.cell j a b).2.2⟩⟩, ⟨qs, own_base hky.own (by omega), fun j a b => own_base (hky.key j a b) (by omega)⟩, own_base HON6.kids (by omega)⟩⟩
      simp [Leaves, settle, results, Try.results25, go_sem, p0, p1, p2, p3, q0]
      exact HDEC
    · have HN : Asd (decP xs = none) := Asd.mk (by rw [HD2.out, if_neg hck])
      have hne : (checkN x != 0) = true := by rw [bne_iff_ne]; exact hck
      have p0 := (blk_cell HP5.out 0).trans rfl
      generalize checkN x = cn at hne hck ⊢
      go_wp2
      refine leaves_cons (f := 45) (args := #[.pointer (some ⟨w.heap.size, 0, none⟩), .pointer (some ⟨w.heap.size + 1, 0, none⟩)]) (by simp) (by simp [go_sem]) ?_
      refine (catch_any w.heap.size (w.heap.size + 1) _ _ _ _ w4 HP5.out HQ5.out (by omega)).mono ?_
      rintro e u' w5 ⟨rfl, rfl, hfr, hp, hq⟩
      have p0 := (blk_cell hp 0).trans rfl
      have p1 := (blk_cell hp 1).trans rfl
      have p2 := (blk_cell hp 2).trans rfl
      have p3 := (blk_cell hp 3).trans rfl
      have q0 := (blk_cell hq 0).trans rfl
      have HB6 : Below w.heap.size w w5 := HB5.out.trans ⟨hfr.os, hfr.tape, hfr.output, hfr.size, fun k hk => hfr.block k (by have := HB5.out.size; omega) (by omega)⟩
      simp [Leaves, settle, results, Try.results25, go_sem, p0, p1, p2, p3, q0]
      exact decoded_none HN.out HB6
end Go.Proofs.Ytnohhmopiflboaa.Nod
