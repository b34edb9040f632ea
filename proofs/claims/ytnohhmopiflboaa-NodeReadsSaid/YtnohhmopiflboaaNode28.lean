/- Decode of a load that is no node's: the kind is told, a panic is caught. -/
import Derived.Test.YtnohhmopiflboaaNode27
set_option linter.unusedVariables false
set_option linter.unusedSimpArgs false
namespace Go.Proofs.Ytnohhmopiflboaa.Nod
open Go.RowKit Go.Proofs.Ytnohhmopiflboaa.Base Go.Proofs.Ytnohhmopiflboaa.Byt Go.Proofs.Ytnohhmopiflboaa.Rd Go.Proofs.Ytnohhmopiflboaa.App

theorem mk_func (fn : Fn) (first cap : Array Value) (w : World) : (Instr.makeFunc fn first cap).run Try.prog w = .ok (.func fn first cap) w := rfl
theorem st_func (a : Addr) (fn : Fn) (first cap : Array Value) (w : World) : (store a (.func fn first cap)).run Try.prog w = stored Try.prog w a (.func fn first cap) .plain := run_store _ _ _ _ _ rfl
theorem as_bad (w : World) : (Instr.typeAssert bad 20 32 true).run Try.prog w = .ok (.tuple #[.int .i64 10, .bool true]) w := by
  simp [Instr.typeAssert, go_sem]
def Throws (w : World) (e : Ending) (w' : World) : Prop := e = .panicked [{ v := bad, recovered := false }] ∧ Below w.heap.size w w'

set_option maxRecDepth 100000 in
set_option maxHeartbeats 1600000 in
theorem read_kind (gb o m c : Nat) (xs : PB) (w : World) (h : IsBytes w (some ⟨gb, o, none⟩) m xs) (hmc : m ≤ c) (hm : 0 < m) (hgb : gb < w.heap.size) (h1 : xs.getD 0 0 ≠ 1) (h2 : xs.getD 0 0 ≠ 2) :
    Calls Try.prog 46 #[.slice (some ⟨gb, o, none⟩) m c] w (Throws w) := by
  have hmf := mk_func
  have hst := st_func
  have hl := h.1
  have HIB := Asd.mk h
  clear h
  go_enter Try.func46, Try.ntmps46
  go_wp2_with fail
  have HREST : Asd (Rest (((w.alloc (.cells #[.slice (some ⟨gb, o, none⟩) m c] 31)).alloc (.cells #[.bool false, .slice none 0 0, .slice none 0 0, .slice none 0 0] 29)).alloc (.cells #[.func (.func 77) #[] #[.pointer (some ⟨w.heap.size, 0, none⟩)]] 44)) w.heap.size gb xs) := Asd.mk
    ⟨⟨o, m, c, blk_alloc (blk_alloc (blk_new _ _) _) _, hmc, HIB.out.below (below_alloc (below_alloc (below_alloc (Below.refl _ _) _) _) _), by omega⟩⟩
  have HB0 : Asd (Below w.heap.size w (((w.alloc (.cells #[.slice (some ⟨gb, o, none⟩) m c] 31)).alloc (.cells #[.bool false, .slice none 0 0, .slice none 0 0, .slice none 0 0] 29)).alloc (.cells #[.func (.func 77) #[] #[.pointer (some ⟨w.heap.size, 0, none⟩)]] 44))) := Asd.mk (below_alloc (below_alloc (below_alloc (Below.refl _ _) _) _) _)
  have HT : Asd (takeP 1 xs = some (xs.take 1, xs.drop 1)) := Asd.mk (by unfold takeP; rw [if_neg (by omega)])
  have HY : Asd ((xs.take 1).getD 0 0 = xs.getD 0 0) := Asd.mk (by cases xs <;> simp)
  refine (take_calls w.heap.size gb 1 xs _ (by omega) HREST.out).mono ?_
  rintro e w2 ⟨hfr, hm⟩
  rw [HT.out] at hm
  obtain ⟨⟨A', c', rfl, ho⟩, hr⟩ := hm
  have HB : Asd (Below w.heap.size w w2) := Asd.mk (HB0.out.trans ⟨hfr.os, hfr.tape, hfr.output, hfr.size, fun k hk => hfr.block k (by simp; omega) (by omega)⟩)
  obtain ⟨b, cur, rfl, hbb, hh, hc0⟩ := own_cell ho 0 (by omega)
  have q0 := (blk_cell hh 0).trans hc0
  rw [HY.out] at q0
  have h3 : (((xs.getD 0 0).toNat : Int) != 1) = true := by
    rw [bne_iff_ne]
    intro he
    apply h1
    apply UInt8.toNat_inj.1
    show (xs.getD 0 0).toNat = 1
    omega
  have h4 : (((xs.getD 0 0).toNat : Int) != 2) = true := by
    rw [bne_iff_ne]
    intro he
    apply h2
    apply UInt8.toNat_inj.1
    show (xs.getD 0 0).toNat = 2
    omega
  simp only [bcell] at q0
  generalize (xs.getD 0 0).toNat = y0 at q0 h3 h4
  clear hfr ho hr hbb hh hc0 h1 h2
  go_wp2
  exact ⟨rfl, rfl, HB.out⟩

set_option maxRecDepth 100000 in
set_option maxHeartbeats 1600000 in
/-- The deferred closure of a Decode that panics: the panic is caught, an empty node and the error are laid. -/
theorem catch_bad (p q : Nat) (w : World) (hp : w.heap[p]? = some (.cells #[.bool false, .slice none 0 0, .slice none 0 0, .slice none 0 0] 29 (0, 0))) (hq : w.heap[q]? = some (.cells #[.int .i64 0] 32 (0, 0))) (hpq : p ≠ q) :
    CallsD Try.prog 45 #[.pointer (some ⟨p, 0, none⟩), .pointer (some ⟨q, 0, none⟩)] (.panicking ({ v := bad, recovered := false } :: [])) w fun e u' w' =>
      e = .returned (.tuple #[]) ∧ u' = .panicking ({ v := bad, recovered := true } :: []) ∧ Fr (fun k => k = p ∨ k = q) w w' ∧ w'.heap[p]? = some (.cells #[.bool false, .slice none 0 0, .slice none 0 0, .slice none 0 0] 29 (0, 0)) ∧ w'.heap[q]? = some (.cells #[.int .i64 10] 32 (0, 0)) := by
  have p0 := (blk_cell hp 0).trans rfl
  have p1 := (blk_cell hp 1).trans rfl
  have p2 := (blk_cell hp 2).trans rfl
  have p3 := (blk_cell hp 3).trans rfl
  have z0 := blk_frozen hp 0
  have z1 := blk_frozen hp 1
  have z2 := blk_frozen hp 2
  have z3 := blk_frozen hp 3
  have q0 := (blk_cell hq 0).trans rfl
  have f0 := blk_frozen hq 0
  have HP := Asd.mk hp
  have HQ := Asd.mk hq
  clear hp hq
  refine callsD_of_wpS Try.func45 rfl fun c₀ cs hu => ?_
  apply wpS_seq
  apply wpS_region
  simp [wpOpsS, go_sem, recoverD, hu, Try.ntmps45, Exit.thenS]
  refine wpS_of_wp ?_
  simp only [Array.replicate_succ, Array.replicate_zero, List.push_toArray, List.append_toArray, List.nil_append, List.cons_append, List.setIfInBounds_toArray, List.set_cons_zero, List.set_cons_succ]
  have hta := as_bad
  go_wp2
  have k1 := blk_set HP.out 0 (.bool false)
  have k2 := blk_set k1 1 (.slice none 0 0)
  have k3 := blk_set k2 2 (.slice none 0 0)
  have k4 := blk_set k3 3 (.slice none 0 0)
  have k5 := blk_far k4 (p := ⟨q, 0, none⟩) hpq (.int .i64 10)
  have j1 := blk_far HQ.out (p := ⟨p, 0, none⟩) (Ne.symm hpq) (.bool false)
  have j2 := blk_far j1 (p := ⟨p, 1, none⟩) (Ne.symm hpq) (.slice none 0 0)
  have j3 := blk_far j2 (p := ⟨p, 2, none⟩) (Ne.symm hpq) (.slice none 0 0)
  have j4 := blk_far j3 (p := ⟨p, 3, none⟩) (Ne.symm hpq) (.slice none 0 0)
  have j5 := blk_set j4 0 (.int .i64 10)
  have hfr : Fr (fun k => k = p ∨ k = q) w _ := Fr.setCell (S := fun k => k = p ∨ k = q) (Fr.setCell (S := fun k => k = p ∨ k = q) (Fr.setCell (S := fun k => k = p ∨ k = q) (Fr.setCell (S := fun k => k = p ∨ k = q) (Fr.setCell (S := fun k => k = p ∨ k = q) (Fr.refl _ w) (p := ⟨p, 0, none⟩) (.inl rfl) (.bool false)) (p := ⟨p, 1, none⟩) (.inl rfl) (.slice none 0 0)) (p := ⟨p, 2, none⟩) (.inl rfl) (.slice none 0 0)) (p := ⟨p, 3, none⟩) (.inl rfl) (.slice none 0 0)) (p := ⟨q, 0, none⟩) (.inr rfl) (.int .i64 10)
  simp only [bodyPostS]
  exact ⟨trivial, _, rfl, _, results_none rfl _ _ _, rfl, rfl, hfr, by simpa using k5, by simpa using j5⟩

def NoNode (w : World) (e : Ending) (w' : World) : Prop := e = .returned (.tuple #[.agg #[.bool false, .slice none 0 0, .slice none 0 0, .slice none 0 0], .int .i64 10]) ∧ Below w.heap.size w w'
set_option maxRecDepth 100000 in
set_option maxHeartbeats 1600000 in
theorem decode_kind (gb o c : Nat) (xs : PB) (w : World) (h : IsBytes w (some ⟨gb, o, none⟩) 508 xs) (hmc : 508 ≤ c) (hgb : gb < w.heap.size) (h1 : xs.getD 0 0 ≠ 1) (h2 : xs.getD 0 0 ≠ 2) :
    Calls Try.prog 25 #[.slice (some ⟨gb, o, none⟩) 508 c] w (NoNode w) := by
  have hmf := mk_func
  have hw2 := two_new w (.cells #[.bool false, .slice none 0 0, .slice none 0 0, .slice none 0 0] 29) (.cells #[.int .i64 0] 32)
  have HB : Asd (Below w.heap.size w ((w.alloc (.cells #[.bool false, .slice none 0 0, .slice none 0 0, .slice none 0 0] 29)).alloc (.cells #[.int .i64 0] 32))) := Asd.mk (below_alloc (below_alloc (Below.refl _ _) _) _)
  have HR := Asd.mk (read_kind gb o 508 c xs _ (h.below HB.out) hmc (by omega) (by simp; omega) h1 h2)
  have H2 := Asd.mk hw2
  clear h hw2 h1 h2
  go_enter_defers Try.func25, Try.ntmps25
  go_wp2_with fail
  refine HR.out.mono ?_
  rintro e w2 ⟨rfl, hb⟩
  have HP : Asd (w2.heap[w.heap.size]? = some (.cells #[.bool false, .slice none 0 0, .slice none 0 0, .slice none 0 0] 29 (0, 0))) := Asd.mk (blk_below hb H2.out.1)
  have HQ : Asd (w2.heap[w.heap.size + 1]? = some (.cells #[.int .i64 0] 32 (0, 0))) := Asd.mk (blk_below hb H2.out.2)
  have HB2 : Asd (Below w.heap.size w w2) := Asd.mk (HB.out.trans (hb.mono HB.out.size))
  clear hb
  refine leaves_cons (f := 45) (args := #[.pointer (some ⟨w.heap.size, 0, none⟩), .pointer (some ⟨w.heap.size + 1, 0, none⟩)]) (by simp) (by simp [go_sem]) ?_
  refine (catch_bad w.heap.size (w.heap.size + 1) w2 HP.out HQ.out (by omega)).mono ?_
  rintro e u' w3 ⟨rfl, rfl, hfr, hp, hq⟩
  have p0 := (blk_cell hp 0).trans rfl
  have p1 := (blk_cell hp 1).trans rfl
  have p2 := (blk_cell hp 2).trans rfl
  have p3 := (blk_cell hp 3).trans rfl
  have q0 := (blk_cell hq 0).trans rfl
  have HB3 : Below w.heap.size w w3 := HB2.out.trans ⟨hfr.os, hfr.tape, hfr.output, hfr.size, fun k hk => hfr.block k (by have := HB2.out.size; omega) (by omega)⟩
  simp [Leaves, settle, results, Try.results25, go_sem, p0, p1, p2, p3, q0]
  exact ⟨rfl, HB3⟩
end Go.Proofs.Ytnohhmopiflboaa.Nod
