/- Texts put together: Rd19, NumP, CatP, AgainP, Place, Rd20, EvP, Lin, Ck1, Ck2, Ck3, Ck4, EvR, Eva, Ck5, Ck6, Ck7. -/
import Derived.Test.YtbeeaikilcnpgaaGreatDoorQc4
import Derived.Lib.ItoaLen
import Derived.Lib.ParseIntB
import Derived.Lib.Bytealg
import Derived.Laws.Bits64
set_option linter.unusedVariables false
set_option linter.unusedSimpArgs false
set_option maxHeartbeats 25600000
namespace Go.Proofs.YtbeeaikilcnpgaaGreatDoor.Exp
open Go.RowKit Go.Proofs.YtbeeaikilcnpgaaGreatDoor.Base Go.Proofs.YtbeeaikilcnpgaaGreatDoor.App Go.Proofs.YtbeeaikilcnpgaaGreatDoor.Byt Go.Proofs.YtbeeaikilcnpgaaGreatDoor.Lex
theorem low_many : decide (Tryz.prog.globals.size < Tryz.prog.low) = true := by kernel_rfl
theorem low_heap {w : World} (h : w.ShapedOpen Tryz.prog) : Tryz.prog.low ≤ w.heap.size := by
  have hg := of_decide_eq_true low_many
  obtain ⟨o, o', h1, h2, h3⟩ := h.2 (Tryz.prog.low - 1) (by omega) (by unfold Program.low at *; omega)
  have := blk_lt h1
  omega
theorem drew_blk {W : World} {g : Nat} {o : Obj} (h : W.heap[g]? = some o) : W.drew.heap[g]? = some o := h
theorem as_fault (N : Nat) (w : World) : (Instr.typeAssert (.iface 82 (.pointer (some ⟨N, 0, none⟩))) 20 82 true).run Tryz.prog w = .ok (.tuple #[.pointer (some ⟨N, 0, none⟩), .bool true]) w := by
  kernel_rfl
set_option maxRecDepth 100000 in
theorem catch_fault (p q r N : Nat) (v0 v1 v2 v3 v4 v5 v6 v7 v8 v9 u0 t0 : Value) (w : World) (hp : w.heap[p]? = some (.cells #[v0, v1, v2, v3, v4, v5, v6, v7, v8, v9] 26 (0, 0))) (hq : w.heap[q]? = some (.cells #[u0] 3 (0, 0))) (hr : w.heap[r]? = some (.cells #[t0] 62 (0, 0))) (hpq : p ≠ q) (hpr : p ≠ r) (hqr : q ≠ r) :
    CallsD Tryz.prog 58 #[.pointer (some ⟨p, 0, none⟩), .pointer (some ⟨q, 0, none⟩), .pointer (some ⟨r, 0, none⟩)] (.panicking ({ v := .iface 82 (.pointer (some ⟨N, 0, none⟩)), recovered := false } :: [])) w fun e u' w' =>
      e = .returned (.tuple #[]) ∧ u' = .panicking ({ v := .iface 82 (.pointer (some ⟨N, 0, none⟩)), recovered := true } :: []) ∧ Fr (fun k => k = p ∨ k = q ∨ k = r) w w' ∧ w'.heap[p]? = some (.cells #[.int .i64 0, .int .i64 0, .int .i64 0, .int .i64 0, .string ⟨#[]⟩, .string ⟨#[]⟩, .string ⟨#[]⟩, .int .i64 0, .int .i64 0, .slice none 0 0] 26 (0, 0)) ∧ w'.heap[q]? = some (.cells #[.int .i64 0] 3 (0, 0)) ∧ w'.heap[r]? = some (.cells #[.iface 82 (.pointer (some ⟨N, 0, none⟩))] 62 (0, 0)) := by
  have p0 := (blk_cell hp 0).trans rfl
  have p1 := (blk_cell hp 1).trans rfl
  have p2 := (blk_cell hp 2).trans rfl
  have p3 := (blk_cell hp 3).trans rfl
  have p4 := (blk_cell hp 4).trans rfl
  have p5 := (blk_cell hp 5).trans rfl
  have p6 := (blk_cell hp 6).trans rfl
  have p7 := (blk_cell hp 7).trans rfl
  have p8 := (blk_cell hp 8).trans rfl
  have p9 := (blk_cell hp 9).trans rfl
  have z0 := blk_frozen hp 0
  have z1 := blk_frozen hp 1
  have z2 := blk_frozen hp 2
  have z3 := blk_frozen hp 3
  have z4 := blk_frozen hp 4
  have z5 := blk_frozen hp 5
  have z6 := blk_frozen hp 6
  have z7 := blk_frozen hp 7
  have z8 := blk_frozen hp 8
  have z9 := blk_frozen hp 9
  have q0 := (blk_cell hq 0).trans rfl
  have f0 := blk_frozen hq 0
  have r0 := (blk_cell hr 0).trans rfl
  have g0 := blk_frozen hr 0
  have HP := Asd.mk hp
  have HQ := Asd.mk hq
  have HR := Asd.mk hr
  clear hp hq hr
  refine callsD_of_wpS Tryz.func58 rfl fun c₀ cs hu => ?_
  apply wpS_seq
  apply wpS_region
  simp [wpOpsS, go_sem, recoverD, hu, Tryz.ntmps58, Exit.thenS]
  refine wpS_of_wp ?_
  simp only [Array.replicate_succ, Array.replicate_zero, List.push_toArray, List.append_toArray, List.nil_append, List.cons_append, List.setIfInBounds_toArray, List.set_cons_zero, List.set_cons_succ]
  have hta := as_fault N
  go_wp2
  have k1 := put10_blk HP.out (.int .i64 0) (.int .i64 0) (.int .i64 0) (.int .i64 0) (.string ⟨#[]⟩) (.string ⟨#[]⟩) (.string ⟨#[]⟩) (.int .i64 0) (.int .i64 0) (.slice none 0 0)
  have k2 := blk_far (blk_far k1 (p := ⟨q, 0, none⟩) hpq (.int .i64 0)) (p := ⟨r, 0, none⟩) hpr (.iface 82 (.pointer (some ⟨N, 0, none⟩)))
  have hpf := put10_fr (W := w) (b := p) (S := fun k => k = p) rfl (.int .i64 0) (.int .i64 0) (.int .i64 0) (.int .i64 0) (.string ⟨#[]⟩) (.string ⟨#[]⟩) (.string ⟨#[]⟩) (.int .i64 0) (.int .i64 0) (.slice none 0 0)
  have j1 := blk_far (blk_set (blk_fr HQ.out hpf (by show ¬ q = p; exact Ne.symm hpq)) 0 (.int .i64 0)) (p := ⟨r, 0, none⟩) hqr (.iface 82 (.pointer (some ⟨N, 0, none⟩)))
  have i1 := blk_set (blk_far (blk_fr HR.out hpf (by show ¬ r = p; exact Ne.symm hpr)) (p := ⟨q, 0, none⟩) (Ne.symm hqr) (.int .i64 0)) 0 (.iface 82 (.pointer (some ⟨N, 0, none⟩)))
  have hfr : Fr (fun k => k = p ∨ k = q ∨ k = r) w _ := Fr.setCell (S := fun k => k = p ∨ k = q ∨ k = r) (Fr.setCell (S := fun k => k = p ∨ k = q ∨ k = r) (hpf.mono (fun k hk _ => .inl hk)) (p := ⟨q, 0, none⟩) (.inr (.inl rfl)) (.int .i64 0)) (p := ⟨r, 0, none⟩) (.inr (.inr rfl)) (.iface 82 (.pointer (some ⟨N, 0, none⟩)))
  simp only [bodyPostS]
  exact ⟨trivial, _, rfl, _, results_none rfl _ _ _, rfl, rfl, hfr, k2, by simpa using j1, by simpa using i1⟩
set_option maxRecDepth 100000 in
theorem catch_none (p q r : Nat) (w : World) :
    CallsD Tryz.prog 58 #[.pointer (some ⟨p, 0, none⟩), .pointer (some ⟨q, 0, none⟩), .pointer (some ⟨r, 0, none⟩)] .returning w fun e u' w' => e = .returned (.tuple #[]) ∧ u' = .returning ∧ w' = w := by
  refine callsD_of_wpS Tryz.func58 rfl fun c₀ cs hu => ?_
  apply wpS_seq
  apply wpS_region
  simp [wpOpsS, go_sem, recoverD, hu, Tryz.ntmps58, Exit.thenS]
  refine wpS_of_wp ?_
  simp only [Array.replicate_succ, Array.replicate_zero, List.push_toArray, List.append_toArray, List.nil_append, List.cons_append, List.setIfInBounds_toArray, List.set_cons_zero, List.set_cons_succ]
  go_wp2
  simp only [bodyPostS]
  refine ⟨trivial, .returning, ?_, _, results_none rfl _ _ _, rfl, rfl, trivial⟩
  cases c₀
  simp_all

def zeroE : Ex := .mk 0 0 vNull [] [] 0 0 []
def ReadR (w : World) (r : Res Ex) (e : Ending) (w' : World) : Prop := Below w.heap.size w w' ∧ match r with
  | .ok x => ∃ s, e = .returned (.tuple #[exV x.1 s, .int .i64 (x.2 : Nat), .nilIface]) ∧ Held (fun g => w.heap.size ≤ g) w' x.1.args s
  | .error x => ∃ N, e = .returned (.tuple #[exV zeroE (.slice none 0 0), .int .i64 0, .iface 82 (.pointer (some ⟨N, 0, none⟩))]) ∧ w'.heap[N]? = some (.cells #[.int .i64 (x.1 : Nat), .iface 32 (.int .i64 x.2)] 84 (0, 0))

set_option maxRecDepth 100000 in
theorem read_calls (A : Option Addr) (m c : Nat) (l : Toks) (i : Nat) (w : World) (hsh : w.ShapedOpen Tryz.prog) (htok : TokSl w A m l) (hnear : Near l) (hi : i ≤ l.length) :
    Calls Tryz.prog 32 #[.slice A m c, .int .i64 (i : Nat)] w (ReadR w ((readF nmOk l 32).or i)) := by
  have hmf := mk_func
  have HB : Asd (Below w.heap.size w ((((w.alloc (.cells #[.int .i64 0, .int .i64 0, .int .i64 0, .int .i64 0, .string ⟨#[]⟩, .string ⟨#[]⟩, .string ⟨#[]⟩, .int .i64 0, .int .i64 0, .slice none 0 0] 26 (0, 0))).alloc (.cells #[.int .i64 0] 3 (0, 0))).alloc (.cells #[.nilIface] 62 (0, 0))).alloc (.cells #[.slice A m c, .int .i64 ((i : Nat) : Int), .int .i64 0] 93 (0, 0)))) := Asd.mk (below_alloc (below_alloc (below_alloc (below_alloc (Below.refl _ _) _) _) _) _)
  have HP : Asd (((((w.alloc (.cells #[.int .i64 0, .int .i64 0, .int .i64 0, .int .i64 0, .string ⟨#[]⟩, .string ⟨#[]⟩, .string ⟨#[]⟩, .int .i64 0, .int .i64 0, .slice none 0 0] 26 (0, 0))).alloc (.cells #[.int .i64 0] 3 (0, 0))).alloc (.cells #[.nilIface] 62 (0, 0))).alloc (.cells #[.slice A m c, .int .i64 ((i : Nat) : Int), .int .i64 0] 93 (0, 0))).heap[w.heap.size]? = some (.cells #[.int .i64 0, .int .i64 0, .int .i64 0, .int .i64 0, .string ⟨#[]⟩, .string ⟨#[]⟩, .string ⟨#[]⟩, .int .i64 0, .int .i64 0, .slice none 0 0] 26 (0, 0))) := Asd.mk (blk_alloc (blk_alloc (blk_alloc (blk_new w _) _) _) _)
  have HQ : Asd (((((w.alloc (.cells #[.int .i64 0, .int .i64 0, .int .i64 0, .int .i64 0, .string ⟨#[]⟩, .string ⟨#[]⟩, .string ⟨#[]⟩, .int .i64 0, .int .i64 0, .slice none 0 0] 26 (0, 0))).alloc (.cells #[.int .i64 0] 3 (0, 0))).alloc (.cells #[.nilIface] 62 (0, 0))).alloc (.cells #[.slice A m c, .int .i64 ((i : Nat) : Int), .int .i64 0] 93 (0, 0))).heap[w.heap.size + 1]? = some (.cells #[.int .i64 0] 3 (0, 0))) := Asd.mk (blk_alloc (blk_alloc (nb1 w _ _) _) _)
  have HR : Asd (((((w.alloc (.cells #[.int .i64 0, .int .i64 0, .int .i64 0, .int .i64 0, .string ⟨#[]⟩, .string ⟨#[]⟩, .string ⟨#[]⟩, .int .i64 0, .int .i64 0, .slice none 0 0] 26 (0, 0))).alloc (.cells #[.int .i64 0] 3 (0, 0))).alloc (.cells #[.nilIface] 62 (0, 0))).alloc (.cells #[.slice A m c, .int .i64 ((i : Nat) : Int), .int .i64 0] 93 (0, 0))).heap[w.heap.size + 1 + 1]? = some (.cells #[.nilIface] 62 (0, 0))) := Asd.mk (blk_alloc (nb2 w _ _ _) _)
  have HRD : Asd (RdW ((((w.alloc (.cells #[.int .i64 0, .int .i64 0, .int .i64 0, .int .i64 0, .string ⟨#[]⟩, .string ⟨#[]⟩, .string ⟨#[]⟩, .int .i64 0, .int .i64 0, .slice none 0 0] 26 (0, 0))).alloc (.cells #[.int .i64 0] 3 (0, 0))).alloc (.cells #[.nilIface] 62 (0, 0))).alloc (.cells #[.slice A m c, .int .i64 ((i : Nat) : Int), .int .i64 0] 93 (0, 0))) (w.heap.size + 1 + 1 + 1) A m c l i 0) := Asd.mk ⟨nb3 w _ _ _ _, htok.below HB.out, hi, shaped_below hsh HB.out, by have := low_heap hsh; omega⟩
  have HSZ : Asd (((((w.alloc (.cells #[.int .i64 0, .int .i64 0, .int .i64 0, .int .i64 0, .string ⟨#[]⟩, .string ⟨#[]⟩, .string ⟨#[]⟩, .int .i64 0, .int .i64 0, .slice none 0 0] 26 (0, 0))).alloc (.cells #[.int .i64 0] 3 (0, 0))).alloc (.cells #[.nilIface] 62 (0, 0))).alloc (.cells #[.slice A m c, .int .i64 ((i : Nat) : Int), .int .i64 0] 93 (0, 0))).heap.size = w.heap.size + 1 + 1 + 1 + 1) := Asd.mk (by simp)
  have HNE := Asd.mk hnear
  clear hsh htok hnear hi
  go_enter_defers Tryz.func32, Tryz.ntmps32
  go_wp2_with fail
  try simp only [World.heap_size_alloc]
  change Calls _ _ #[.pointer (some ⟨w.heap.size + 1 + 1 + 1, 0, none⟩)] ((((w.alloc (.cells #[.int .i64 0, .int .i64 0, .int .i64 0, .int .i64 0, .string ⟨#[]⟩, .string ⟨#[]⟩, .string ⟨#[]⟩, .int .i64 0, .int .i64 0, .slice none 0 0] 26 (0, 0))).alloc (.cells #[.int .i64 0] 3 (0, 0))).alloc (.cells #[.nilIface] 62 (0, 0))).alloc (.cells #[.slice A m c, .int .i64 ((i : Nat) : Int), .int .i64 0] 93 (0, 0))) _
  generalize ((((w.alloc (.cells #[.int .i64 0, .int .i64 0, .int .i64 0, .int .i64 0, .string ⟨#[]⟩, .string ⟨#[]⟩, .string ⟨#[]⟩, .int .i64 0, .int .i64 0, .slice none 0 0] 26 (0, 0))).alloc (.cells #[.int .i64 0] 3 (0, 0))).alloc (.cells #[.nilIface] 62 (0, 0))).alloc (.cells #[.slice A m c, .int .i64 ((i : Nat) : Int), .int .i64 0] 93 (0, 0))) = w0 at HB HP HQ HR HRD HSZ ⊢
  refine (or_reads (w.heap.size + 1 + 1 + 1) A m c l HNE.out i w0 HRD.out).mono ?_
  rintro e w2 ⟨hf2, hm⟩
  have HP2 := Asd.mk (blk_fr HP.out hf2 (by show ¬ w.heap.size = w.heap.size + 1 + 1 + 1; omega))
  have HQ2 := Asd.mk (blk_fr HQ.out hf2 (by show ¬ w.heap.size + 1 = w.heap.size + 1 + 1 + 1; omega))
  have HR2 := Asd.mk (blk_fr HR.out hf2 (by show ¬ w.heap.size + 1 + 1 = w.heap.size + 1 + 1 + 1; omega))
  have HB2 : Asd (Below w.heap.size w w2) := Asd.mk (HB.out.trans ⟨hf2.os, hf2.tape, hf2.output, hf2.size, fun k hk => hf2.block k (by have := HB.out.size; omega) (by show ¬ k = w.heap.size + 1 + 1 + 1; omega)⟩)
  clear hf2
  cases ho : (readF nmOk l 32).or i with
  | error er =>
    rw [ho] at hm
    obtain ⟨N, rfl, hN⟩ := hm
    have HN := Asd.mk hN
    have HE := Asd.mk ho
    clear ho hN
    go_wp2_with fail
    refine leaves_cons (f := 58) (args := #[.pointer (some ⟨w.heap.size, 0, none⟩), .pointer (some ⟨w.heap.size + 1, 0, none⟩), .pointer (some ⟨w.heap.size + 1 + 1, 0, none⟩)]) (by simp) (by simp [go_sem]) ?_
    refine (catch_fault w.heap.size (w.heap.size + 1) (w.heap.size + 1 + 1) N _ _ _ _ _ _ _ _ _ _ _ _ w2 HP2.out HQ2.out HR2.out (by omega) (by omega) (by omega)).mono ?_
    rintro e u' w3 ⟨rfl, rfl, hfr, hp, hq, hr⟩
    have p0 := (blk_cell hp 0).trans rfl
    have p1 := (blk_cell hp 1).trans rfl
    have p2 := (blk_cell hp 2).trans rfl
    have p3 := (blk_cell hp 3).trans rfl
    have p4 := (blk_cell hp 4).trans rfl
    have p5 := (blk_cell hp 5).trans rfl
    have p6 := (blk_cell hp 6).trans rfl
    have p7 := (blk_cell hp 7).trans rfl
    have p8 := (blk_cell hp 8).trans rfl
    have p9 := (blk_cell hp 9).trans rfl
    have q0 := (blk_cell hq 0).trans rfl
    have r0 := (blk_cell hr 0).trans rfl
    have hlow : ∀ k, k < w.heap.size → ¬ (k = w.heap.size ∨ k = w.heap.size + 1 ∨ k = w.heap.size + 1 + 1) := fun k hk => by omega
    have HB3 : Below w.heap.size w w3 := HB2.out.trans ⟨hfr.os, hfr.tape, hfr.output, hfr.size, fun k hk => hfr.block k (by have := HB2.out.size; omega) (hlow k hk)⟩
    have hNe : ∀ g t cs, w2.heap[g]? = some (.cells cs t (0, 0)) → t ≠ 84 → N ≠ g := fun g t cs hg ht he => by subst he; rw [HN.out] at hg; injection hg with hg; injection hg with _ h2; exact ht h2.symm
    have HN3 : w3.heap[N]? = _ := blk_fr HN.out hfr (by rintro (h | h | h); exact hNe _ _ _ HP2.out (by decide) h; exact hNe _ _ _ HQ2.out (by decide) h; exact hNe _ _ _ HR2.out (by decide) h)
    simp [Leaves, settle, results, Tryz.results32, go_sem, p0, p1, p2, p3, p4, p5, p6, p7, p8, p9, q0, r0]
    exact ⟨HB3, N, rfl, HN3⟩
  | ok y =>
    obtain ⟨x, j⟩ := y
    rw [ho] at hm
    obtain ⟨s, rfl, hh, hr⟩ := hm
    obtain ⟨As, ms, cs, rfl⟩ := held_slice hh
    have HH := Asd.mk hh
    have HRX := Asd.mk hr
    have HE := Asd.mk ho
    clear ho hh hr
    unfold exV
    have p0 := (blk_cell HP2.out 0).trans rfl
    have p1 := (blk_cell HP2.out 1).trans rfl
    have p2 := (blk_cell HP2.out 2).trans rfl
    have p3 := (blk_cell HP2.out 3).trans rfl
    have p4 := (blk_cell HP2.out 4).trans rfl
    have p5 := (blk_cell HP2.out 5).trans rfl
    have p6 := (blk_cell HP2.out 6).trans rfl
    have p7 := (blk_cell HP2.out 7).trans rfl
    have p8 := (blk_cell HP2.out 8).trans rfl
    have p9 := (blk_cell HP2.out 9).trans rfl
    have z0 := blk_frozen HP2.out 0
    have z1 := blk_frozen HP2.out 1
    have z2 := blk_frozen HP2.out 2
    have z3 := blk_frozen HP2.out 3
    have z4 := blk_frozen HP2.out 4
    have z5 := blk_frozen HP2.out 5
    have z6 := blk_frozen HP2.out 6
    have z7 := blk_frozen HP2.out 7
    have z8 := blk_frozen HP2.out 8
    have z9 := blk_frozen HP2.out 9
    go_upto_region 4 with fail
    have HPF := Asd.mk (put10_fr (W := w2) (b := w.heap.size) (S := fun k => k = w.heap.size) rfl (.int .i64 x.kind) (.int .i64 x.op) (.int .i64 x.v.kind) (.int .i64 x.v.int) (.string ⟨x.v.text.toArray⟩) (.string ⟨x.table.toArray⟩) (.string ⟨x.name.toArray⟩) (.int .i64 x.col) (.int .i64 x.ty) (.slice As ms cs))
    have HX3 := Asd.mk (put10_blk HP2.out (.int .i64 x.kind) (.int .i64 x.op) (.int .i64 x.v.kind) (.int .i64 x.v.int) (.string ⟨x.v.text.toArray⟩) (.string ⟨x.table.toArray⟩) (.string ⟨x.name.toArray⟩) (.int .i64 x.col) (.int .i64 x.ty) (.slice As ms cs))
    have HQ3 := Asd.mk (blk_fr HQ2.out HPF.out (by show ¬ w.heap.size + 1 = w.heap.size; omega))
    have HR3 := Asd.mk (blk_fr HR2.out HPF.out (by show ¬ w.heap.size + 1 + 1 = w.heap.size; omega))
    have HD3 := Asd.mk (blk_fr HRX.out.blk HPF.out (by show ¬ w.heap.size + 1 + 1 + 1 = w.heap.size; omega))
    have HH3 := Asd.mk (held_frS HH.out HPF.out (fun g hg h => by have h1 : w0.heap.size ≤ g := hg; have h2 : g = w.heap.size := h; have := HSZ.out; omega))
    have HB3 : Asd (Below w.heap.size w _) := Asd.mk (HB2.out.trans ⟨HPF.out.os, HPF.out.tape, HPF.out.output, HPF.out.size, fun k hk => HPF.out.block k (by have := HB2.out.size; omega) (by show ¬ k = w.heap.size; omega)⟩)
    generalize ((((((((((w2.setCell ⟨w.heap.size, 0, none⟩ (.int .i64 x.kind)).setCell ⟨w.heap.size, 1, none⟩ (.int .i64 x.op)).setCell ⟨w.heap.size, 2, none⟩ (.int .i64 x.v.kind)).setCell ⟨w.heap.size, 3, none⟩ (.int .i64 x.v.int)).setCell ⟨w.heap.size, 4, none⟩ (.string ⟨x.v.text.toArray⟩)).setCell ⟨w.heap.size, 5, none⟩ (.string ⟨x.table.toArray⟩)).setCell ⟨w.heap.size, 6, none⟩ (.string ⟨x.name.toArray⟩)).setCell ⟨w.heap.size, 7, none⟩ (.int .i64 x.col)).setCell ⟨w.heap.size, 8, none⟩ (.int .i64 x.ty)).setCell ⟨w.heap.size, 9, none⟩ (.slice As ms cs)) = w3 at HPF HX3 HQ3 HR3 HD3 HH3 HB3 ⊢
    clear p0 z0 p1 z1 p2 z2 p3 z3 p4 z4 p5 z5 p6 z6 p7 z7 p8 z8 p9 z9
    obtain ⟨e0, e1, e2, e3, e4, e5, e6, e7, e8, e9⟩ := ex_cells HX3.out
    have z0 := blk_frozen HX3.out 0
    have z1 := blk_frozen HX3.out 1
    have z2 := blk_frozen HX3.out 2
    have z3 := blk_frozen HX3.out 3
    have z4 := blk_frozen HX3.out 4
    have z5 := blk_frozen HX3.out 5
    have z6 := blk_frozen HX3.out 6
    have z7 := blk_frozen HX3.out 7
    have z8 := blk_frozen HX3.out 8
    have z9 := blk_frozen HX3.out 9
    have q0 := (blk_cell HQ3.out 0).trans rfl
    have f0 := blk_frozen HQ3.out 0
    have r0 := (blk_cell HR3.out 0).trans rfl
    have g0 := blk_frozen HR3.out 0
    have d1 := (blk_cell HD3.out 1).trans rfl
    have HPG := Asd.mk (put10_fr (W := w3) (b := w.heap.size) (S := fun k => k = w.heap.size) rfl (.int .i64 x.kind) (.int .i64 x.op) (.int .i64 x.v.kind) (.int .i64 x.v.int) (.string ⟨x.v.text.toArray⟩) (.string ⟨x.table.toArray⟩) (.string ⟨x.name.toArray⟩) (.int .i64 x.col) (.int .i64 x.ty) (.slice As ms cs))
    have HX5 := Asd.mk (put10_blk (W := w3) (b := w.heap.size) HX3.out (.int .i64 x.kind) (.int .i64 x.op) (.int .i64 x.v.kind) (.int .i64 x.v.int) (.string ⟨x.v.text.toArray⟩) (.string ⟨x.table.toArray⟩) (.string ⟨x.name.toArray⟩) (.int .i64 x.col) (.int .i64 x.ty) (.slice As ms cs))
    have HQ5 := Asd.mk (blk_fr HQ3.out HPG.out (by show ¬ w.heap.size + 1 = w.heap.size; omega))
    have HR5 := Asd.mk (blk_fr HR3.out HPG.out (by show ¬ w.heap.size + 1 + 1 = w.heap.size; omega))
    have HF7 : Asd (Fr (fun k => k = w.heap.size ∨ k = w.heap.size + 1 ∨ k = w.heap.size + 1 + 1) w3 _) := Asd.mk (Fr.drew (Fr.setCell (S := fun k => k = w.heap.size ∨ k = w.heap.size + 1 ∨ k = w.heap.size + 1 + 1) (Fr.setCell (S := fun k => k = w.heap.size ∨ k = w.heap.size + 1 ∨ k = w.heap.size + 1 + 1) (HPG.out.mono (fun k hk _ => .inl hk)) (p := ⟨w.heap.size + 1, 0, none⟩) (.inr (.inl rfl)) (.int .i64 ((j : Nat) : Int))) (p := ⟨w.heap.size + 1 + 1, 0, none⟩) (.inr (.inr rfl)) .nilIface))
    have HX7 := Asd.mk (drew_blk (blk_far (blk_far HX5.out (p := ⟨w.heap.size + 1, 0, none⟩) (by show w.heap.size ≠ w.heap.size + 1; omega) (.int .i64 ((j : Nat) : Int))) (p := ⟨w.heap.size + 1 + 1, 0, none⟩) (by show w.heap.size ≠ w.heap.size + 1 + 1; omega) (.nilIface)))
    have HQ7 := Asd.mk (drew_blk (blk_far (blk_set HQ5.out 0 (.int .i64 ((j : Nat) : Int))) (p := ⟨w.heap.size + 1 + 1, 0, none⟩) (by show w.heap.size + 1 ≠ w.heap.size + 1 + 1; omega) (.nilIface)))
    have HR7 := Asd.mk (drew_blk (blk_set (blk_far HR5.out (p := ⟨w.heap.size + 1, 0, none⟩) (by show w.heap.size + 1 + 1 ≠ w.heap.size + 1; omega) (.int .i64 ((j : Nat) : Int))) 0 .nilIface))
    have hlow : ∀ k, w0.heap.size ≤ k ∨ k < w.heap.size → ¬ (k = w.heap.size ∨ k = w.heap.size + 1 ∨ k = w.heap.size + 1 + 1) := fun k hk => by have := HSZ.out; omega
    have HH7 := Asd.mk (held_frS HH3.out HF7.out (fun g hg => hlow g (.inl hg)))
    have HB7 : Asd (Below w.heap.size w _) := Asd.mk (HB3.out.trans ⟨HF7.out.os, HF7.out.tape, HF7.out.output, HF7.out.size, fun k hk => HF7.out.block k (by have := HB3.out.size; omega) (hlow k (.inr hk))⟩)
    clear HPG HX5 HQ5 HR5 HF7 hlow HX3 HQ3 HR3 HH3 HB3
    go_region
    generalize ((((((((((((w3.setCell ⟨w.heap.size, 0, none⟩ (.int .i64 x.kind)).setCell ⟨w.heap.size, 1, none⟩ (.int .i64 x.op)).setCell ⟨w.heap.size, 2, none⟩ (.int .i64 x.v.kind)).setCell ⟨w.heap.size, 3, none⟩ (.int .i64 x.v.int)).setCell ⟨w.heap.size, 4, none⟩ (.string ⟨x.v.text.toArray⟩)).setCell ⟨w.heap.size, 5, none⟩ (.string ⟨x.table.toArray⟩)).setCell ⟨w.heap.size, 6, none⟩ (.string ⟨x.name.toArray⟩)).setCell ⟨w.heap.size, 7, none⟩ (.int .i64 x.col)).setCell ⟨w.heap.size, 8, none⟩ (.int .i64 x.ty)).setCell ⟨w.heap.size, 9, none⟩ (.slice As ms cs)).setCell ⟨w.heap.size + 1, 0, none⟩ (.int .i64 ((j : Nat) : Int))).setCell ⟨w.heap.size + 1 + 1, 0, none⟩ .nilIface).drew = w7 at HX7 HQ7 HR7 HH7 HB7 ⊢
    go_wp2_with fail
    refine leaves_cons (f := 58) (args := #[.pointer (some ⟨w.heap.size, 0, none⟩), .pointer (some ⟨w.heap.size + 1, 0, none⟩), .pointer (some ⟨w.heap.size + 1 + 1, 0, none⟩)]) (by simp) (by simp [go_sem]) ?_
    refine (catch_none w.heap.size (w.heap.size + 1) (w.heap.size + 1 + 1) w7).mono ?_
    rintro e u' w8 ⟨rfl, rfl, rfl⟩
    clear e0 e1 e2 e3 e4 e5 e6 e7 e8 e9 q0 r0
    have e0 := (blk_cell HX7.out 0).trans rfl
    have e1 := (blk_cell HX7.out 1).trans rfl
    have e2 := (blk_cell HX7.out 2).trans rfl
    have e3 := (blk_cell HX7.out 3).trans rfl
    have e4 := (blk_cell HX7.out 4).trans rfl
    have e5 := (blk_cell HX7.out 5).trans rfl
    have e6 := (blk_cell HX7.out 6).trans rfl
    have e7 := (blk_cell HX7.out 7).trans rfl
    have e8 := (blk_cell HX7.out 8).trans rfl
    have e9 := (blk_cell HX7.out 9).trans rfl
    have q0 := (blk_cell HQ7.out 0).trans rfl
    have r0 := (blk_cell HR7.out 0).trans rfl
    have HFIN : ReadR w (.ok (x, j)) (.returned (.tuple #[.agg #[.int .i64 x.kind, .int .i64 x.op, .int .i64 x.v.kind, .int .i64 x.v.int, .string ⟨x.v.text.toArray⟩, .string ⟨x.table.toArray⟩, .string ⟨x.name.toArray⟩, .int .i64 x.col, .int .i64 x.ty, .slice As ms cs], .int .i64 ((j : Nat) : Int), .nilIface])) w8 := ⟨HB7.out, _, rfl, held_mono HH7.out fun g _ hg => by have h1 : w0.heap.size ≤ g := hg; have := HSZ.out; omega⟩
    simp [Leaves, settle, results, Tryz.results32, go_sem, e0, e1, e2, e3, e4, e5, e6, e7, e8, e9, q0, r0]
    rw [HE.out]
    exact HFIN
end Go.Proofs.YtbeeaikilcnpgaaGreatDoor.Exp

namespace Go.Proofs.YtbeeaikilcnpgaaGreatDoor.Lex
open Go.RowKit Go.Proofs.YtbeeaikilcnpgaaGreatDoor.Base
def dStep (a : Nat) (c : UInt8) : Nat := a * 10 + (c.toNat - 48)
theorem dStep_eq (a : Nat) (c : UInt8) : dStep a c = a * 10 + (c.toNat - 48) := by unfold dStep; exact Eq.refl _
attribute [irreducible] dStep
def decV : Nat → List UInt8 → Nat
  | a, [] => a
  | a, c :: l => decV (dStep a c) l
theorem decV_cons0 (a : Nat) (c : UInt8) (l : List UInt8) : decV a (c :: l) = decV (dStep a c) l := by rw [decV]
theorem decV_cons (a : Nat) (c : UInt8) (l : List UInt8) : decV a (c :: l) = decV (a * 10 + (c.toNat - 48)) l := by rw [decV_cons0, dStep_eq]
theorem decV_append (m : List UInt8) : ∀ (l : List UInt8) (a : Nat), decV a (l ++ m) = decV (decV a l) m
  | [], a => by simp [decV]
  | c :: l, a => by rw [List.cons_append, decV_cons, decV_cons, decV_append m l]
theorem decV_ge : ∀ (l : List UInt8) (a : Nat), a ≤ decV a l
  | [], a => by rw [decV]; exact Nat.le_refl _
  | c :: l, a => by
    rw [decV_cons]
    have := decV_ge l (a * 10 + (c.toNat - 48))
    omega
theorem isDig_iff (c : UInt8) : isDig c = true ↔ 48 ≤ c.toNat ∧ c.toNat ≤ 57 := by simp [isDig, digN]
theorem parseM_ok (M : Nat) (hM : M < 18446744073709551616) : ∀ (l : List UInt8) (a : Nat), (∀ c ∈ l, isDig c = true) → decV a l ≤ M → Lib.parseUintM M a l = .ok (decV a l)
  | [], a, _, _ => by rw [decV, Lib.parseUintM]
  | c :: l, a, hd, h => by
    have hc := (isDig_iff c).mp (hd c (by simp))
    rw [decV_cons] at h ⊢
    have hg := decV_ge l (a * 10 + (c.toNat - 48))
    rw [Lib.parseUintM, if_pos hc, if_neg (by omega), if_neg (by omega)]
    exact parseM_ok M hM l _ (fun d hd' => hd d (by simp [hd'])) h
theorem parseM_big (M : Nat) : ∀ (l : List UInt8) (a : Nat), a ≤ M → (∀ c ∈ l, isDig c = true) → M < decV a l → ∀ v, Lib.parseUintM M a l ≠ .ok v
  | [], a, ha, _, h, v => by rw [decV] at h; omega
  | c :: l, a, ha, hd, h, v => by
    have hc := (isDig_iff c).mp (hd c (by simp))
    rw [decV_cons] at h
    rw [Lib.parseUintM, if_pos hc]
    split
    · intro e; cases e
    · split
      · intro e; cases e
      · exact parseM_big M l _ (by omega) (fun d hd' => hd d (by simp [hd'])) h v
theorem numP_digits {l : List UInt8} (hl : l ≠ []) (hd : ∀ c ∈ l, isDig c = true) : numP l = if decV 0 l < 9223372036854775808 then some (decV 0 l : Int) else none := by
  match l, hl with
  | c :: r, _ =>
    have hc := (isDig_iff c).mp (hd c (by simp))
    have e : Lib.parseUintB 64 (c :: r) = Lib.parseUintM 18446744073709551615 0 (c :: r) := by
      unfold Lib.parseUintB
      rw [if_neg (by simp)]
    have h43 : ¬ (c.toNat = 43 ∨ c.toNat = 45) := by omega
    have h45 : ¬ c.toNat = 45 := by omega
    by_cases hb : decV 0 (c :: r) ≤ 18446744073709551615
    · have e2 := parseM_ok 18446744073709551615 (by decide) (c :: r) 0 hd hb
      unfold numP Lib.parseIntB
      simp only [if_neg h43, e, e2]
      by_cases h63 : decV 0 (c :: r) < 9223372036854775808
      · rw [if_neg (by intro h; have := h.2; omega), if_neg (by intro h; exact h45 h.1), if_neg h45, if_pos h63]
      · rw [if_pos ⟨h45, by omega⟩, if_neg h63]
    · have e2 := parseM_big 18446744073709551615 (c :: r) 0 (by decide) hd (by omega)
      rw [if_neg (by omega)]
      unfold numP Lib.parseIntB
      simp only [if_neg h43, e]
      cases hx : Lib.parseUintM 18446744073709551615 0 (c :: r) with
      | ok v => exact absurd hx (e2 v)
      | _ => rfl
theorem decDigits_dig : ∀ (u : Nat), ∀ c ∈ Lib.decDigits u, isDig c = true := by
  intro u
  induction u using Nat.strongRecOn with
  | ind u ih =>
    intro c hc
    rw [Lib.decDigits] at hc
    split at hc
    · rename_i h
      simp only [List.mem_singleton] at hc
      subst hc
      rw [isDig_iff]
      simp; omega
    · rename_i h
      rcases List.mem_append.mp hc with hc | hc
      · exact ih (u / 10) (by omega) c hc
      · simp only [List.mem_singleton] at hc
        subst hc
        rw [isDig_iff]
        simp; omega
theorem decDigits_ne (u : Nat) : Lib.decDigits u ≠ [] := by
  rw [Lib.decDigits]
  split <;> simp
theorem decV_digits : ∀ (u : Nat), decV 0 (Lib.decDigits u) = u := by
  intro u
  induction u using Nat.strongRecOn with
  | ind u ih =>
    rw [Lib.decDigits]
    split
    · rename_i h
      have e : (UInt8.ofNat (48 + u)).toNat = 48 + u := by rw [UInt8.toNat_ofNat']; omega
      rw [decV_cons, decV, e]; omega
    · rename_i h
      have e : (UInt8.ofNat (48 + u % 10)).toNat = 48 + u % 10 := by rw [UInt8.toNat_ofNat']; omega
      rw [decV_append, ih (u / 10) (by omega), decV_cons, decV, e]; omega
theorem numP_itoa {v : Int} (h0 : 0 ≤ v) (h1 : v ≤ 9223372036854775807) : numP (Lib.itoa v) = some v := by
  obtain ⟨u, rfl⟩ : ∃ u : Nat, v = u := ⟨v.toNat, by omega⟩
  rw [Lib.itoa_nonneg, numP_digits (decDigits_ne u) (decDigits_dig u), decV_digits, if_pos (by omega)]

theorem takeW_no {a : UInt8} (b : List UInt8) : ∀ l : List UInt8, ¬ a ∈ l → (l ++ a :: b).takeWhile (· != a) = l ∧ (l ++ a :: b).dropWhile (· != a) = a :: b
  | [], h => by simp
  | c :: r, h => by
    have hc : ¬ c = a := fun e => h (by simp [e])
    have hm : ¬ a ∈ r := fun e => h (by simp [e])
    have ih := takeW_no b r hm
    have h1 : (c != a) = true := by simpa using hc
    simp only [List.cons_append, List.takeWhile_cons, List.dropWhile_cons]
    rw [if_pos h1, if_pos h1, ih.1, ih.2]
    exact ⟨rfl, rfl⟩

def Sep (r : List UInt8) : Prop := r = [] ∨ ∃ c q, r = c :: q ∧ (c = 32 ∨ c = 40 ∨ c = 41 ∨ c = 44 ∨ c = 46)
theorem Sep.head {r : List UInt8} (h : Sep r) {d : UInt8} (hd : r.head? = some d) : d = 32 ∨ d = 40 ∨ d = 41 ∨ d = 44 ∨ d = 46 := by
  rcases h with rfl | ⟨c, q, rfl, h⟩
  · cases hd
  · simp only [List.head?_cons, Option.some.injEq] at hd
    subst hd
    exact h
theorem Sep.run {r : List UInt8} (h : Sep r) (p : UInt8 → Bool) (hp : p 32 = false ∧ p 40 = false ∧ p 41 = false ∧ p 44 = false ∧ p 46 = false) : runP p r = 0 := by
  rcases h with rfl | ⟨c, q, rfl, h⟩
  · rfl
  · rw [runP]
    rcases h with rfl | rfl | rfl | rfl | rfl
    · simp [hp.1]
    · simp [hp.2.1]
    · simp [hp.2.2.1]
    · simp [hp.2.2.2.1]
    · simp [hp.2.2.2.2]
theorem runP_app (p : UInt8 → Bool) {r : List UInt8} (hr : runP p r = 0) : ∀ l : List UInt8, (∀ c ∈ l, p c = true) → runP p (l ++ r) = l.length
  | [], _ => hr
  | c :: l, h => by
    rw [List.cons_append, runP, if_pos (h c (by simp)), runP_app p hr l (fun d hd => h d (by simp [hd]))]
    rfl
theorem wrd_ne {c : UInt8} (h : isWrd c = true) : c ≠ 39 := by rintro rfl; revert h; decide
theorem tok_wrd {c : UInt8} {u r : List UInt8} (h0 : isLet c = true) (hall : ∀ d ∈ c :: u, isWrd d = true) (hr : Sep r) : tokP ((c :: u) ++ r) = some (⟨1, (c :: u).map lowB, 0⟩, (c :: u).length) := by
  have hx : ¬ ((c = 120 ∨ c = 88) ∧ (u ++ r).head? = some 39) := by
    rintro ⟨_, h⟩
    cases u with
    | nil => have := hr.head h; revert this; decide
    | cons d u =>
      simp only [List.cons_append, List.head?_cons, Option.some.injEq] at h
      exact wrd_ne (hall d (by simp)) h
  have hrun := runP_app isWrd (hr.run isWrd (by decide)) (c :: u) hall
  rw [List.cons_append, tokP_word hx h0, ← List.cons_append, hrun, List.take_left' rfl]
theorem dig_not {c : UInt8} (h : isDig c = true) : isLet c = false ∧ c ≠ 120 ∧ c ≠ 88 := by
  have := (isDig_iff c).mp h
  refine ⟨?_, ?_, ?_⟩
  · simp [isLet, letN]; omega
  · rintro rfl; revert h; decide
  · rintro rfl; revert h; decide
theorem tok_dig {u r : List UInt8} (hu : u ≠ []) (hall : ∀ d ∈ u, isDig d = true) (hr : Sep r) {v : Int} (hv : numP u = some v) : tokP (u ++ r) = some (⟨2, [], v⟩, u.length) := by
  match u, hu with
  | c :: u, _ =>
    obtain ⟨h1, h2, h3⟩ := dig_not (hall c (by simp))
    have hrun := runP_app isDig (hr.run isDig (by decide)) (c :: u) hall
    rw [List.cons_append, tokP_num (by rintro ⟨h | h, _⟩; exact h2 h; exact h3 h) h1 (hall c (by simp)), ← List.cons_append, hrun, List.take_left' rfl, hv]
    rfl
theorem quotes_read {r : List UInt8} (hr : Sep r) : ∀ x : List UInt8, textP (quotes x ++ 39 :: r) = some (x, (quotes x).length + 1)
  | [] => by
    show textP (39 :: r) = _
    cases r with
    | nil => rw [textP_q0]; rfl
    | cons d r =>
      rw [textP_q1 (by have := hr.head (d := d) rfl; rintro rfl; revert this; decide)]
      rfl
  | c :: x => by
    have ih := quotes_read hr x
    rw [quotes_cons]
    by_cases hc : c = 39
    · subst hc
      show textP (39 :: 39 :: (quotes x ++ 39 :: r)) = _
      rw [textP_q2, ih]
      simp [quote1]
    · have e : quote1 c = [c] := by simp [quote1, hc]
      rw [e]
      show textP (c :: (quotes x ++ 39 :: r)) = _
      rw [textP_c hc, ih]
      simp
theorem tok_txt (x : List UInt8) {r : List UInt8} (hr : Sep r) : tokP (litText x ++ r) = some (⟨3, x, 0⟩, (litText x).length) := by
  show tokP (39 :: ((quotes x ++ [39]) ++ r)) = _
  rw [tokP_text, List.append_assoc, List.singleton_append, quotes_read hr]
  simp [litText]
theorem hexB_val {n : Nat} (h : n < 16) : hexV (hexB n) = some n ∧ hexB n ≠ 39 := by
  have : ∀ m : Fin 16, hexV (hexB m.val) = some m.val ∧ hexB m.val ≠ 39 := by decide
  exact this ⟨n, h⟩
theorem unhex_hexs : ∀ x : List UInt8, unhex (hexs x) = some x
  | [] => rfl
  | c :: x => by
    have ih := unhex_hexs x
    have hc := c.toNat_lt
    show unhex (hexB (c.toNat / 16) :: hexB (c.toNat % 16) :: hexs x) = _
    rw [unhex_cons, ih, hexPair, (hexB_val (show c.toNat / 16 < 16 by omega)).1, (hexB_val (show c.toNat % 16 < 16 by omega)).1]
    simp only [Option.bind_some, Option.map_some]
    rw [show 16 * (c.toNat / 16) + c.toNat % 16 = c.toNat by omega]
    simp
theorem hexs_no : ∀ x : List UInt8, ¬ 39 ∈ hexs x
  | [] => by simp [hexs]
  | c :: x => by
    have ih := hexs_no x
    have hc := c.toNat_lt
    show ¬ 39 ∈ hexB (c.toNat / 16) :: hexB (c.toNat % 16) :: hexs x
    have h1 := (hexB_val (show c.toNat / 16 < 16 by omega)).2
    have h2 := (hexB_val (show c.toNat % 16 < 16 by omega)).2
    simp only [List.mem_cons, not_or]
    exact ⟨fun e => h1 e.symm, fun e => h2 e.symm, ih⟩
theorem tok_blb (x r : List UInt8) : tokP (litBlob x ++ r) = some (⟨4, x, 0⟩, (litBlob x).length) := by
  show tokP (88 :: 39 :: ((hexs x ++ [39]) ++ r)) = _
  rw [tokP_blob (.inr rfl) rfl]
  simp only [List.tail_cons]
  rw [List.append_assoc, List.singleton_append]
  have e := (takeW_no (a := 39) r (hexs x) (hexs_no x)).1
  have hb : blobP (hexs x ++ 39 :: r) = some (x, (hexs x).length + 2) := by
    unfold blobP
    rw [if_pos (by simp), e, unhex_hexs]
    rfl
  rw [hb]
  simp [litBlob]
theorem sym_not {c : UInt8} (h : c ∈ symBytes) : isLet c = false ∧ isDig c = false ∧ c ≠ 39 ∧ c ≠ 120 ∧ c ≠ 88 := by
  have : ∀ d ∈ symBytes, isLet d = false ∧ isDig d = false ∧ d ≠ 39 ∧ d ≠ 120 ∧ d ≠ 88 := by decide
  exact this c h
theorem tok_sym1 {c : UInt8} (h : c ∈ symBytes) {r : List UInt8} (hr : Sep r) : tokP (c :: r) = some (⟨5, [c], 0⟩, 1) := by
  obtain ⟨h1, h2, h3, h4, h5⟩ := sym_not h
  have hs : symP (c :: r) = 1 := by
    rw [symP, if_neg, if_pos (by exact h)]
    rintro (h | h | h | h)
    · have := hr.head h.2; revert this; decide
    · have := hr.head h.2; revert this; decide
    · have := hr.head h.2; revert this; decide
    · have := hr.head h.2; revert this; decide
  rw [tokP_sym (by rintro ⟨h | h, _⟩; exact h4 h; exact h5 h) h1 h2 h3, hs]
  rfl
theorem tok_sym2 {a b : UInt8} (h : (a, b) ∈ [((60 : UInt8), (62 : UInt8)), (60, 61), (62, 61), (124, 124)]) (r : List UInt8) : tokP (a :: b :: r) = some (⟨5, [a, b], 0⟩, 2) := by
  have hs : symP (a :: b :: r) = 2 := by
    simp only [List.mem_cons, List.not_mem_nil, or_false, Prod.mk.injEq] at h
    rw [symP, if_pos]
    simp only [List.head?_cons, Option.some.injEq]
    exact h
  have hn : isLet a = false ∧ isDig a = false ∧ a ≠ 39 ∧ a ≠ 120 ∧ a ≠ 88 := by
    have : ∀ x ∈ [((60 : UInt8), (62 : UInt8)), (60, 61), (62, 61), (124, 124)], isLet x.1 = false ∧ isDig x.1 = false ∧ x.1 ≠ 39 ∧ x.1 ≠ 120 ∧ x.1 ≠ 88 := by decide
    exact this _ h
  rw [tokP_sym (by rintro ⟨h | h, _⟩; exact hn.2.2.2.1 h; exact hn.2.2.2.2 h) hn.1 hn.2.1 hn.2.2.1, hs]
  rfl

def prT (t : Tk) : List UInt8 := if t.kind = 1 ∨ t.kind = 5 then t.text else if t.kind = 2 then Lib.itoa t.num else if t.kind = 3 then litText t.text else if t.kind = 4 then litBlob t.text else []
structure GoodT (t : Tk) : Prop where
  again : ∀ r, Sep r → tokP (prT t ++ r) = some (t, (prT t).length)
  first : ∃ c u, prT t = c :: u ∧ ¬ (c = 32 ∨ c = 9 ∨ c = 10 ∨ c = 13) ∧ ∀ r, Sep r → ¬ (c = 45 ∧ (u ++ r).head? = some 45)
  num : 0 ≤ t.num ∧ t.num ≤ 9223372036854775807
set_option maxRecDepth 100000 in
theorem low_wrd {c : UInt8} (h : isWrd c = true) : isWrd (lowB c) = true ∧ lowB (lowB c) = lowB c := by
  have : ∀ m : Fin 256, isWrd (UInt8.ofNat m.val) = true → isWrd (lowB (UInt8.ofNat m.val)) = true ∧ lowB (lowB (UInt8.ofNat m.val)) = lowB (UInt8.ofNat m.val) := by decide
  have h2 := this ⟨c.toNat, c.toNat_lt⟩
  simp only [UInt8.ofNat_toNat] at h2
  exact h2 h
set_option maxRecDepth 100000 in
theorem low_let {c : UInt8} (h : isLet c = true) : isLet (lowB c) = true := by
  have : ∀ m : Fin 256, isLet (UInt8.ofNat m.val) = true → isLet (lowB (UInt8.ofNat m.val)) = true := by decide
  have h2 := this ⟨c.toNat, c.toNat_lt⟩
  simp only [UInt8.ofNat_toNat] at h2
  exact h2 h
theorem let_not {c : UInt8} (h : isLet c = true) : ¬ (c = 32 ∨ c = 9 ∨ c = 10 ∨ c = 13) ∧ c ≠ 45 := by
  constructor
  · rintro (rfl | rfl | rfl | rfl) <;> revert h <;> decide
  · rintro rfl; revert h; decide
theorem dig_blank {c : UInt8} (h : isDig c = true) : ¬ (c = 32 ∨ c = 9 ∨ c = 10 ∨ c = 13) ∧ c ≠ 45 := by
  constructor
  · rintro (rfl | rfl | rfl | rfl) <;> revert h <;> decide
  · rintro rfl; revert h; decide
theorem good_word {c : UInt8} {u : List UInt8} (h0 : isLet c = true) (hall : ∀ d ∈ c :: u, isWrd d = true) (hlow : (c :: u).map lowB = c :: u) : GoodT ⟨1, c :: u, 0⟩ := by
  have e : prT ⟨1, c :: u, 0⟩ = c :: u := by simp [prT]
  refine ⟨fun r hr => ?_, ⟨c, u, e, (let_not h0).1, fun r _ h => (let_not h0).2 h.1⟩, by simp⟩
  rw [e, tok_wrd h0 hall hr, hlow]
theorem good_num {v : Int} (h0 : 0 ≤ v) (h1 : v ≤ 9223372036854775807) : GoodT ⟨2, [], v⟩ := by
  obtain ⟨n, rfl⟩ : ∃ n : Nat, v = n := ⟨v.toNat, by omega⟩
  have e : prT ⟨2, [], (n : Int)⟩ = Lib.decDigits n := by simp [prT, Lib.itoa_nonneg]
  have hn := numP_itoa h0 h1
  rw [Lib.itoa_nonneg] at hn
  refine ⟨fun r hr => ?_, ?_, ⟨h0, h1⟩⟩
  · rw [e]; exact tok_dig (decDigits_ne n) (decDigits_dig n) hr hn
  · rw [e]
    have hne := decDigits_ne n
    have hd := decDigits_dig n
    generalize Lib.decDigits n = l at hne hd
    match l, hne with
    | c :: u, _ => exact ⟨c, u, rfl, (dig_blank (hd c (by simp))).1, fun r _ h => (dig_blank (hd c (by simp))).2 h.1⟩
theorem good_text (x : List UInt8) : GoodT ⟨3, x, 0⟩ := by
  have e : prT ⟨3, x, 0⟩ = litText x := by simp [prT]
  refine ⟨fun r hr => ?_, ⟨39, quotes x ++ [39], e, by decide, fun r _ h => absurd h.1 (by decide)⟩, by simp⟩
  rw [e]; exact tok_txt x hr
theorem good_blob (x : List UInt8) : GoodT ⟨4, x, 0⟩ := by
  have e : prT ⟨4, x, 0⟩ = litBlob x := by simp [prT]
  refine ⟨fun r hr => ?_, ⟨88, 39 :: (hexs x ++ [39]), e, by decide, fun r _ h => absurd h.1 (by decide)⟩, by simp⟩
  rw [e]; exact tok_blb x r
theorem good_sym1 {c : UInt8} (h : c ∈ symBytes) : GoodT ⟨5, [c], 0⟩ := by
  have e : prT ⟨5, [c], 0⟩ = [c] := by simp [prT]
  refine ⟨fun r hr => ?_, ⟨c, [], e, ?_, fun r hr h => ?_⟩, by simp⟩
  · rw [e]; exact tok_sym1 h hr
  · have : ∀ d ∈ symBytes, ¬ (d = 32 ∨ d = 9 ∨ d = 10 ∨ d = 13) := by decide
    exact this c h
  · have := hr.head h.2; revert this; decide
theorem good_sym2 {a b : UInt8} (h : (a, b) ∈ [((60 : UInt8), (62 : UInt8)), (60, 61), (62, 61), (124, 124)]) : GoodT ⟨5, [a, b], 0⟩ := by
  have e : prT ⟨5, [a, b], 0⟩ = [a, b] := by simp [prT]
  have hn : ¬ (a = 32 ∨ a = 9 ∨ a = 10 ∨ a = 13) ∧ a ≠ 45 := by
    have : ∀ x ∈ [((60 : UInt8), (62 : UInt8)), (60, 61), (62, 61), (124, 124)], ¬ (x.1 = 32 ∨ x.1 = 9 ∨ x.1 = 10 ∨ x.1 = 13) ∧ x.1 ≠ 45 := by decide
    exact this _ h
  refine ⟨fun r hr => ?_, ⟨a, [b], e, hn.1, fun r hr h => hn.2 h.1⟩, by simp⟩
  rw [e]; exact tok_sym2 h r
theorem numP_dig_bound {l : List UInt8} (hl : l ≠ []) (hd : ∀ c ∈ l, isDig c = true) {v : Int} (h : numP l = some v) : 0 ≤ v ∧ v ≤ 9223372036854775807 := by
  rw [numP_digits hl hd] at h
  split at h
  · injection h with h; omega
  · cases h
theorem tokP_good {l : List UInt8} {t : Tk} {n : Nat} (h : tokP l = some (t, n)) : GoodT t := by
  match l, h with
  | c :: r, h =>
    by_cases h1 : (c = 120 ∨ c = 88) ∧ r.head? = some 39
    · rw [tokP_blob h1.1 h1.2] at h
      obtain ⟨y, hy, e⟩ := Option.map_eq_some_iff.mp h
      injection e with e _
      subst e
      exact good_blob _
    · cases hl : isLet c with
      | true =>
        rw [tokP_word h1 hl] at h
        injection h with h
        injection h with h _
        subst h
        have hall := run_all isWrd (c :: r)
        have hpos : 1 ≤ runP isWrd (c :: r) := run_pos isWrd (by simp [isWrd, hl])
        obtain ⟨m, hm⟩ : ∃ m, runP isWrd (c :: r) = m + 1 := ⟨runP isWrd (c :: r) - 1, by omega⟩
        rw [hm] at hall ⊢
        rw [List.take_succ_cons] at hall ⊢
        rw [List.map_cons]
        refine good_word (low_let hl) ?_ ?_
        · intro d hd
          rw [← List.map_cons] at hd
          obtain ⟨d', hd', rfl⟩ := List.mem_map.mp hd
          exact (low_wrd (hall d' hd')).1
        · rw [← List.map_cons, List.map_map]
          apply List.map_congr_left
          intro d hd
          exact (low_wrd (hall d hd)).2
      | false =>
        cases hd : isDig c with
        | true =>
          rw [tokP_num h1 hl hd] at h
          obtain ⟨v, hv, e⟩ := Option.map_eq_some_iff.mp h
          injection e with e _
          subst e
          have hpos : 1 ≤ runP isDig (c :: r) := run_pos isDig hd
          have hne : (c :: r).take (runP isDig (c :: r)) ≠ [] := by
            intro e
            have := congrArg List.length e
            rw [List.length_take] at this
            simp only [List.length_cons, List.length_nil] at this
            omega
          obtain ⟨b0, b1⟩ := numP_dig_bound hne (run_all isDig (c :: r)) hv
          exact good_num b0 b1
        | false =>
          by_cases hq : c = 39
          · subst hq
            rw [tokP_text] at h
            obtain ⟨y, hy, e⟩ := Option.map_eq_some_iff.mp h
            injection e with e _
            subst e
            exact good_text _
          · rw [tokP_sym h1 hl hd hq] at h
            by_cases h0 : symP (c :: r) = 0
            · rw [if_pos h0] at h; cases h
            · rw [if_neg h0] at h
              injection h with h
              injection h with h _
              subst h
              by_cases h2 : (c = 60 ∧ r.head? = some 62) ∨ (c = 60 ∧ r.head? = some 61) ∨ (c = 62 ∧ r.head? = some 61) ∨ (c = 124 ∧ r.head? = some 124)
              · have hs : symP (c :: r) = 2 := by rw [symP, if_pos h2]
                rw [hs]
                cases r with
                | nil => simp at h2
                | cons d r =>
                  simp only [List.head?_cons, Option.some.injEq] at h2
                  exact good_sym2 (by simp only [List.mem_cons, List.not_mem_nil, or_false, Prod.mk.injEq]; exact h2)
              · by_cases hm : c ∈ symBytes
                · have hs : symP (c :: r) = 1 := by rw [symP, if_neg h2, if_pos (by exact hm)]
                  rw [hs]
                  exact good_sym1 hm
                · exfalso
                  apply h0
                  rw [symP, if_neg h2, if_neg (by exact hm)]
theorem unhex_len : ∀ (n : Nat) (l x : List UInt8), l.length ≤ n → unhex l = some x → x.length ≤ l.length
  | _, [], x, _, h => by simp [unhex] at h; subst h; simp
  | _, [a], x, _, h => by simp [unhex] at h
  | 0, a :: b :: r, x, hn, h => by simp at hn
  | n + 1, a :: b :: r, x, hn, h => by
    rw [unhex_cons] at h
    cases hp : hexPair a b with
    | none => rw [hp] at h; simp at h
    | some v =>
      rw [hp] at h
      simp only [Option.bind_some] at h
      obtain ⟨y, hy, rfl⟩ := Option.map_eq_some_iff.mp h
      simp only [List.length_cons] at hn ⊢
      have := unhex_len n r y (by omega) hy
      omega
theorem textP_len : ∀ (n : Nat) (l : List UInt8), l.length ≤ n → ∀ x, textP l = some x → x.1.length ≤ l.length
  | _, [], _, x, h => by rw [textP_nil] at h; cases h
  | 0, c :: r, hn, x, h => by simp at hn
  | n + 1, c :: r, hn, x, h => by
    simp only [List.length_cons] at hn ⊢
    by_cases hc : c = 39
    · subst hc
      match r, h, hn with
      | [], h, _ => rw [textP_q0] at h; injection h with h; subst h; simp
      | d :: r', h, hn =>
        simp only [List.length_cons] at hn ⊢
        by_cases hd : d = 39
        · subst hd
          rw [textP_q2] at h
          obtain ⟨y, hy, rfl⟩ := Option.map_eq_some_iff.mp h
          have := textP_len n r' (by omega) y hy
          simp only [List.length_cons]
          omega
        · rw [textP_q1 hd] at h; injection h with h; subst h; simp
    · rw [textP_c hc] at h
      obtain ⟨y, hy, rfl⟩ := Option.map_eq_some_iff.mp h
      have := textP_len n r (by omega) y hy
      simp only [List.length_cons]
      omega
theorem tokP_textlen {l : List UInt8} {t : Tk} {n : Nat} (h : tokP l = some (t, n)) : t.text.length ≤ l.length := by
  match l, h with
  | c :: r, h =>
    by_cases h1 : (c = 120 ∨ c = 88) ∧ r.head? = some 39
    · rw [tokP_blob h1.1 h1.2] at h
      obtain ⟨y, hy, e⟩ := Option.map_eq_some_iff.mp h
      injection e with e _
      subst e
      unfold blobP at hy
      split at hy
      · obtain ⟨z, hz, rfl⟩ := Option.map_eq_some_iff.mp hy
        have := unhex_len _ _ _ (Nat.le_refl _) hz
        have h2 := takeW_le (· != 39) r.tail
        simp only [List.length_tail] at h2
        simp only [List.length_cons]
        omega
      · cases hy
    · cases hl : isLet c with
      | true =>
        rw [tokP_word h1 hl] at h
        injection h with h
        injection h with h _
        subst h
        simp only [List.length_map, List.length_take]
        omega
      | false =>
        cases hd : isDig c with
        | true =>
          rw [tokP_num h1 hl hd] at h
          obtain ⟨v, hv, e⟩ := Option.map_eq_some_iff.mp h
          injection e with e _
          subst e
          simp
        | false =>
          by_cases hq : c = 39
          · subst hq
            rw [tokP_text] at h
            obtain ⟨y, hy, e⟩ := Option.map_eq_some_iff.mp h
            injection e with e _
            subst e
            have := textP_len _ r (Nat.le_refl _) y hy
            simp only [List.length_cons]
            omega
          · rw [tokP_sym h1 hl hd hq] at h
            by_cases h0 : symP (c :: r) = 0
            · rw [if_pos h0] at h; cases h
            · rw [if_neg h0] at h
              injection h with h
              injection h with h _
              subst h
              simp only [List.length_take]
              omega
theorem toks_good : ∀ (f k : Nat) (s : List UInt8) (ts : List (Tk × Nat)), toksP f k s = .ok ts → ∀ x ∈ ts, GoodT x.1 ∧ x.1.text.length ≤ s.length
  | 0, k, s, ts, h, x, hx => by simp [toksP] at h; subst h; simp at hx
  | f + 1, k, [], ts, h, x, hx => by simp [toksP] at h; subst h; simp at hx
  | f + 1, k, c :: r, ts, h, x, hx => by
    rw [toksP] at h
    try simp only at h
    split at h
    · have := toks_good f _ _ _ h x hx
      exact ⟨this.1, by simp only [List.length_cons]; omega⟩
    · split at h
      · split at h
        · have h1 := toks_good f _ _ _ h x hx
          have h2 : ((c :: r).takeWhile (· != 10)).length + ((c :: r).dropWhile (· != 10)).length = (c :: r).length := by
            have e : (c :: r).takeWhile (· != 10) ++ (c :: r).dropWhile (· != 10) = c :: r := List.takeWhile_append_dropWhile
            have := congrArg List.length e
            rw [List.length_append] at this
            exact this
          exact ⟨h1.1, by omega⟩
        · simp at h; subst h; simp at hx
      · cases ht : tokP (c :: r) with
        | none => rw [ht] at h; simp at h
        | some y =>
          obtain ⟨t, n⟩ := y
          rw [ht] at h
          simp only at h
          cases hr : toksP f (k + n) ((c :: r).drop n) with
          | error j => rw [hr] at h; simp [Except.map] at h
          | ok ts' =>
            rw [hr] at h
            simp [Except.map] at h
            subst h
            rcases List.mem_cons.mp hx with rfl | hx
            · exact ⟨tokP_good ht, tokP_textlen ht⟩
            · have := toks_good f _ _ _ hr x hx
              rw [List.length_drop] at this
              exact ⟨this.1, by omega⟩
theorem lexT_good {l : List UInt8} {ts : List (Tk × Nat)} (h : lexT l = .ok ts) (i : Nat) (hi : i < ts.length) : GoodT ts[i].1 ∧ ts[i].1.text.length ≤ l.length := toks_good _ _ _ _ h _ (List.getElem_mem hi)

theorem toks_place : ∀ (f k : Nat) (s : List UInt8) (ts : List (Tk × Nat)), toksP f k s = .ok ts → ∀ x ∈ ts, x.2 ≤ k + s.length
  | 0, k, s, ts, h, x, hx => by simp [toksP] at h; subst h; simp at hx
  | f + 1, k, [], ts, h, x, hx => by simp [toksP] at h; subst h; simp at hx
  | f + 1, k, c :: r, ts, h, x, hx => by
    rw [toksP] at h
    try simp only at h
    split at h
    · have := toks_place f _ _ _ h x hx
      simp only [List.length_cons]; omega
    · split at h
      · split at h
        · have h1 := toks_place f _ _ _ h x hx
          have h2 : ((c :: r).takeWhile (· != 10)).length + ((c :: r).dropWhile (· != 10)).length = (c :: r).length := by
            have e : (c :: r).takeWhile (· != 10) ++ (c :: r).dropWhile (· != 10) = c :: r := List.takeWhile_append_dropWhile
            have := congrArg List.length e
            rw [List.length_append] at this
            exact this
          omega
        · simp at h; subst h; simp at hx
      · cases ht : tokP (c :: r) with
        | none => rw [ht] at h; simp at h
        | some y =>
          obtain ⟨t, n⟩ := y
          rw [ht] at h
          simp only at h
          have hn := tokP_le ht
          simp only at hn
          cases hr : toksP f (k + n) ((c :: r).drop n) with
          | error j => rw [hr] at h; simp [Except.map] at h
          | ok ts' =>
            rw [hr] at h
            simp [Except.map] at h
            subst h
            rcases List.mem_cons.mp hx with rfl | hx
            · simp
            · have := toks_place f _ _ _ hr x hx
              rw [List.length_drop] at this
              omega
theorem lexT_place {l : List UInt8} {ts : List (Tk × Nat)} (h : lexT l = .ok ts) (i : Nat) (hi : i < ts.length) : ts[i].2 ≤ l.length := by
  have := toks_place _ _ _ _ h ts[i] (List.getElem_mem hi)
  omega
end Go.Proofs.YtbeeaikilcnpgaaGreatDoor.Lex

namespace Go.Proofs.YtbeeaikilcnpgaaGreatDoor.Exp
open Go.RowKit Go.Proofs.YtbeeaikilcnpgaaGreatDoor.Base Go.Proofs.YtbeeaikilcnpgaaGreatDoor.App Go.Proofs.YtbeeaikilcnpgaaGreatDoor.Byt Go.Proofs.YtbeeaikilcnpgaaGreatDoor.Lex
def lexE (l : List UInt8) : Toks := if 16384 < l.length then [] else match lexT l with
  | .ok ts => ts
  | .error _ => []
theorem lexE_ok {l : List UInt8} {ts : Toks} (h : l.length ≤ 16384) (hl : lexT l = .ok ts) : lexE l = ts := by
  unfold lexE
  rw [if_neg (by omega), hl]
theorem near_lexE (l : List UInt8) : Near (lexE l) := by
  unfold lexE
  split
  · intro x hx; cases hx
  · rename_i hlen
    cases hl : lexT l with
    | error k => intro x hx; cases hx
    | ok ts =>
      intro x hx
      obtain ⟨i, hi, rfl⟩ := List.getElem_of_mem hx
      have h1 := lexT_place hl i hi
      have h2 := (lexT_good hl i hi).2
      exact ⟨Nat.le_trans h1 (by omega), Nat.le_trans h2 (by omega)⟩
end Go.Proofs.YtbeeaikilcnpgaaGreatDoor.Exp

namespace Go.Proofs.YtbeeaikilcnpgaaGreatDoor.Exp
open Go.RowKit Go.Proofs.YtbeeaikilcnpgaaGreatDoor.Base Go.Proofs.YtbeeaikilcnpgaaGreatDoor.App Go.Proofs.YtbeeaikilcnpgaaGreatDoor.Byt
def vNum (n : Int) : Vl := ⟨2, n, []⟩
def vTxt (s : List UInt8) : Vl := ⟨3, 0, s⟩
def vTru (b : Bool) : Vl := ⟨1, if b then 1 else 0, []⟩
def eqV (a b : Vl) : Bool := a.kind == b.kind && (a.int == b.int && a.text == b.text)
abbrev Ev := Except Int Vl
def inI (n : Int) : Prop := -9223372036854775808 ≤ n ∧ n ≤ 9223372036854775807
instance (n : Int) : Decidable (inI n) := by unfold inI; exact inferInstance
inductive RV : Vl → Prop
  | null : RV vNull
  | bool (b : Bool) : RV (vTru b)
  | num (n : Int) (h : inI n) : RV (vNum n)
  | text (s : List UInt8) (h : s.length ≤ reachBytes) : RV (vTxt s)
  | blob (s : List UInt8) (h : s.length ≤ reachBytes) : RV ⟨4, 0, s⟩

def unP (op : Int) (v : Vl) : Ev :=
  if v.kind = 0 then .ok v
  else if op = 2 then (if v.kind = 1 then .ok (vTru (v.int == 0)) else .error 35)
  else if v.kind = 2 then (if v.int = -9223372036854775808 then .error 40 else .ok (vNum (-v.int)))
  else .error 35
def fitK (k : Int) (v : Vl) : Bool := v.kind == k || v.kind == 0
def logicP (or : Bool) (a b : Vl) : Vl :=
  if eqV a (vTru or) || eqV b (vTru or) then vTru or
  else if a.kind == 0 || b.kind == 0 then vNull
  else vTru (!or)
def cmpV (a b : Vl) : Int :=
  if a.kind = 1 ∨ a.kind = 2 then (if a.int < b.int then -1 else if b.int < a.int then 1 else 0)
  else if a.kind = 3 ∨ a.kind = 4 then Lib.compareBytes a.text b.text
  else 0
def holdP (op c : Int) : Bool :=
  if op = 5 then c == 0 else if op = 6 then c != 0 else if op = 7 then decide (c < 0) else if op = 8 then decide (c ≤ 0) else if op = 9 then decide (0 < c) else decide (0 ≤ c)
def numN (n : Int) : Except Int Int := if inI n then .ok n else .error 40
def sumN (op a b : Int) : Except Int Int :=
  if op = 11 then numN (a + b)
  else if op = 12 then numN (a - b)
  else if op = 13 then numN (a * b)
  else if b = 0 then .error 41
  else if op = 15 then .ok (a.tmod b)
  else numN (a.tdiv b)
def sumV (op a b : Int) : Ev := match sumN op a b with
  | .ok n => .ok (vNum n)
  | .error f => .error f
def binP (op : Int) (a b : Vl) : Ev :=
  if op ≤ 4 then (if fitK 1 a && fitK 1 b then .ok (logicP (op == 3) a b) else .error 35)
  else if op ≤ 10 then
    (if a.kind = 0 ∨ b.kind = 0 then .ok vNull
     else if a.kind = b.kind then .ok (vTru (holdP op (cmpV a b))) else .error 35)
  else if op = 16 then
    (if fitK 3 a && fitK 3 b then
      (if a.kind = 0 ∨ b.kind = 0 then .ok vNull
       else if a.text.length + b.text.length ≤ 2048 then .ok (vTxt (a.text ++ b.text)) else .error 8)
     else .error 35)
  else if fitK 2 a && fitK 2 b then (if a.kind = 0 ∨ b.kind = 0 then .ok vNull else sumV op a.int b.int)
  else .error 35
def mapP (from_ to_ : UInt8) (s : List UInt8) : List UInt8 := s.map fun c => if from_.toNat ≤ c.toNat ∧ c.toNat ≤ from_.toNat + 25 then c + (to_ - from_) else c
def cutP (s : List UInt8) (p n : Int) : List UInt8 :=
  if n ≤ 0 ∨ (s.length : Int) < p then []
  else if p < 1 then (if n ≤ 1 - p then [] else s.take (n - (1 - p)).toNat)
  else (s.drop (p - 1).toNat).take n.toNat
def takesP (f : Int) (j : Nat) (k : Int) : Bool := k == 0 || k == (if f = 2 ∨ 0 < j then 2 else 3) || (f == 1 && k == 4)
def takesL (f : Int) : Nat → List Vl → Bool
  | _, [] => true
  | j, v :: r => takesP f j v.kind && takesL f (j + 1) r
def calledV (f : Int) (l : List Vl) : Ev :=
  match f, l with
  | 1, [v] => .ok (vNum v.text.length)
  | 2, [v] => if v.int = -9223372036854775808 then .error 40 else .ok (vNum (if v.int < 0 then -v.int else v.int))
  | 3, [v] => .ok (vTxt (mapP 97 65 v.text))
  | 4, [v] => .ok (vTxt (mapP 65 97 v.text))
  | 5, [a, b, c] => .ok (vTxt (cutP a.text b.int c.int))
  | _, _ => .error 5
def callV (f : Int) (l : List Vl) : Ev := if takesL f 0 l then (if l.any (fun v => v.kind == 0) then .ok vNull else calledV f l) else .error 35
def decP (k o : Int) (v : Vl) : Bool :=
  if k = 4 ∧ o = 4 then eqV v (vTru false) else if k = 4 ∧ o = 3 then eqV v (vTru true) else k == 5 && (o == 6 && v.kind != 0)
inductive EvL where
  | err (f : Int)
  | dec (v : Vl)
  | all (l : List Vl)
def EvL.cons (v : Vl) : EvL → EvL
  | .err f => .err f
  | .dec v => .dec v
  | .all l => .all (v :: l)
def finP (k o : Int) (l : List Vl) : Ev :=
  match l with
  | [a] => if k = 3 then unP o a else if k = 7 then .ok (vTru ((a.kind == 0) == (o == 0))) else callV o [a]
  | [a, b] => if k = 4 then binP o a b else .ok b
  | l => callV o l
def resL (k o : Int) : EvL → Ev
  | .err f => .error f
  | .dec v => .ok v
  | .all l => finP k o l
def lnG (k o : Int) (n : Nat) : Int :=
  if (k = 1 ∨ k = 2) ∧ n = 0 then 9
  else if k = 5 ∧ 1 ≤ o ∧ o ≤ 6 ∧ n = opn o.toNat then 9
  else if k = 6 ∧ 1 ≤ o ∧ o ≤ 4 ∧ (n = 1 ∨ (n = 0 ∧ o = 1)) then 9
  else if k = 3 ∧ o = 2 ∧ n = 1 then 3
  else if k = 3 ∧ o = 1 ∧ n = 1 then 8
  else if k = 7 ∧ (o = 0 ∨ o = 1) ∧ n = 1 then 4
  else if k = 4 ∧ 3 ≤ o ∧ o ≤ 16 ∧ n = 2 then pairLn o.toNat
  else 0
def colV (row : List Vl) (c : Int) : Ev := if c < 0 then .error 2 else match row[c.toNat]? with
  | some v => .ok v
  | none => .error 2
def knownV (known : List (Ex × Vl)) (x : Ex) : Option Vl := (known.find? fun q => sameE q.1 x).map (·.2)
def emptyE (x : Ex) : Bool := lnG x.kind x.op x.args.length == 0 || (x.kind == 2 && x.table == [] && x.name == [])
def oneE (row : List Vl) (x : Ex) (r : EvL) : Ev :=
  if emptyE x then .error 5
  else if x.kind = 1 then .ok x.v
  else if x.kind = 6 then .error 36
  else if x.kind = 2 then colV row x.col
  else resL x.kind x.op r
section
variable (row : List Vl) (known : List (Ex × Vl))
mutual
def evE : Ex → Ev
  | .mk k o v t n c ty a => match knownV known (.mk k o v t n c ty a) with
    | some u => .ok u
    | none => oneE row (.mk k o v t n c ty a) (evL k o true a)
def evL (k o : Int) (first : Bool) : List Ex → EvL
  | [] => .all []
  | x :: xs => match evE x with
    | .error f => .err f
    | .ok v => if first && decP k o v then .dec v else (evL k o false xs).cons v
end
theorem evE_eq (x : Ex) : evE row known x = match knownV known x with
    | some u => .ok u
    | none => oneE row x (evL row known x.kind x.op true x.args) := by
  cases x; rw [evE]; rfl
end

set_option maxRecDepth 100000 in
theorem line_1_0 (a2 a3 a7 a8 : Int) (s4 s5 s6 : ByteArray) (A : Option Addr) (c : Nat) (w : World) (o : Int) :
    Calls Tryz.prog 34 #[.agg #[.int .i64 1, .int .i64 o, .int .i64 a2, .int .i64 a3, .string s4, .string s5, .string s6, .int .i64 a7, .int .i64 a8, .slice A 0 c]] w (LineR 9 w) := by
  go_enter Tryz.func34, Tryz.ntmps34
  go_wp2
  go_ret
  exact ⟨rfl, below_alloc (Below.refl _ w) _⟩
set_option maxRecDepth 100000 in
theorem line_1_n (a2 a3 a7 a8 : Int) (s4 s5 s6 : ByteArray) (A : Option Addr) (c : Nat) (w : World) (o : Int) (n : Nat) (h : ¬ (n : Int) = 0) :
    Calls Tryz.prog 34 #[.agg #[.int .i64 1, .int .i64 o, .int .i64 a2, .int .i64 a3, .string s4, .string s5, .string s6, .int .i64 a7, .int .i64 a8, .slice A n c]] w (LineR 0 w) := by
  go_enter Tryz.func34, Tryz.ntmps34
  go_wp2
  go_ret
  exact ⟨rfl, below_alloc (Below.refl _ w) _⟩
set_option maxRecDepth 100000 in
theorem line_2_0 (a2 a3 a7 a8 : Int) (s4 s5 s6 : ByteArray) (A : Option Addr) (c : Nat) (w : World) (o : Int) :
    Calls Tryz.prog 34 #[.agg #[.int .i64 2, .int .i64 o, .int .i64 a2, .int .i64 a3, .string s4, .string s5, .string s6, .int .i64 a7, .int .i64 a8, .slice A 0 c]] w (LineR 9 w) := by
  go_enter Tryz.func34, Tryz.ntmps34
  go_wp2
  go_ret
  exact ⟨rfl, below_alloc (Below.refl _ w) _⟩
set_option maxRecDepth 100000 in
theorem line_2_n (a2 a3 a7 a8 : Int) (s4 s5 s6 : ByteArray) (A : Option Addr) (c : Nat) (w : World) (o : Int) (n : Nat) (h : ¬ (n : Int) = 0) :
    Calls Tryz.prog 34 #[.agg #[.int .i64 2, .int .i64 o, .int .i64 a2, .int .i64 a3, .string s4, .string s5, .string s6, .int .i64 a7, .int .i64 a8, .slice A n c]] w (LineR 0 w) := by
  go_enter Tryz.func34, Tryz.ntmps34
  go_wp2
  go_ret
  exact ⟨rfl, below_alloc (Below.refl _ w) _⟩
set_option maxRecDepth 100000 in
theorem line_3_2_1 (a2 a3 a7 a8 : Int) (s4 s5 s6 : ByteArray) (A : Option Addr) (c : Nat) (w : World)  :
    Calls Tryz.prog 34 #[.agg #[.int .i64 3, .int .i64 2, .int .i64 a2, .int .i64 a3, .string s4, .string s5, .string s6, .int .i64 a7, .int .i64 a8, .slice A 1 c]] w (LineR 3 w) := by
  go_enter Tryz.func34, Tryz.ntmps34
  go_wp2
  go_ret
  exact ⟨rfl, below_alloc (Below.refl _ w) _⟩
set_option maxRecDepth 100000 in
theorem line_3_2_n (a2 a3 a7 a8 : Int) (s4 s5 s6 : ByteArray) (A : Option Addr) (c : Nat) (w : World) (n : Nat) (h : ¬ (n : Int) = 1) :
    Calls Tryz.prog 34 #[.agg #[.int .i64 3, .int .i64 2, .int .i64 a2, .int .i64 a3, .string s4, .string s5, .string s6, .int .i64 a7, .int .i64 a8, .slice A n c]] w (LineR 0 w) := by
  go_enter Tryz.func34, Tryz.ntmps34
  go_wp2
  go_ret
  exact ⟨rfl, below_alloc (Below.refl _ w) _⟩
set_option maxRecDepth 100000 in
theorem line_3_1_1 (a2 a3 a7 a8 : Int) (s4 s5 s6 : ByteArray) (A : Option Addr) (c : Nat) (w : World)  :
    Calls Tryz.prog 34 #[.agg #[.int .i64 3, .int .i64 1, .int .i64 a2, .int .i64 a3, .string s4, .string s5, .string s6, .int .i64 a7, .int .i64 a8, .slice A 1 c]] w (LineR 8 w) := by
  go_enter Tryz.func34, Tryz.ntmps34
  go_wp2
  go_ret
  exact ⟨rfl, below_alloc (Below.refl _ w) _⟩
set_option maxRecDepth 100000 in
theorem line_3_1_n (a2 a3 a7 a8 : Int) (s4 s5 s6 : ByteArray) (A : Option Addr) (c : Nat) (w : World) (n : Nat) (h : ¬ (n : Int) = 1) :
    Calls Tryz.prog 34 #[.agg #[.int .i64 3, .int .i64 1, .int .i64 a2, .int .i64 a3, .string s4, .string s5, .string s6, .int .i64 a7, .int .i64 a8, .slice A n c]] w (LineR 0 w) := by
  go_enter Tryz.func34, Tryz.ntmps34
  go_wp2
  go_ret
  exact ⟨rfl, below_alloc (Below.refl _ w) _⟩
set_option maxRecDepth 100000 in
theorem line_3_o (a2 a3 a7 a8 : Int) (s4 s5 s6 : ByteArray) (A : Option Addr) (c : Nat) (w : World) (o : Int) (n : Nat) (h : ¬ o = 1) (h' : ¬ o = 2) :
    Calls Tryz.prog 34 #[.agg #[.int .i64 3, .int .i64 o, .int .i64 a2, .int .i64 a3, .string s4, .string s5, .string s6, .int .i64 a7, .int .i64 a8, .slice A n c]] w (LineR 0 w) := by
  go_enter Tryz.func34, Tryz.ntmps34
  go_wp2
  go_ret
  exact ⟨rfl, below_alloc (Below.refl _ w) _⟩
set_option maxRecDepth 100000 in
theorem line_7_0_1 (a2 a3 a7 a8 : Int) (s4 s5 s6 : ByteArray) (A : Option Addr) (c : Nat) (w : World)  :
    Calls Tryz.prog 34 #[.agg #[.int .i64 7, .int .i64 0, .int .i64 a2, .int .i64 a3, .string s4, .string s5, .string s6, .int .i64 a7, .int .i64 a8, .slice A 1 c]] w (LineR 4 w) := by
  go_enter Tryz.func34, Tryz.ntmps34
  go_wp2
  go_ret
  exact ⟨rfl, below_alloc (Below.refl _ w) _⟩
set_option maxRecDepth 100000 in
theorem line_7_0_n (a2 a3 a7 a8 : Int) (s4 s5 s6 : ByteArray) (A : Option Addr) (c : Nat) (w : World) (n : Nat) (h : ¬ (n : Int) = 1) :
    Calls Tryz.prog 34 #[.agg #[.int .i64 7, .int .i64 0, .int .i64 a2, .int .i64 a3, .string s4, .string s5, .string s6, .int .i64 a7, .int .i64 a8, .slice A n c]] w (LineR 0 w) := by
  go_enter Tryz.func34, Tryz.ntmps34
  go_wp2
  go_ret
  exact ⟨rfl, below_alloc (Below.refl _ w) _⟩
set_option maxRecDepth 100000 in
theorem line_7_1_1 (a2 a3 a7 a8 : Int) (s4 s5 s6 : ByteArray) (A : Option Addr) (c : Nat) (w : World)  :
    Calls Tryz.prog 34 #[.agg #[.int .i64 7, .int .i64 1, .int .i64 a2, .int .i64 a3, .string s4, .string s5, .string s6, .int .i64 a7, .int .i64 a8, .slice A 1 c]] w (LineR 4 w) := by
  go_enter Tryz.func34, Tryz.ntmps34
  go_wp2
  go_ret
  exact ⟨rfl, below_alloc (Below.refl _ w) _⟩
set_option maxRecDepth 100000 in
theorem line_7_1_n (a2 a3 a7 a8 : Int) (s4 s5 s6 : ByteArray) (A : Option Addr) (c : Nat) (w : World) (n : Nat) (h : ¬ (n : Int) = 1) :
    Calls Tryz.prog 34 #[.agg #[.int .i64 7, .int .i64 1, .int .i64 a2, .int .i64 a3, .string s4, .string s5, .string s6, .int .i64 a7, .int .i64 a8, .slice A n c]] w (LineR 0 w) := by
  go_enter Tryz.func34, Tryz.ntmps34
  go_wp2
  go_ret
  exact ⟨rfl, below_alloc (Below.refl _ w) _⟩
set_option maxRecDepth 100000 in
theorem line_7_o (a2 a3 a7 a8 : Int) (s4 s5 s6 : ByteArray) (A : Option Addr) (c : Nat) (w : World) (o : Int) (n : Nat) (h : ¬ o = 0) (h' : ¬ o = 1) :
    Calls Tryz.prog 34 #[.agg #[.int .i64 7, .int .i64 o, .int .i64 a2, .int .i64 a3, .string s4, .string s5, .string s6, .int .i64 a7, .int .i64 a8, .slice A n c]] w (LineR 0 w) := by
  go_enter Tryz.func34, Tryz.ntmps34
  go_wp2
  go_ret
  exact ⟨rfl, below_alloc (Below.refl _ w) _⟩
set_option maxRecDepth 100000 in
theorem line_6_lo (a2 a3 a7 a8 : Int) (s4 s5 s6 : ByteArray) (A : Option Addr) (c : Nat) (w : World) (o : Int) (n : Nat) (h : ¬ 1 ≤ o) :
    Calls Tryz.prog 34 #[.agg #[.int .i64 6, .int .i64 o, .int .i64 a2, .int .i64 a3, .string s4, .string s5, .string s6, .int .i64 a7, .int .i64 a8, .slice A n c]] w (LineR 0 w) := by
  go_enter Tryz.func34, Tryz.ntmps34
  go_wp2
  go_ret
  exact ⟨rfl, below_alloc (Below.refl _ w) _⟩
set_option maxRecDepth 100000 in
theorem line_6_hi (a2 a3 a7 a8 : Int) (s4 s5 s6 : ByteArray) (A : Option Addr) (c : Nat) (w : World) (o : Int) (n : Nat) (h : ¬ o ≤ 4) :
    Calls Tryz.prog 34 #[.agg #[.int .i64 6, .int .i64 o, .int .i64 a2, .int .i64 a3, .string s4, .string s5, .string s6, .int .i64 a7, .int .i64 a8, .slice A n c]] w (LineR 0 w) := by
  have h1 : 1 ≤ o := by omega
  go_enter Tryz.func34, Tryz.ntmps34
  go_wp2
  go_ret
  exact ⟨rfl, below_alloc (Below.refl _ w) _⟩
set_option maxRecDepth 100000 in
theorem line_6_1 (a2 a3 a7 a8 : Int) (s4 s5 s6 : ByteArray) (A : Option Addr) (c : Nat) (w : World) (o : Int) (h : 1 ≤ o) (h' : o ≤ 4) :
    Calls Tryz.prog 34 #[.agg #[.int .i64 6, .int .i64 o, .int .i64 a2, .int .i64 a3, .string s4, .string s5, .string s6, .int .i64 a7, .int .i64 a8, .slice A 1 c]] w (LineR 9 w) := by
  go_enter Tryz.func34, Tryz.ntmps34
  go_wp2
  go_ret
  exact ⟨rfl, below_alloc (Below.refl _ w) _⟩
set_option maxRecDepth 100000 in
theorem line_6_1_0 (a2 a3 a7 a8 : Int) (s4 s5 s6 : ByteArray) (A : Option Addr) (c : Nat) (w : World)  :
    Calls Tryz.prog 34 #[.agg #[.int .i64 6, .int .i64 1, .int .i64 a2, .int .i64 a3, .string s4, .string s5, .string s6, .int .i64 a7, .int .i64 a8, .slice A 0 c]] w (LineR 9 w) := by
  go_enter Tryz.func34, Tryz.ntmps34
  go_wp2
  go_ret
  exact ⟨rfl, below_alloc (Below.refl _ w) _⟩
set_option maxRecDepth 100000 in
theorem line_6_0 (a2 a3 a7 a8 : Int) (s4 s5 s6 : ByteArray) (A : Option Addr) (c : Nat) (w : World) (o : Int) (h : 1 ≤ o) (h' : o ≤ 4) (h1 : ¬ o = 1) :
    Calls Tryz.prog 34 #[.agg #[.int .i64 6, .int .i64 o, .int .i64 a2, .int .i64 a3, .string s4, .string s5, .string s6, .int .i64 a7, .int .i64 a8, .slice A 0 c]] w (LineR 0 w) := by
  go_enter Tryz.func34, Tryz.ntmps34
  go_wp2
  go_ret
  exact ⟨rfl, below_alloc (Below.refl _ w) _⟩
set_option maxRecDepth 100000 in
theorem line_6_n (a2 a3 a7 a8 : Int) (s4 s5 s6 : ByteArray) (A : Option Addr) (c : Nat) (w : World) (o : Int) (n : Nat) (h : 1 ≤ o) (h' : o ≤ 4) (h1 : ¬ (n : Int) = 1) (h0 : ¬ (n : Int) = 0) :
    Calls Tryz.prog 34 #[.agg #[.int .i64 6, .int .i64 o, .int .i64 a2, .int .i64 a3, .string s4, .string s5, .string s6, .int .i64 a7, .int .i64 a8, .slice A n c]] w (LineR 0 w) := by
  go_enter Tryz.func34, Tryz.ntmps34
  go_wp2
  go_ret
  exact ⟨rfl, below_alloc (Below.refl _ w) _⟩
set_option maxRecDepth 100000 in
theorem line_5_lo (a2 a3 a7 a8 : Int) (s4 s5 s6 : ByteArray) (A : Option Addr) (c : Nat) (w : World) (o : Int) (n : Nat) (h : ¬ 1 ≤ o) :
    Calls Tryz.prog 34 #[.agg #[.int .i64 5, .int .i64 o, .int .i64 a2, .int .i64 a3, .string s4, .string s5, .string s6, .int .i64 a7, .int .i64 a8, .slice A n c]] w (LineR 0 w) := by
  go_enter Tryz.func34, Tryz.ntmps34
  go_wp2
  go_ret
  exact ⟨rfl, below_alloc (Below.refl _ w) _⟩
set_option maxRecDepth 100000 in
theorem line_5_hi (a2 a3 a7 a8 : Int) (s4 s5 s6 : ByteArray) (A : Option Addr) (c : Nat) (w : World) (o : Int) (n : Nat) (h : ¬ o ≤ 6) :
    Calls Tryz.prog 34 #[.agg #[.int .i64 5, .int .i64 o, .int .i64 a2, .int .i64 a3, .string s4, .string s5, .string s6, .int .i64 a7, .int .i64 a8, .slice A n c]] w (LineR 0 w) := by
  have h1 : 1 ≤ o := by omega
  go_enter Tryz.func34, Tryz.ntmps34
  go_wp2
  go_ret
  exact ⟨rfl, below_alloc (Below.refl _ w) _⟩
set_option maxRecDepth 100000 in
theorem line_5_yes (a2 a3 a7 a8 : Int) (s4 s5 s6 : ByteArray) (A : Option Addr) (c : Nat) (w : World) (k n : Nat) (h : 1 ≤ k) (h' : k ≤ 6) (hn : n = opn k) :
    Calls Tryz.prog 34 #[.agg #[.int .i64 5, .int .i64 (k : Nat), .int .i64 a2, .int .i64 a3, .string s4, .string s5, .string s6, .int .i64 a7, .int .i64 a8, .slice A n c]] w (LineR 9 w) := by
  have h1 : (1 : Int) ≤ (k : Int) := by omega
  have h2 : (k : Int) ≤ 6 := by omega
  have HO := Asd.mk (operands_calls k)
  clear h h'
  subst hn
  generalize opn k = m at *
  go_enter Tryz.func34, Tryz.ntmps34
  go_wp2_with fail
  refine (HO.out _).mono ?_
  rintro e w2 ⟨rfl, rfl⟩
  go_wp2
  go_ret
  exact ⟨rfl, below_alloc (Below.refl _ w) _⟩
set_option maxRecDepth 100000 in
theorem line_5_no (a2 a3 a7 a8 : Int) (s4 s5 s6 : ByteArray) (A : Option Addr) (c : Nat) (w : World) (k n : Nat) (h : 1 ≤ k) (h' : k ≤ 6) (hn : ¬ (n : Int) = (opn k : Int)) :
    Calls Tryz.prog 34 #[.agg #[.int .i64 5, .int .i64 (k : Nat), .int .i64 a2, .int .i64 a3, .string s4, .string s5, .string s6, .int .i64 a7, .int .i64 a8, .slice A n c]] w (LineR 0 w) := by
  have h1 : (1 : Int) ≤ (k : Int) := by omega
  have h2 : (k : Int) ≤ 6 := by omega
  have HO := Asd.mk (operands_calls k)
  clear h h'
  generalize opn k = m at *
  go_enter Tryz.func34, Tryz.ntmps34
  go_wp2_with fail
  refine (HO.out _).mono ?_
  rintro e w2 ⟨rfl, rfl⟩
  go_wp2
  go_ret
  exact ⟨rfl, below_alloc (Below.refl _ w) _⟩
set_option maxRecDepth 100000 in
theorem line_4_lo (a2 a3 a7 a8 : Int) (s4 s5 s6 : ByteArray) (A : Option Addr) (c : Nat) (w : World) (o : Int) (n : Nat) (h : ¬ 3 ≤ o) :
    Calls Tryz.prog 34 #[.agg #[.int .i64 4, .int .i64 o, .int .i64 a2, .int .i64 a3, .string s4, .string s5, .string s6, .int .i64 a7, .int .i64 a8, .slice A n c]] w (LineR 0 w) := by
  go_enter Tryz.func34, Tryz.ntmps34
  go_wp2
  go_ret
  exact ⟨rfl, below_alloc (Below.refl _ w) _⟩
set_option maxRecDepth 100000 in
theorem line_4_hi (a2 a3 a7 a8 : Int) (s4 s5 s6 : ByteArray) (A : Option Addr) (c : Nat) (w : World) (o : Int) (n : Nat) (h : ¬ o ≤ 16) :
    Calls Tryz.prog 34 #[.agg #[.int .i64 4, .int .i64 o, .int .i64 a2, .int .i64 a3, .string s4, .string s5, .string s6, .int .i64 a7, .int .i64 a8, .slice A n c]] w (LineR 0 w) := by
  have h1 : 3 ≤ o := by omega
  go_enter Tryz.func34, Tryz.ntmps34
  go_wp2
  go_ret
  exact ⟨rfl, below_alloc (Below.refl _ w) _⟩
set_option maxRecDepth 100000 in
theorem line_4_n (a2 a3 a7 a8 : Int) (s4 s5 s6 : ByteArray) (A : Option Addr) (c : Nat) (w : World) (o : Int) (n : Nat) (h : 3 ≤ o) (h' : o ≤ 16) (hn : ¬ (n : Int) = 2) :
    Calls Tryz.prog 34 #[.agg #[.int .i64 4, .int .i64 o, .int .i64 a2, .int .i64 a3, .string s4, .string s5, .string s6, .int .i64 a7, .int .i64 a8, .slice A n c]] w (LineR 0 w) := by
  go_enter Tryz.func34, Tryz.ntmps34
  go_wp2
  go_ret
  exact ⟨rfl, below_alloc (Below.refl _ w) _⟩
set_option maxRecDepth 100000 in
theorem line_4_2 (a2 a3 a7 a8 : Int) (s4 s5 s6 : ByteArray) (A : Option Addr) (c : Nat) (w : World) (k : Nat) (h : 3 ≤ k) (h' : k ≤ 16) :
    Calls Tryz.prog 34 #[.agg #[.int .i64 4, .int .i64 (k : Nat), .int .i64 a2, .int .i64 a3, .string s4, .string s5, .string s6, .int .i64 a7, .int .i64 a8, .slice A 2 c]] w (LineR (pairLn k) w) := by
  have hix := line_index k h h'
  have h1 : (3 : Int) ≤ (k : Int) := by omega
  have h2 : (k : Int) ≤ 16 := by omega
  clear h h'
  go_enter Tryz.func34, Tryz.ntmps34
  go_wp2
  go_ret
  exact ⟨rfl, below_alloc (Below.refl _ w) _⟩
set_option maxRecDepth 100000 in
theorem line_k (a2 a3 a7 a8 : Int) (s4 s5 s6 : ByteArray) (A : Option Addr) (c : Nat) (w : World) (k o : Int) (n : Nat) (h1 : ¬ k = 1) (h2 : ¬ k = 2) (h3 : ¬ k = 3) (h4 : ¬ k = 4) (h5 : ¬ k = 5) (h6 : ¬ k = 6) (h7 : ¬ k = 7) :
    Calls Tryz.prog 34 #[.agg #[.int .i64 k, .int .i64 o, .int .i64 a2, .int .i64 a3, .string s4, .string s5, .string s6, .int .i64 a7, .int .i64 a8, .slice A n c]] w (LineR 0 w) := by
  go_enter Tryz.func34, Tryz.ntmps34
  go_wp2
  go_ret
  exact ⟨rfl, below_alloc (Below.refl _ w) _⟩
theorem line_any (a2 a3 a7 a8 : Int) (s4 s5 s6 : ByteArray) (A : Option Addr) (c : Nat) (w : World) (k o : Int) (n : Nat) :
    Calls Tryz.prog 34 #[.agg #[.int .i64 k, .int .i64 o, .int .i64 a2, .int .i64 a3, .string s4, .string s5, .string s6, .int .i64 a7, .int .i64 a8, .slice A n c]] w (LineR (lnG k o n) w) := by
  have cast : ∀ m : Nat, ¬ n = m → ¬ (n : Int) = (m : Int) := fun m h h' => h (by omega)
  by_cases h1 : k = 1
  · subst h1
    by_cases hn : n = 0
    · subst hn; rw [show lnG 1 o 0 = 9 by simp [lnG]]; exact line_1_0 a2 a3 a7 a8 s4 s5 s6 A c w o
    · rw [show lnG 1 o n = 0 by simp [lnG, hn]]; exact line_1_n a2 a3 a7 a8 s4 s5 s6 A c w o n (cast 0 hn)
  by_cases h2 : k = 2
  · subst h2
    by_cases hn : n = 0
    · subst hn; rw [show lnG 2 o 0 = 9 by simp [lnG]]; exact line_2_0 a2 a3 a7 a8 s4 s5 s6 A c w o
    · rw [show lnG 2 o n = 0 by simp [lnG, hn]]; exact line_2_n a2 a3 a7 a8 s4 s5 s6 A c w o n (cast 0 hn)
  by_cases h3 : k = 3
  · subst h3
    by_cases o1 : o = 1
    · subst o1
      by_cases hn : n = 1
      · subst hn; rw [show lnG 3 1 1 = 8 by simp [lnG]]; exact line_3_1_1 a2 a3 a7 a8 s4 s5 s6 A c w
      · rw [show lnG 3 1 n = 0 by simp [lnG, hn]]; exact line_3_1_n a2 a3 a7 a8 s4 s5 s6 A c w n (cast 1 hn)
    by_cases o2 : o = 2
    · subst o2
      by_cases hn : n = 1
      · subst hn; rw [show lnG 3 2 1 = 3 by simp [lnG]]; exact line_3_2_1 a2 a3 a7 a8 s4 s5 s6 A c w
      · rw [show lnG 3 2 n = 0 by simp [lnG, hn]]; exact line_3_2_n a2 a3 a7 a8 s4 s5 s6 A c w n (cast 1 hn)
    rw [show lnG 3 o n = 0 by simp [lnG, o1, o2]]; exact line_3_o a2 a3 a7 a8 s4 s5 s6 A c w o n o1 o2
  by_cases h7 : k = 7
  · subst h7
    by_cases o0 : o = 0
    · subst o0
      by_cases hn : n = 1
      · subst hn; rw [show lnG 7 0 1 = 4 by simp [lnG]]; exact line_7_0_1 a2 a3 a7 a8 s4 s5 s6 A c w
      · rw [show lnG 7 0 n = 0 by simp [lnG, hn]]; exact line_7_0_n a2 a3 a7 a8 s4 s5 s6 A c w n (cast 1 hn)
    by_cases o1 : o = 1
    · subst o1
      by_cases hn : n = 1
      · subst hn; rw [show lnG 7 1 1 = 4 by simp [lnG]]; exact line_7_1_1 a2 a3 a7 a8 s4 s5 s6 A c w
      · rw [show lnG 7 1 n = 0 by simp [lnG, hn]]; exact line_7_1_n a2 a3 a7 a8 s4 s5 s6 A c w n (cast 1 hn)
    rw [show lnG 7 o n = 0 by simp [lnG, o0, o1]]; exact line_7_o a2 a3 a7 a8 s4 s5 s6 A c w o n o0 o1
  by_cases h6 : k = 6
  · subst h6
    by_cases ol : 1 ≤ o
    · by_cases oh : o ≤ 4
      · by_cases hn : n = 1
        · subst hn; rw [show lnG 6 o 1 = 9 by simp [lnG, ol, oh]]; exact line_6_1 a2 a3 a7 a8 s4 s5 s6 A c w o ol oh
        by_cases hn0 : n = 0
        · subst hn0
          by_cases o1 : o = 1
          · subst o1; rw [show lnG 6 1 0 = 9 by simp [lnG]]; exact line_6_1_0 a2 a3 a7 a8 s4 s5 s6 A c w
          · rw [show lnG 6 o 0 = 0 by simp [lnG, ol, oh, o1]]; exact line_6_0 a2 a3 a7 a8 s4 s5 s6 A c w o ol oh o1
        · rw [show lnG 6 o n = 0 by simp [lnG, ol, oh, hn, hn0]]; exact line_6_n a2 a3 a7 a8 s4 s5 s6 A c w o n ol oh (cast 1 hn) (cast 0 hn0)
      · rw [show lnG 6 o n = 0 by simp [lnG, oh]]; exact line_6_hi a2 a3 a7 a8 s4 s5 s6 A c w o n oh
    · rw [show lnG 6 o n = 0 by simp [lnG, ol]]; exact line_6_lo a2 a3 a7 a8 s4 s5 s6 A c w o n ol
  by_cases h5 : k = 5
  · subst h5
    by_cases ol : 1 ≤ o
    · by_cases oh : o ≤ 6
      · obtain ⟨p, rfl⟩ := Int.eq_ofNat_of_zero_le (show 0 ≤ o by omega)
        by_cases hn : n = opn p
        · rw [show lnG 5 (p : Int) n = 9 by simp [lnG, ol, oh, hn]]; exact line_5_yes a2 a3 a7 a8 s4 s5 s6 A c w p n (by omega) (by omega) hn
        · rw [show lnG 5 (p : Int) n = 0 by simp [lnG, ol, oh, hn]]; exact line_5_no a2 a3 a7 a8 s4 s5 s6 A c w p n (by omega) (by omega) (cast _ hn)
      · rw [show lnG 5 o n = 0 by simp [lnG, oh]]; exact line_5_hi a2 a3 a7 a8 s4 s5 s6 A c w o n oh
    · rw [show lnG 5 o n = 0 by simp [lnG, ol]]; exact line_5_lo a2 a3 a7 a8 s4 s5 s6 A c w o n ol
  by_cases h4 : k = 4
  · subst h4
    by_cases ol : 3 ≤ o
    · by_cases oh : o ≤ 16
      · obtain ⟨p, rfl⟩ := Int.eq_ofNat_of_zero_le (show 0 ≤ o by omega)
        by_cases hn : n = 2
        · subst hn; rw [show lnG 4 (p : Int) 2 = pairLn p by simp [lnG, ol, oh]]; exact line_4_2 a2 a3 a7 a8 s4 s5 s6 A c w p (by omega) (by omega)
        · rw [show lnG 4 (p : Int) n = 0 by simp [lnG, ol, oh, hn]]; exact line_4_n a2 a3 a7 a8 s4 s5 s6 A c w p n ol oh (cast 2 hn)
      · rw [show lnG 4 o n = 0 by simp [lnG, oh]]; exact line_4_hi a2 a3 a7 a8 s4 s5 s6 A c w o n oh
    · rw [show lnG 4 o n = 0 by simp [lnG, ol]]; exact line_4_lo a2 a3 a7 a8 s4 s5 s6 A c w o n ol
  rw [show lnG k o n = 0 by simp [lnG, h1, h2, h3, h4, h5, h6, h7]]
  exact line_k a2 a3 a7 a8 s4 s5 s6 A c w k o n h1 h2 h3 h4 h5 h6 h7

def vC (v : Vl) : Value := .agg #[.int .i64 v.kind, .int .i64 v.int, .string ⟨v.text.toArray⟩]
abbrev vK (v : Vl) : Obj := .cells #[.int .i64 v.kind, .int .i64 v.int, .string ⟨v.text.toArray⟩] 23 (0, 0)
abbrev errP (n : Int) : Ending := .panicked [{ v := .iface 32 (.int .i64 n), recovered := false }]
def EvR (r : Ev) (w : World) (e : Ending) (w' : World) : Prop := Below w.heap.size w w' ∧ match r with
  | .ok v => e = .returned (vC v)
  | .error n => e = errP n
def Ev2 (r : Ev) (w : World) (e : Ending) (w' : World) : Prop := Below w.heap.size w w' ∧ e = match r with
  | .ok v => .returned (.tuple #[vC v, .int .i64 0])
  | .error n => .returned (.tuple #[vC vNull, .int .i64 n])

theorem check_ok (n : Int) (w : World) : Calls Tryz.prog 38 #[.bool true, .int .i64 n] w fun e w' => e = .returned (.tuple #[]) ∧ w' = w := by
  go_enter Tryz.func38, Tryz.ntmps38
  go_wp2
  first | refine bodyPost_ret (results_none rfl _ _ _) rfl ?_ | refine bodyPost_end (results_none rfl _ _ _) rfl ?_
  exact ⟨rfl, rfl⟩
theorem check_no (n : Int) (w : World) : Calls Tryz.prog 38 #[.bool false, .int .i64 n] w fun e w' => e = errP n ∧ w' = w := by
  go_enter Tryz.func38, Tryz.ntmps38
  go_wp2
  exact ⟨rfl, rfl, rfl⟩
theorem val_ret {F : Func} {p : Tmp} {Q : Ending → World → Prop} {a : Act} {w : World} (hr : F.results = #[.cell p 23]) (g : Nat) (c0 c1 c2 : Value)
    (hp : a.tmps.getD p undef = .pointer (some ⟨g, 0, none⟩)) (hg : w.heap[g]? = some (.cells #[c0, c1, c2] 23 (0, 0))) (hd : a.defers = []) (h : Q (.returned (.agg #[c0, c1, c2])) w) : bodyPost Tryz.prog F Q .ret a w :=
  bodyPost_ret (results_cell_row hr _ _ g 23 #[c0, c1, c2] (0, 0) _ hp hg Tryz.underlying23 rfl (by kernel_rfl)) hd h
theorem load_val {w : World} {g : Nat} {c0 c1 c2 : Value} (hg : w.heap[g]? = some (.cells #[c0, c1, c2] 23 (0, 0))) : (loadVar 23 ⟨g, 0, none⟩).run Tryz.prog w = .ok (.agg #[c0, c1, c2]) w :=
  run_loadVar_row w g 23 23 #[c0, c1, c2] (0, 0) _ hg Tryz.underlying23 rfl (by kernel_rfl)
theorem results_val {fn : Func} {p u : Tmp} (h : fn.results = #[.cell p 23, .tmp u]) (tmps : Array Value) (w : World) (g : Nat) (c0 c1 c2 : Value)
    (hp : tmps.getD p undef = .pointer (some ⟨g, 0, none⟩)) (hg : w.heap[g]? = some (.cells #[c0, c1, c2] 23 (0, 0))) :
    (results fn tmps).run Tryz.prog w = .ok (.tuple #[.agg #[c0, c1, c2], tmps.getD u undef]) w := by
  rw [results_cell_tmp h, hp]
  simp [asAddr, load_val hg, Result.andThen]
theorem val_ret2 {F : Func} {p u : Tmp} {Q : Ending → World → Prop} {a : Act} {w : World} (hr : F.results = #[.cell p 23, .tmp u]) (g : Nat) (c0 c1 c2 : Value)
    (hp : a.tmps.getD p undef = .pointer (some ⟨g, 0, none⟩)) (hg : w.heap[g]? = some (.cells #[c0, c1, c2] 23 (0, 0))) (hd : a.defers = []) (h : Q (.returned (.tuple #[.agg #[c0, c1, c2], a.tmps.getD u undef])) w) : bodyPost Tryz.prog F Q .ret a w :=
  bodyPost_ret (results_val hr _ _ g c0 c1 c2 hp hg) hd h
set_option maxRecDepth 100000 in
theorem truth_calls (b : Bool) (w : World) : Calls Tryz.prog 39 #[.bool b] w fun e w' => e = .returned (vC (vTru b)) ∧ Below w.heap.size w w' := by
  cases b
  · go_enter Tryz.func39, Tryz.ntmps39
    go_wp2
    refine val_ret rfl w.heap.size _ _ _ rfl (blk_alloc (blk_new w _) _) rfl ?_
    exact ⟨rfl, below_alloc (below_alloc (Below.refl _ _) _) _⟩
  · go_enter Tryz.func39, Tryz.ntmps39
    go_wp2
    refine val_ret rfl w.heap.size _ _ _ rfl (blk_alloc (blk_new w _) _) rfl ?_
    exact ⟨rfl, below_alloc (below_alloc (Below.refl _ _) _) _⟩
set_option maxRecDepth 100000 in
theorem etruth_calls (b : Bool) (w : World) : Calls Tryz.prog 23 #[.bool b] w fun e w' => e = .returned (vC (vTru b)) ∧ Below w.heap.size w w' := by
  cases b
  · go_enter Tryz.func23, Tryz.ntmps23
    go_wp2
    refine val_ret rfl w.heap.size _ _ _ rfl (blk_alloc (blk_new w _) _) rfl ?_
    exact ⟨rfl, below_alloc (below_alloc (Below.refl _ _) _) _⟩
  · go_enter Tryz.func23, Tryz.ntmps23
    go_wp2
    refine val_ret rfl w.heap.size _ _ _ rfl (blk_alloc (blk_new w _) _) rfl ?_
    exact ⟨rfl, below_alloc (below_alloc (Below.refl _ _) _) _⟩
theorem number_calls (n : Int) (w : World) : Calls Tryz.prog 40 #[.int .i64 n] w fun e w' => e = .returned (vC (vNum n)) ∧ Below w.heap.size w w' := by
  go_enter Tryz.func40, Tryz.ntmps40
  go_wp2
  refine val_ret rfl w.heap.size _ _ _ rfl (blk_new w _) rfl ?_
  exact ⟨rfl, below_alloc (Below.refl _ _) _⟩
theorem text_calls (s : List UInt8) (w : World) : Calls Tryz.prog 46 #[.string ⟨s.toArray⟩] w fun e w' => e = .returned (vC (vTxt s)) ∧ Below w.heap.size w w' := by
  go_enter Tryz.func46, Tryz.ntmps46
  go_wp2
  refine val_ret rfl w.heap.size _ _ _ rfl (blk_new w _) rfl ?_
  exact ⟨rfl, below_alloc (Below.refl _ _) _⟩

theorem as_errno (n : Int) (w : World) : (Instr.typeAssert (.iface 32 (.int .i64 n)) 20 32 true).run Tryz.prog w = .ok (.tuple #[.int .i64 n, .bool true]) w := by
  kernel_rfl
theorem put3_blk {W : World} {b : Nat} {T : TypeId} {fr : Nat × Nat} {c0 c1 c2 : Value} (h : W.heap[b]? = some (.cells #[c0, c1, c2] T fr)) (v0 v1 v2 : Value) : (((W.setCell ⟨b, 0, none⟩ v0).setCell ⟨b, 1, none⟩ v1).setCell ⟨b, 2, none⟩ v2).heap[b]? = some (.cells #[v0, v1, v2] T fr) := by
  have := setCells_heap [v0, v1, v2] 0 h
  have e : putCells #[c0, c1, c2] 0 [v0, v1, v2] = #[v0, v1, v2] := by simp [putCells]
  rw [e] at this
  exact this
theorem put3_fr {W : World} {b : Nat} {S : Nat → Prop} (hb : S b) (v0 v1 v2 : Value) : Fr S W (((W.setCell ⟨b, 0, none⟩ v0).setCell ⟨b, 1, none⟩ v1).setCell ⟨b, 2, none⟩ v2) :=
  Fr.setCell (p := ⟨b, 2, none⟩) (Fr.setCell (p := ⟨b, 1, none⟩) (Fr.setCell (p := ⟨b, 0, none⟩) (Fr.refl S W) hb v0) hb v1) hb v2
set_option maxRecDepth 100000 in
theorem catch_errno (p q : Nat) (n : Int) (v0 v1 v2 u0 : Value) (w : World) (hp : w.heap[p]? = some (.cells #[v0, v1, v2] 23 (0, 0))) (hq : w.heap[q]? = some (.cells #[u0] 32 (0, 0))) (hpq : p ≠ q) :
    CallsD Tryz.prog 61 #[.pointer (some ⟨p, 0, none⟩), .pointer (some ⟨q, 0, none⟩)] (.panicking ({ v := .iface 32 (.int .i64 n), recovered := false } :: [])) w fun e u' w' =>
      e = .returned (.tuple #[]) ∧ u' = .panicking ({ v := .iface 32 (.int .i64 n), recovered := true } :: []) ∧ Fr (fun k => k = p ∨ k = q) w w' ∧ w'.heap[p]? = some (.cells #[.int .i64 0, .int .i64 0, .string ⟨#[]⟩] 23 (0, 0)) ∧ w'.heap[q]? = some (.cells #[.int .i64 n] 32 (0, 0)) := by
  have p0 := (blk_cell hp 0).trans rfl
  have p1 := (blk_cell hp 1).trans rfl
  have p2 := (blk_cell hp 2).trans rfl
  have z0 := blk_frozen hp 0
  have z1 := blk_frozen hp 1
  have z2 := blk_frozen hp 2
  have q0 := (blk_cell hq 0).trans rfl
  have f0 := blk_frozen hq 0
  have HP := Asd.mk hp
  have HQ := Asd.mk hq
  clear hp hq
  refine callsD_of_wpS Tryz.func61 rfl fun c₀ cs hu => ?_
  apply wpS_seq
  apply wpS_region
  simp [wpOpsS, go_sem, recoverD, hu, Tryz.ntmps61, Exit.thenS]
  refine wpS_of_wp ?_
  simp only [Array.replicate_succ, Array.replicate_zero, List.push_toArray, List.append_toArray, List.nil_append, List.cons_append, List.setIfInBounds_toArray, List.set_cons_zero, List.set_cons_succ]
  have hta := as_errno n
  go_wp2
  have k1 := put3_blk HP.out (.int .i64 0) (.int .i64 0) (.string ⟨#[]⟩)
  have k2 := blk_far k1 (p := ⟨q, 0, none⟩) hpq (.int .i64 n)
  have hpf := put3_fr (W := w) (b := p) (S := fun k => k = p) rfl (.int .i64 0) (.int .i64 0) (.string ⟨#[]⟩)
  have j1 := blk_set (blk_fr HQ.out hpf (by show ¬ q = p; exact Ne.symm hpq)) 0 (.int .i64 n)
  have hfr : Fr (fun k => k = p ∨ k = q) w _ := Fr.setCell (S := fun k => k = p ∨ k = q) (hpf.mono (fun k hk _ => .inl hk)) (p := ⟨q, 0, none⟩) (.inr rfl) (.int .i64 n)
  simp only [bodyPostS]
  exact ⟨trivial, _, rfl, _, results_none rfl _ _ _, rfl, rfl, hfr, k2, by simpa using j1⟩
set_option maxRecDepth 100000 in
theorem catch_nothing (p q : Nat) (w : World) :
    CallsD Tryz.prog 61 #[.pointer (some ⟨p, 0, none⟩), .pointer (some ⟨q, 0, none⟩)] .returning w fun e u' w' => e = .returned (.tuple #[]) ∧ u' = .returning ∧ w' = w := by
  refine callsD_of_wpS Tryz.func61 rfl fun c₀ cs hu => ?_
  apply wpS_seq
  apply wpS_region
  simp [wpOpsS, go_sem, recoverD, hu, Tryz.ntmps61, Exit.thenS]
  refine wpS_of_wp ?_
  simp only [Array.replicate_succ, Array.replicate_zero, List.push_toArray, List.append_toArray, List.nil_append, List.cons_append, List.setIfInBounds_toArray, List.set_cons_zero, List.set_cons_succ]
  go_wp2
  simp only [bodyPostS]
  refine ⟨trivial, .returning, ?_, _, results_none rfl _ _ _, rfl, rfl, trivial⟩
  cases c₀
  simp_all

set_option maxRecDepth 100000 in
theorem caught_calls (F : FuncId) (cap : Array Value) (r : Ev) (w : World) (hgo : IsGo F) (h : ∀ W, Below w.heap.size w W → Calls Tryz.prog F cap W (EvR r W)) :
    Calls Tryz.prog 36 #[.func (.func F) #[] cap] w (Ev2 r w) := by
  have hmf := mk_func
  have hcf := hgo
  have HC := Asd.mk h
  have HB : Asd (Below w.heap.size w ((w.alloc (.cells #[.int .i64 0, .int .i64 0, .string ⟨#[]⟩] 23 (0, 0))).alloc (.cells #[.int .i64 0] 32 (0, 0)))) := Asd.mk (below_alloc (below_alloc (Below.refl _ _) _) _)
  have HP : Asd (((w.alloc (.cells #[.int .i64 0, .int .i64 0, .string ⟨#[]⟩] 23 (0, 0))).alloc (.cells #[.int .i64 0] 32 (0, 0))).heap[w.heap.size]? = some (.cells #[.int .i64 0, .int .i64 0, .string ⟨#[]⟩] 23 (0, 0))) := Asd.mk (blk_alloc (blk_new w _) _)
  have HQ : Asd (((w.alloc (.cells #[.int .i64 0, .int .i64 0, .string ⟨#[]⟩] 23 (0, 0))).alloc (.cells #[.int .i64 0] 32 (0, 0))).heap[w.heap.size + 1]? = some (.cells #[.int .i64 0] 32 (0, 0))) := Asd.mk (nb1 w _ _)
  have HSZ : Asd (((w.alloc (.cells #[.int .i64 0, .int .i64 0, .string ⟨#[]⟩] 23 (0, 0))).alloc (.cells #[.int .i64 0] 32 (0, 0))).heap.size = w.heap.size + 1 + 1) := Asd.mk (by simp)
  clear h hgo
  unfold IsGo at hcf
  go_enter_defers Tryz.func36, Tryz.ntmps36
  go_wp2_with fail
  generalize ((w.alloc (.cells #[.int .i64 0, .int .i64 0, .string ⟨#[]⟩] 23 (0, 0))).alloc (.cells #[.int .i64 0] 32 (0, 0))) = w0 at HB HP HQ HSZ ⊢
  refine (HC.out _ HB.out).mono ?_
  rintro e w2 ⟨hb2, hm⟩
  have HP2 := Asd.mk (blk_below hb2 HP.out)
  have HQ2 := Asd.mk (blk_below hb2 HQ.out)
  have HB2 : Asd (Below w.heap.size w w2) := Asd.mk (HB.out.trans (hb2.mono HB.out.size))
  clear hb2 HC
  cases r with
  | error n =>
    simp only at hm
    obtain rfl := hm
    go_wp2_with fail
    refine leaves_cons (f := 61) (args := #[.pointer (some ⟨w.heap.size, 0, none⟩), .pointer (some ⟨w.heap.size + 1, 0, none⟩)]) (by simp) (by simp [go_sem]) ?_
    refine (catch_errno w.heap.size (w.heap.size + 1) n _ _ _ _ w2 HP2.out HQ2.out (by omega)).mono ?_
    rintro e u' w3 ⟨rfl, rfl, hfr, hp, hq⟩
    have p0 := (blk_cell hp 0).trans rfl
    have p1 := (blk_cell hp 1).trans rfl
    have p2 := (blk_cell hp 2).trans rfl
    have q0 := (blk_cell hq 0).trans rfl
    have hlow : ∀ k, k < w.heap.size → ¬ (k = w.heap.size ∨ k = w.heap.size + 1) := fun k hk => by omega
    have HB3 : Below w.heap.size w w3 := HB2.out.trans ⟨hfr.os, hfr.tape, hfr.output, hfr.size, fun k hk => hfr.block k (by have := HB2.out.size; omega) (hlow k hk)⟩
    simp [Leaves, settle, results, Tryz.results36, go_sem, p0, p1, p2, q0]
    exact ⟨HB3, rfl⟩
  | ok v =>
    simp only at hm
    obtain rfl := hm
    unfold vC
    have p0 := (blk_cell HP2.out 0).trans rfl
    have p1 := (blk_cell HP2.out 1).trans rfl
    have p2 := (blk_cell HP2.out 2).trans rfl
    have z0 := blk_frozen HP2.out 0
    have z1 := blk_frozen HP2.out 1
    have z2 := blk_frozen HP2.out 2
    have q0 := (blk_cell HQ2.out 0).trans rfl
    have f0 := blk_frozen HQ2.out 0
    have HPF := Asd.mk (put3_fr (W := w2) (b := w.heap.size) (S := fun k => k = w.heap.size) rfl (.int .i64 v.kind) (.int .i64 v.int) (.string ⟨v.text.toArray⟩))
    have HX5 := Asd.mk (put3_blk HP2.out (.int .i64 v.kind) (.int .i64 v.int) (.string ⟨v.text.toArray⟩))
    have HQ5 := Asd.mk (blk_fr HQ2.out HPF.out (by show ¬ w.heap.size + 1 = w.heap.size; omega))
    go_wp2_with fail
    have hX := blk_far HX5.out (p := ⟨w.heap.size + 1, 0, none⟩) (by show w.heap.size ≠ w.heap.size + 1; omega) (.int .i64 0)
    have hQ := blk_set HQ5.out 0 (.int .i64 0)
    have hF : Fr (fun k => k = w.heap.size ∨ k = w.heap.size + 1) w2 _ := Fr.setCell (S := fun k => k = w.heap.size ∨ k = w.heap.size + 1) (HPF.out.mono (fun k hk _ => .inl hk)) (p := ⟨w.heap.size + 1, 0, none⟩) (.inr rfl) (.int .i64 0)
    have hlow : ∀ k, k < w.heap.size → ¬ (k = w.heap.size ∨ k = w.heap.size + 1) := fun k hk => by omega
    have HB7 : Below w.heap.size w _ := HB2.out.trans ⟨hF.os, hF.tape, hF.output, hF.size, fun k hk => hF.block k (by have := HB2.out.size; omega) (hlow k hk)⟩
    generalize ((((w2.setCell ⟨w.heap.size, 0, none⟩ (.int .i64 v.kind)).setCell ⟨w.heap.size, 1, none⟩ (.int .i64 v.int)).setCell ⟨w.heap.size, 2, none⟩ (.string ⟨v.text.toArray⟩)).setCell ⟨w.heap.size + 1, 0, none⟩ (.int .i64 0)) = w7 at hX hQ hF HB7 ⊢
    clear p0 p1 p2 z0 z1 z2 q0 f0
    refine leaves_cons (f := 61) (args := #[.pointer (some ⟨w.heap.size, 0, none⟩), .pointer (some ⟨w.heap.size + 1, 0, none⟩)]) (by simp) (by simp [go_sem]) ?_
    refine (catch_nothing w.heap.size (w.heap.size + 1) w7).mono ?_
    rintro e u' w8 ⟨rfl, rfl, rfl⟩
    have p0 := (blk_cell hX 0).trans rfl
    have p1 := (blk_cell hX 1).trans rfl
    have p2 := (blk_cell hX 2).trans rfl
    have q0 := (blk_cell hQ 0).trans rfl
    simp [Leaves, settle, results, Tryz.results36, go_sem, p0, p1, p2, q0]
    exact ⟨HB7, rfl⟩

theorem below_put3 {a W : World} (h : Below a.heap.size a W) {b : Nat} (hb : a.heap.size ≤ b) (v0 v1 v2 : Value) : Below a.heap.size a (((W.setCell ⟨b, 0, none⟩ v0).setCell ⟨b, 1, none⟩ v1).setCell ⟨b, 2, none⟩ v2) :=
  below_set (below_set (below_set h (p := ⟨b, 0, none⟩) hb v0) (p := ⟨b, 1, none⟩) hb v1) (p := ⟨b, 2, none⟩) hb v2
theorem val_cells {W : World} {g : Nat} {v : Vl} (h : W.heap[g]? = some (vK v)) : W.cell? ⟨g, 0, none⟩ = some (.int .i64 v.kind) ∧ W.cell? ⟨g, 1, none⟩ = some (.int .i64 v.int) ∧ W.cell? ⟨g, 2, none⟩ = some (.string ⟨v.text.toArray⟩) := ⟨(blk_cell h 0).trans rfl, (blk_cell h 1).trans rfl, (blk_cell h 2).trans rfl⟩
abbrev zeroV : Obj := .cells #[.int .i64 0, .int .i64 0, .string ⟨#[]⟩] 23 (0, 0)
theorem zero_cells {W : World} {g : Nat} (h : W.heap[g]? = some zeroV) : (W.cell? ⟨g, 0, none⟩ = some (.int .i64 0) ∧ W.cell? ⟨g, 1, none⟩ = some (.int .i64 0) ∧ W.cell? ⟨g, 2, none⟩ = some (.string ⟨#[]⟩)) ∧ W.frozen? ⟨g, 0, none⟩ = false ∧ W.frozen? ⟨g, 1, none⟩ = false ∧ W.frozen? ⟨g, 2, none⟩ = false :=
  ⟨⟨(blk_cell h 0).trans rfl, (blk_cell h 1).trans rfl, (blk_cell h 2).trans rfl⟩, blk_frozen h 0, blk_frozen h 1, blk_frozen h 2⟩
set_option maxRecDepth 100000 in
theorem un_null1 (po pv : Nat) (w : World) (ho : w.heap[po]? = some (.cells #[.int .i64 1] 3 (0, 0))) (hv : w.heap[pv]? = some (vK vNull)) :
    Calls Tryz.prog 37 #[.pointer (some ⟨po, 0, none⟩), .pointer (some ⟨pv, 0, none⟩)] w (EvR (.ok vNull) w) := by
  have HO := Asd.mk (fun W (h : Below w.heap.size w W) => blk_below h ho)
  have HV := Asd.mk (fun W (h : Below w.heap.size w W) => blk_below h hv)
  have HX := Asd.mk (blk_new w zeroV)
  have HB : Asd (Below w.heap.size w (w.alloc zeroV)) := Asd.mk (below_alloc (Below.refl _ _) _)
  clear ho hv
  go_enter Tryz.func37, Tryz.ntmps37
  go_upto_region 1 with fail
  generalize w.alloc _ = w1 at HX HB ⊢
  have o0 := (blk_cell (HO.out _ HB.out) 0).trans rfl
  obtain ⟨v0, v1, v2⟩ := val_cells (HV.out _ HB.out)
  obtain ⟨⟨x0, x1, x2⟩, y0, y1, y2⟩ := zero_cells HX.out
  simp only [vNull, vTru, vNum, vTxt, Bool.false_eq_true, if_true, if_false] at v0 v1 v2
  go_wp2_with fail
  refine (check_ok 5 _).mono ?_
  rintro e w' ⟨rfl, rfl⟩
  go_wp2
  refine val_ret rfl w.heap.size _ _ _ rfl (put3_blk HX.out _ _ _) rfl ?_
  exact ⟨below_put3 HB.out (Nat.le_refl _) _ _ _, rfl⟩
set_option maxRecDepth 100000 in
theorem un_null2 (po pv : Nat) (w : World) (ho : w.heap[po]? = some (.cells #[.int .i64 2] 3 (0, 0))) (hv : w.heap[pv]? = some (vK vNull)) :
    Calls Tryz.prog 37 #[.pointer (some ⟨po, 0, none⟩), .pointer (some ⟨pv, 0, none⟩)] w (EvR (.ok vNull) w) := by
  have HO := Asd.mk (fun W (h : Below w.heap.size w W) => blk_below h ho)
  have HV := Asd.mk (fun W (h : Below w.heap.size w W) => blk_below h hv)
  have HX := Asd.mk (blk_new w zeroV)
  have HB : Asd (Below w.heap.size w (w.alloc zeroV)) := Asd.mk (below_alloc (Below.refl _ _) _)
  clear ho hv
  go_enter Tryz.func37, Tryz.ntmps37
  go_upto_region 1 with fail
  generalize w.alloc _ = w1 at HX HB ⊢
  have o0 := (blk_cell (HO.out _ HB.out) 0).trans rfl
  obtain ⟨v0, v1, v2⟩ := val_cells (HV.out _ HB.out)
  obtain ⟨⟨x0, x1, x2⟩, y0, y1, y2⟩ := zero_cells HX.out
  simp only [vNull, vTru, vNum, vTxt, Bool.false_eq_true, if_true, if_false] at v0 v1 v2
  go_wp2_with fail
  refine (check_ok 5 _).mono ?_
  rintro e w' ⟨rfl, rfl⟩
  go_wp2
  refine val_ret rfl w.heap.size _ _ _ rfl (put3_blk HX.out _ _ _) rfl ?_
  exact ⟨below_put3 HB.out (Nat.le_refl _) _ _ _, rfl⟩
set_option maxRecDepth 100000 in
theorem un_not_false (po pv : Nat) (w : World) (ho : w.heap[po]? = some (.cells #[.int .i64 2] 3 (0, 0))) (hv : w.heap[pv]? = some (vK (vTru false))) :
    Calls Tryz.prog 37 #[.pointer (some ⟨po, 0, none⟩), .pointer (some ⟨pv, 0, none⟩)] w (EvR (.ok (vTru true)) w) := by
  have HO := Asd.mk (fun W (h : Below w.heap.size w W) => blk_below h ho)
  have HV := Asd.mk (fun W (h : Below w.heap.size w W) => blk_below h hv)
  have HX := Asd.mk (blk_new w zeroV)
  have HB : Asd (Below w.heap.size w (w.alloc zeroV)) := Asd.mk (below_alloc (Below.refl _ _) _)
  clear ho hv
  go_enter Tryz.func37, Tryz.ntmps37
  go_upto_region 1 with fail
  generalize w.alloc _ = w1 at HX HB ⊢
  have o0 := (blk_cell (HO.out _ HB.out) 0).trans rfl
  obtain ⟨v0, v1, v2⟩ := val_cells (HV.out _ HB.out)
  obtain ⟨⟨x0, x1, x2⟩, y0, y1, y2⟩ := zero_cells HX.out
  simp only [vNull, vTru, vNum, vTxt, Bool.false_eq_true, if_true, if_false] at v0 v1 v2
  go_wp2_with fail
  refine (check_ok 5 _).mono ?_
  rintro e w' ⟨rfl, rfl⟩
  go_wp2_with fail
  refine (check_ok 35 _).mono ?_
  rintro e w' ⟨rfl, rfl⟩
  go_wp2_with fail
  refine (truth_calls true _).mono ?_
  rintro e w2 ⟨rfl, hb2⟩
  have HX2 := Asd.mk (blk_below hb2 HX.out)
  have HB2 : Asd (Below w.heap.size w w2) := Asd.mk (HB.out.trans (hb2.mono HB.out.size))
  clear x0 x1 x2 y0 y1 y2 v0 v1 v2 o0 hb2
  obtain ⟨⟨x0, x1, x2⟩, y0, y1, y2⟩ := zero_cells HX2.out
  unfold vC
  go_wp2
  refine val_ret rfl w.heap.size _ _ _ rfl (put3_blk HX2.out _ _ _) rfl ?_
  exact ⟨below_put3 HB2.out (Nat.le_refl _) _ _ _, rfl⟩
set_option maxRecDepth 100000 in
theorem un_not_true (po pv : Nat) (w : World) (ho : w.heap[po]? = some (.cells #[.int .i64 2] 3 (0, 0))) (hv : w.heap[pv]? = some (vK (vTru true))) :
    Calls Tryz.prog 37 #[.pointer (some ⟨po, 0, none⟩), .pointer (some ⟨pv, 0, none⟩)] w (EvR (.ok (vTru false)) w) := by
  have HO := Asd.mk (fun W (h : Below w.heap.size w W) => blk_below h ho)
  have HV := Asd.mk (fun W (h : Below w.heap.size w W) => blk_below h hv)
  have HX := Asd.mk (blk_new w zeroV)
  have HB : Asd (Below w.heap.size w (w.alloc zeroV)) := Asd.mk (below_alloc (Below.refl _ _) _)
  clear ho hv
  go_enter Tryz.func37, Tryz.ntmps37
  go_upto_region 1 with fail
  generalize w.alloc _ = w1 at HX HB ⊢
  have o0 := (blk_cell (HO.out _ HB.out) 0).trans rfl
  obtain ⟨v0, v1, v2⟩ := val_cells (HV.out _ HB.out)
  obtain ⟨⟨x0, x1, x2⟩, y0, y1, y2⟩ := zero_cells HX.out
  simp only [vNull, vTru, vNum, vTxt, Bool.false_eq_true, if_true, if_false] at v0 v1 v2
  go_wp2_with fail
  refine (check_ok 5 _).mono ?_
  rintro e w' ⟨rfl, rfl⟩
  go_wp2_with fail
  refine (check_ok 35 _).mono ?_
  rintro e w' ⟨rfl, rfl⟩
  go_wp2_with fail
  refine (truth_calls false _).mono ?_
  rintro e w2 ⟨rfl, hb2⟩
  have HX2 := Asd.mk (blk_below hb2 HX.out)
  have HB2 : Asd (Below w.heap.size w w2) := Asd.mk (HB.out.trans (hb2.mono HB.out.size))
  clear x0 x1 x2 y0 y1 y2 v0 v1 v2 o0 hb2
  obtain ⟨⟨x0, x1, x2⟩, y0, y1, y2⟩ := zero_cells HX2.out
  unfold vC
  go_wp2
  refine val_ret rfl w.heap.size _ _ _ rfl (put3_blk HX2.out _ _ _) rfl ?_
  exact ⟨below_put3 HB2.out (Nat.le_refl _) _ _ _, rfl⟩
set_option maxRecDepth 100000 in
theorem un_not_num (n : Int) (po pv : Nat) (w : World) (ho : w.heap[po]? = some (.cells #[.int .i64 2] 3 (0, 0))) (hv : w.heap[pv]? = some (vK (vNum n))) :
    Calls Tryz.prog 37 #[.pointer (some ⟨po, 0, none⟩), .pointer (some ⟨pv, 0, none⟩)] w (EvR (.error 35) w) := by
  have HO := Asd.mk (fun W (h : Below w.heap.size w W) => blk_below h ho)
  have HV := Asd.mk (fun W (h : Below w.heap.size w W) => blk_below h hv)
  have HX := Asd.mk (blk_new w zeroV)
  have HB : Asd (Below w.heap.size w (w.alloc zeroV)) := Asd.mk (below_alloc (Below.refl _ _) _)
  clear ho hv
  go_enter Tryz.func37, Tryz.ntmps37
  go_upto_region 1 with fail
  generalize w.alloc _ = w1 at HX HB ⊢
  have o0 := (blk_cell (HO.out _ HB.out) 0).trans rfl
  obtain ⟨v0, v1, v2⟩ := val_cells (HV.out _ HB.out)
  obtain ⟨⟨x0, x1, x2⟩, y0, y1, y2⟩ := zero_cells HX.out
  simp only [vNull, vTru, vNum, vTxt, Bool.false_eq_true, if_true, if_false] at v0 v1 v2
  go_wp2_with fail
  refine (check_ok 5 _).mono ?_
  rintro e w' ⟨rfl, rfl⟩
  go_wp2_with fail
  refine (check_no 35 _).mono ?_
  rintro e w' ⟨rfl, rfl⟩
  go_wp2
  exact ⟨rfl, HB.out, rfl⟩
set_option maxRecDepth 100000 in
theorem un_not_text (s : List UInt8) (po pv : Nat) (w : World) (ho : w.heap[po]? = some (.cells #[.int .i64 2] 3 (0, 0))) (hv : w.heap[pv]? = some (vK (vTxt s))) :
    Calls Tryz.prog 37 #[.pointer (some ⟨po, 0, none⟩), .pointer (some ⟨pv, 0, none⟩)] w (EvR (.error 35) w) := by
  have HO := Asd.mk (fun W (h : Below w.heap.size w W) => blk_below h ho)
  have HV := Asd.mk (fun W (h : Below w.heap.size w W) => blk_below h hv)
  have HX := Asd.mk (blk_new w zeroV)
  have HB : Asd (Below w.heap.size w (w.alloc zeroV)) := Asd.mk (below_alloc (Below.refl _ _) _)
  clear ho hv
  go_enter Tryz.func37, Tryz.ntmps37
  go_upto_region 1 with fail
  generalize w.alloc _ = w1 at HX HB ⊢
  have o0 := (blk_cell (HO.out _ HB.out) 0).trans rfl
  obtain ⟨v0, v1, v2⟩ := val_cells (HV.out _ HB.out)
  obtain ⟨⟨x0, x1, x2⟩, y0, y1, y2⟩ := zero_cells HX.out
  simp only [vNull, vTru, vNum, vTxt, Bool.false_eq_true, if_true, if_false] at v0 v1 v2
  go_wp2_with fail
  refine (check_ok 5 _).mono ?_
  rintro e w' ⟨rfl, rfl⟩
  go_wp2_with fail
  refine (check_no 35 _).mono ?_
  rintro e w' ⟨rfl, rfl⟩
  go_wp2
  exact ⟨rfl, HB.out, rfl⟩
set_option maxRecDepth 100000 in
theorem un_not_blob (s : List UInt8) (po pv : Nat) (w : World) (ho : w.heap[po]? = some (.cells #[.int .i64 2] 3 (0, 0))) (hv : w.heap[pv]? = some (vK ⟨4, 0, s⟩)) :
    Calls Tryz.prog 37 #[.pointer (some ⟨po, 0, none⟩), .pointer (some ⟨pv, 0, none⟩)] w (EvR (.error 35) w) := by
  have HO := Asd.mk (fun W (h : Below w.heap.size w W) => blk_below h ho)
  have HV := Asd.mk (fun W (h : Below w.heap.size w W) => blk_below h hv)
  have HX := Asd.mk (blk_new w zeroV)
  have HB : Asd (Below w.heap.size w (w.alloc zeroV)) := Asd.mk (below_alloc (Below.refl _ _) _)
  clear ho hv
  go_enter Tryz.func37, Tryz.ntmps37
  go_upto_region 1 with fail
  generalize w.alloc _ = w1 at HX HB ⊢
  have o0 := (blk_cell (HO.out _ HB.out) 0).trans rfl
  obtain ⟨v0, v1, v2⟩ := val_cells (HV.out _ HB.out)
  obtain ⟨⟨x0, x1, x2⟩, y0, y1, y2⟩ := zero_cells HX.out
  simp only [vNull, vTru, vNum, vTxt, Bool.false_eq_true, if_true, if_false] at v0 v1 v2
  go_wp2_with fail
  refine (check_ok 5 _).mono ?_
  rintro e w' ⟨rfl, rfl⟩
  go_wp2_with fail
  refine (check_no 35 _).mono ?_
  rintro e w' ⟨rfl, rfl⟩
  go_wp2
  exact ⟨rfl, HB.out, rfl⟩
set_option maxRecDepth 100000 in
theorem un_neg_false (po pv : Nat) (w : World) (ho : w.heap[po]? = some (.cells #[.int .i64 1] 3 (0, 0))) (hv : w.heap[pv]? = some (vK (vTru false))) :
    Calls Tryz.prog 37 #[.pointer (some ⟨po, 0, none⟩), .pointer (some ⟨pv, 0, none⟩)] w (EvR (.error 35) w) := by
  have HO := Asd.mk (fun W (h : Below w.heap.size w W) => blk_below h ho)
  have HV := Asd.mk (fun W (h : Below w.heap.size w W) => blk_below h hv)
  have HX := Asd.mk (blk_new w zeroV)
  have HB : Asd (Below w.heap.size w (w.alloc zeroV)) := Asd.mk (below_alloc (Below.refl _ _) _)
  clear ho hv
  go_enter Tryz.func37, Tryz.ntmps37
  go_upto_region 1 with fail
  generalize w.alloc _ = w1 at HX HB ⊢
  have o0 := (blk_cell (HO.out _ HB.out) 0).trans rfl
  obtain ⟨v0, v1, v2⟩ := val_cells (HV.out _ HB.out)
  obtain ⟨⟨x0, x1, x2⟩, y0, y1, y2⟩ := zero_cells HX.out
  simp only [vNull, vTru, vNum, vTxt, Bool.false_eq_true, if_true, if_false] at v0 v1 v2
  go_wp2_with fail
  refine (check_ok 5 _).mono ?_
  rintro e w' ⟨rfl, rfl⟩
  go_wp2_with fail
  refine (check_no 35 _).mono ?_
  rintro e w' ⟨rfl, rfl⟩
  go_wp2
  exact ⟨rfl, HB.out, rfl⟩
set_option maxRecDepth 100000 in
theorem un_neg_true (po pv : Nat) (w : World) (ho : w.heap[po]? = some (.cells #[.int .i64 1] 3 (0, 0))) (hv : w.heap[pv]? = some (vK (vTru true))) :
    Calls Tryz.prog 37 #[.pointer (some ⟨po, 0, none⟩), .pointer (some ⟨pv, 0, none⟩)] w (EvR (.error 35) w) := by
  have HO := Asd.mk (fun W (h : Below w.heap.size w W) => blk_below h ho)
  have HV := Asd.mk (fun W (h : Below w.heap.size w W) => blk_below h hv)
  have HX := Asd.mk (blk_new w zeroV)
  have HB : Asd (Below w.heap.size w (w.alloc zeroV)) := Asd.mk (below_alloc (Below.refl _ _) _)
  clear ho hv
  go_enter Tryz.func37, Tryz.ntmps37
  go_upto_region 1 with fail
  generalize w.alloc _ = w1 at HX HB ⊢
  have o0 := (blk_cell (HO.out _ HB.out) 0).trans rfl
  obtain ⟨v0, v1, v2⟩ := val_cells (HV.out _ HB.out)
  obtain ⟨⟨x0, x1, x2⟩, y0, y1, y2⟩ := zero_cells HX.out
  simp only [vNull, vTru, vNum, vTxt, Bool.false_eq_true, if_true, if_false] at v0 v1 v2
  go_wp2_with fail
  refine (check_ok 5 _).mono ?_
  rintro e w' ⟨rfl, rfl⟩
  go_wp2_with fail
  refine (check_no 35 _).mono ?_
  rintro e w' ⟨rfl, rfl⟩
  go_wp2
  exact ⟨rfl, HB.out, rfl⟩
set_option maxRecDepth 100000 in
theorem un_neg_text (s : List UInt8) (po pv : Nat) (w : World) (ho : w.heap[po]? = some (.cells #[.int .i64 1] 3 (0, 0))) (hv : w.heap[pv]? = some (vK (vTxt s))) :
    Calls Tryz.prog 37 #[.pointer (some ⟨po, 0, none⟩), .pointer (some ⟨pv, 0, none⟩)] w (EvR (.error 35) w) := by
  have HO := Asd.mk (fun W (h : Below w.heap.size w W) => blk_below h ho)
  have HV := Asd.mk (fun W (h : Below w.heap.size w W) => blk_below h hv)
  have HX := Asd.mk (blk_new w zeroV)
  have HB : Asd (Below w.heap.size w (w.alloc zeroV)) := Asd.mk (below_alloc (Below.refl _ _) _)
  clear ho hv
  go_enter Tryz.func37, Tryz.ntmps37
  go_upto_region 1 with fail
  generalize w.alloc _ = w1 at HX HB ⊢
  have o0 := (blk_cell (HO.out _ HB.out) 0).trans rfl
  obtain ⟨v0, v1, v2⟩ := val_cells (HV.out _ HB.out)
  obtain ⟨⟨x0, x1, x2⟩, y0, y1, y2⟩ := zero_cells HX.out
  simp only [vNull, vTru, vNum, vTxt, Bool.false_eq_true, if_true, if_false] at v0 v1 v2
  go_wp2_with fail
  refine (check_ok 5 _).mono ?_
  rintro e w' ⟨rfl, rfl⟩
  go_wp2_with fail
  refine (check_no 35 _).mono ?_
  rintro e w' ⟨rfl, rfl⟩
  go_wp2
  exact ⟨rfl, HB.out, rfl⟩
set_option maxRecDepth 100000 in
theorem un_neg_blob (s : List UInt8) (po pv : Nat) (w : World) (ho : w.heap[po]? = some (.cells #[.int .i64 1] 3 (0, 0))) (hv : w.heap[pv]? = some (vK ⟨4, 0, s⟩)) :
    Calls Tryz.prog 37 #[.pointer (some ⟨po, 0, none⟩), .pointer (some ⟨pv, 0, none⟩)] w (EvR (.error 35) w) := by
  have HO := Asd.mk (fun W (h : Below w.heap.size w W) => blk_below h ho)
  have HV := Asd.mk (fun W (h : Below w.heap.size w W) => blk_below h hv)
  have HX := Asd.mk (blk_new w zeroV)
  have HB : Asd (Below w.heap.size w (w.alloc zeroV)) := Asd.mk (below_alloc (Below.refl _ _) _)
  clear ho hv
  go_enter Tryz.func37, Tryz.ntmps37
  go_upto_region 1 with fail
  generalize w.alloc _ = w1 at HX HB ⊢
  have o0 := (blk_cell (HO.out _ HB.out) 0).trans rfl
  obtain ⟨v0, v1, v2⟩ := val_cells (HV.out _ HB.out)
  obtain ⟨⟨x0, x1, x2⟩, y0, y1, y2⟩ := zero_cells HX.out
  simp only [vNull, vTru, vNum, vTxt, Bool.false_eq_true, if_true, if_false] at v0 v1 v2
  go_wp2_with fail
  refine (check_ok 5 _).mono ?_
  rintro e w' ⟨rfl, rfl⟩
  go_wp2_with fail
  refine (check_no 35 _).mono ?_
  rintro e w' ⟨rfl, rfl⟩
  go_wp2
  exact ⟨rfl, HB.out, rfl⟩
set_option maxRecDepth 100000 in
theorem un_neg_least (po pv : Nat) (w : World) (ho : w.heap[po]? = some (.cells #[.int .i64 1] 3 (0, 0))) (hv : w.heap[pv]? = some (vK (vNum (-9223372036854775808)))) :
    Calls Tryz.prog 37 #[.pointer (some ⟨po, 0, none⟩), .pointer (some ⟨pv, 0, none⟩)] w (EvR (.error 40) w) := by
  have HO := Asd.mk (fun W (h : Below w.heap.size w W) => blk_below h ho)
  have HV := Asd.mk (fun W (h : Below w.heap.size w W) => blk_below h hv)
  have HX := Asd.mk (blk_new w zeroV)
  have HB : Asd (Below w.heap.size w (w.alloc zeroV)) := Asd.mk (below_alloc (Below.refl _ _) _)
  clear ho hv
  go_enter Tryz.func37, Tryz.ntmps37
  go_upto_region 1 with fail
  generalize w.alloc _ = w1 at HX HB ⊢
  have o0 := (blk_cell (HO.out _ HB.out) 0).trans rfl
  obtain ⟨v0, v1, v2⟩ := val_cells (HV.out _ HB.out)
  obtain ⟨⟨x0, x1, x2⟩, y0, y1, y2⟩ := zero_cells HX.out
  simp only [vNull, vTru, vNum, vTxt, Bool.false_eq_true, if_true, if_false] at v0 v1 v2
  go_wp2_with fail
  refine (check_ok 5 _).mono ?_
  rintro e w' ⟨rfl, rfl⟩
  go_wp2_with fail
  refine (check_ok 35 _).mono ?_
  rintro e w' ⟨rfl, rfl⟩
  go_wp2_with fail
  refine (check_no 40 _).mono ?_
  rintro e w' ⟨rfl, rfl⟩
  go_wp2
  exact ⟨rfl, HB.out, rfl⟩
set_option maxRecDepth 100000 in
theorem un_neg_num (n : Int) (h : -9223372036854775808 < n) (h' : n ≤ 9223372036854775807) (po pv : Nat) (w : World) (ho : w.heap[po]? = some (.cells #[.int .i64 1] 3 (0, 0))) (hv : w.heap[pv]? = some (vK (vNum n))) :
    Calls Tryz.prog 37 #[.pointer (some ⟨po, 0, none⟩), .pointer (some ⟨pv, 0, none⟩)] w (EvR (.ok (vNum (-n))) w) := by
  have HO := Asd.mk (fun W (h : Below w.heap.size w W) => blk_below h ho)
  have HV := Asd.mk (fun W (h : Below w.heap.size w W) => blk_below h hv)
  have HX := Asd.mk (blk_new w zeroV)
  have HB : Asd (Below w.heap.size w (w.alloc zeroV)) := Asd.mk (below_alloc (Below.refl _ _) _)
  clear ho hv
  have hne : (n != (-9223372036854775808 : Int)) = true := by rw [bne_iff_ne]; omega
  go_enter Tryz.func37, Tryz.ntmps37
  go_upto_region 1 with fail
  generalize w.alloc _ = w1 at HX HB ⊢
  have o0 := (blk_cell (HO.out _ HB.out) 0).trans rfl
  obtain ⟨v0, v1, v2⟩ := val_cells (HV.out _ HB.out)
  obtain ⟨⟨x0, x1, x2⟩, y0, y1, y2⟩ := zero_cells HX.out
  simp only [vNull, vTru, vNum, vTxt, Bool.false_eq_true, if_true, if_false] at v0 v1 v2
  go_wp2_with fail
  refine (check_ok 5 _).mono ?_
  rintro e w' ⟨rfl, rfl⟩
  go_wp2_with fail
  refine (check_ok 35 _).mono ?_
  rintro e w' ⟨rfl, rfl⟩
  go_wp2_with fail
  refine (check_ok 40 _).mono ?_
  rintro e w' ⟨rfl, rfl⟩
  go_wp2_with fail
  refine (number_calls (-n) _).mono ?_
  rintro e w2 ⟨rfl, hb2⟩
  have HX2 := Asd.mk (blk_below hb2 HX.out)
  have HB2 : Asd (Below w.heap.size w w2) := Asd.mk (HB.out.trans (hb2.mono HB.out.size))
  clear x0 x1 x2 y0 y1 y2 v0 v1 v2 o0 hb2
  obtain ⟨⟨x0, x1, x2⟩, y0, y1, y2⟩ := zero_cells HX2.out
  unfold vC
  go_wp2
  refine val_ret rfl w.heap.size _ _ _ rfl (put3_blk HX2.out _ _ _) rfl ?_
  exact ⟨below_put3 HB2.out (Nat.le_refl _) _ _ _, rfl⟩
theorem un_calls (op : Int) (hop : op = 1 ∨ op = 2) (v : Vl) (hr : RV v) (po pv : Nat) (w : World) (ho : w.heap[po]? = some (.cells #[.int .i64 op] 3 (0, 0))) (hv : w.heap[pv]? = some (vK v)) :
    Calls Tryz.prog 37 #[.pointer (some ⟨po, 0, none⟩), .pointer (some ⟨pv, 0, none⟩)] w (EvR (unP op v) w) := by
  rcases hop with rfl | rfl
  · cases hr with
    | null => exact un_null1 po pv w ho hv
    | bool b => cases b; exact un_neg_false po pv w ho hv; exact un_neg_true po pv w ho hv
    | num n hn =>
      by_cases h : n = -9223372036854775808
      · subst h; exact un_neg_least po pv w ho hv
      · rw [show unP 1 (vNum n) = .ok (vNum (-n)) by simp [unP, vNum, h]]
        exact un_neg_num n (by have := hn.1; omega) hn.2 po pv w ho hv
    | text s hs => exact un_neg_text s po pv w ho hv
    | blob s hs => exact un_neg_blob s po pv w ho hv
  · cases hr with
    | null => exact un_null2 po pv w ho hv
    | bool b => cases b; exact un_not_false po pv w ho hv; exact un_not_true po pv w ho hv
    | num n hn => exact un_not_num n po pv w ho hv
    | text s hs => exact un_not_text s po pv w ho hv
    | blob s hs => exact un_not_blob s po pv w ho hv
set_option maxRecDepth 100000 in
theorem unary_calls (op : Int) (hop : op = 1 ∨ op = 2) (v : Vl) (hr : RV v) (w : World) : Calls Tryz.prog 21 #[.int .i64 op, vC v] w (Ev2 (unP op v) w) := by
  have hmf := mk_func
  have HC := Asd.mk (un_calls op hop v hr)
  clear hop hr
  generalize unP op v = r at HC ⊢
  unfold vC
  have HO := Asd.mk (blk_alloc (blk_alloc (blk_new w (.cells #[.int .i64 op] 3 (0, 0))) (vK v)) zeroV)
  have HV := Asd.mk (blk_alloc (nb1 w (.cells #[.int .i64 op] 3 (0, 0)) (vK v)) zeroV)
  have HX := Asd.mk (nb2 w (.cells #[.int .i64 op] 3 (0, 0)) (vK v) zeroV)
  have HB : Asd (Below w.heap.size w (((w.alloc (.cells #[.int .i64 op] 3 (0, 0))).alloc (vK v)).alloc zeroV)) := Asd.mk (below_alloc (below_alloc (below_alloc (Below.refl _ _) _) _) _)
  go_enter Tryz.func21, Tryz.ntmps21
  go_upto_region 1 with fail
  generalize (((w.alloc (.cells #[.int .i64 op] 3 (0, 0))).alloc (vK v)).alloc zeroV) = w1 at HO HV HX HB ⊢
  go_wp2_with fail
  refine (caught_calls 37 _ r _ (isGo_of Tryz.func37 (by decide) rfl) fun W hW => HC.out _ _ W (blk_below hW HO.out) (blk_below hW HV.out)).mono ?_
  rintro e w2 ⟨hb2, rfl⟩
  have HX2 := Asd.mk (blk_below hb2 HX.out)
  have HB2 : Asd (Below w.heap.size w w2) := Asd.mk (HB.out.trans (hb2.mono HB.out.size))
  clear hb2
  obtain ⟨⟨x0, x1, x2⟩, y0, y1, y2⟩ := zero_cells HX2.out
  cases r with
  | ok u =>
    unfold vC
    go_wp2
    refine val_ret2 rfl (w.heap.size + 1 + 1) _ _ _ rfl (put3_blk HX2.out _ _ _) rfl ?_
    exact ⟨below_put3 HB2.out (by omega) _ _ _, rfl⟩
  | error n =>
    unfold vC
    simp only [vNull]
    go_wp2
    refine val_ret2 rfl (w.heap.size + 1 + 1) _ _ _ rfl (put3_blk HX2.out _ _ _) rfl ?_
    exact ⟨below_put3 HB2.out (by omega) _ _ _, rfl⟩

theorem wants_bool (op : Int) (h : op ≤ 4) (w : World) : Calls Tryz.prog 42 #[.int .i64 op] w fun e w' => e = .returned (.int .i64 1) ∧ w' = w := by
  go_enter Tryz.func42, Tryz.ntmps42
  go_wp2
  go_ret
  exact ⟨rfl, rfl⟩
theorem wants_any (op : Int) (h4 : ¬ op ≤ 4) (h : op ≤ 10) (w : World) : Calls Tryz.prog 42 #[.int .i64 op] w fun e w' => e = .returned (.int .i64 0) ∧ w' = w := by
  go_enter Tryz.func42, Tryz.ntmps42
  go_wp2
  go_ret
  exact ⟨rfl, rfl⟩
theorem wants_text (w : World) : Calls Tryz.prog 42 #[.int .i64 16] w fun e w' => e = .returned (.int .i64 3) ∧ w' = w := by
  go_enter Tryz.func42, Tryz.ntmps42
  go_wp2
  go_ret
  exact ⟨rfl, rfl⟩
theorem wants_int (op : Int) (h4 : ¬ op ≤ 4) (h : ¬ op ≤ 10) (h6 : ¬ op = 16) (w : World) : Calls Tryz.prog 42 #[.int .i64 op] w fun e w' => e = .returned (.int .i64 2) ∧ w' = w := by
  go_enter Tryz.func42, Tryz.ntmps42
  go_wp2
  go_ret
  exact ⟨rfl, rfl⟩
set_option maxRecDepth 100000 in
theorem compared_calls (op c : Int) (h : 5 ≤ op) (h' : op ≤ 10) (w : World) : Calls Tryz.prog 44 #[.int .i64 op, .int .i64 c] w fun e w' => e = .returned (.bool (holdP op c)) ∧ w' = w := by
  have hc : op = 5 ∨ op = 6 ∨ op = 7 ∨ op = 8 ∨ op = 9 ∨ op = 10 := by omega
  clear h h'
  rcases hc with rfl | rfl | rfl | rfl | rfl | rfl
  all_goals
    go_enter Tryz.func44, Tryz.ntmps44
    go_wp2
    go_ret
    exact ⟨ret_eq (by simp [holdP]), rfl⟩
theorem vC_eql (a b : Vl) (W : World) : (binOp .eql 23 (vC a) (vC b)).run Tryz.prog W = .ok (.bool (eqV a b)) W := by unfold vC; rw [val_eql, tl_eq]; rfl
set_option maxRecDepth 100000 in
theorem true_n (n : Int) (b : Bool) (w : World) (hve : ∀ W, (binOp .eql 23 (.agg #[.int .i64 1, .int .i64 n, .string ⟨#[]⟩]) (.agg #[.int .i64 1, .int .i64 1, .string ⟨#[]⟩])).run Tryz.prog W = .ok (.bool b) W) :
    Calls Tryz.prog 62 #[.agg #[.int .i64 1, .int .i64 n, .string ⟨#[]⟩]] w fun e w' => e = .returned (.bool b) ∧ Below w.heap.size w w' := by
  have HX := Asd.mk (blk_new w (vK ⟨1, n, []⟩))
  have HB : Asd (Below w.heap.size w (w.alloc (vK ⟨1, n, []⟩))) := Asd.mk (below_alloc (Below.refl _ _) _)
  go_enter Tryz.func62, Tryz.ntmps62
  go_upto_region 1 with fail
  generalize w.alloc _ = w1 at HX HB ⊢
  have HS : Asd (∀ w', Below w1.heap.size w1 w' → w'.cell? ⟨w.heap.size, 0, none⟩ = some (.int .i64 1) ∧ w'.cell? ⟨w.heap.size, 1, none⟩ = some (.int .i64 n) ∧ w'.cell? ⟨w.heap.size, 2, none⟩ = some (.string ⟨#[]⟩) ∧ Below w1.heap.size w1 w') := Asd.mk fun w' hb => ⟨(val_cells (blk_below hb HX.out)).1, (val_cells (blk_below hb HX.out)).2.1, (val_cells (blk_below hb HX.out)).2.2, hb⟩
  go_region_held3 (fun w' => w'.cell? ⟨w.heap.size, 0, none⟩ = some (.int .i64 1) ∧ w'.cell? ⟨w.heap.size, 1, none⟩ = some (.int .i64 n) ∧ w'.cell? ⟨w.heap.size, 2, none⟩ = some (.string ⟨#[]⟩) ∧ Below w1.heap.size w1 w')
    (first
      | exact HS.out _ (Below.refl _ _)
      | exact HS.out _ (Below.refl _ _).drew
      | exact HS.out _ HB2.out
      | (go_split_ands; exact HS.out _ (by assumption))
      | fail)
    (first
      | (go_at_call_of 39 (Value.bool true)
         refine (truth_calls true _).mono ?_
         rintro e w2 ⟨rfl, hb2⟩
         have HB2 : Asd (Below w1.heap.size w1 w2) := Asd.mk ((Below.refl w1.heap.size w1).drew.trans hb2)
         unfold vC vTru
         simp only [if_true])
      | fail)
  go_wp2
  go_ret
  exact ⟨rfl, HB.out.trans (HB2.out.mono HB.out.size)⟩
theorem true_calls (b : Bool) (w : World) : Calls Tryz.prog 62 #[vC (vTru b)] w fun e w' => e = .returned (.bool b) ∧ Below w.heap.size w w' :=
  true_n (if b then 1 else 0) b w fun W => by
    have := vC_eql (vTru b) (vTru true) W
    rw [show eqV (vTru b) (vTru true) = b by cases b <;> rfl] at this
    exact this
structure LogW (W : World) (B : Nat) (a b s : Vl) : Prop where
  a : W.heap[B]? = some (vK a)
  b : W.heap[B + 1]? = some (vK b)
  s : W.heap[B + 1 + 1]? = some (vK s)
  r : W.heap[B + 1 + 1 + 1]? = some zeroV
theorem logw_new (w : World) (a b s : Vl) : LogW ((((w.alloc (vK a)).alloc (vK b)).alloc (vK s)).alloc zeroV) w.heap.size a b s :=
  ⟨blk_alloc (blk_alloc (blk_alloc (blk_new w _) _) _) _, blk_alloc (blk_alloc (nb1 w _ _) _) _, blk_alloc (nb2 w _ _ _) _, nb3 w _ _ _ _⟩
set_option maxRecDepth 100000 in
theorem logic_a (a b s : Vl) (w : World) (h1 : eqV a s = true) :
    Calls Tryz.prog 43 #[vC a, vC b, vC s] w fun e w' => e = .returned (vC s) ∧ Below w.heap.size w w' := by
  have HL := Asd.mk (logw_new w a b s)
  have HB : Asd (Below w.heap.size w ((((w.alloc (vK a)).alloc (vK b)).alloc (vK s)).alloc zeroV)) := Asd.mk (below_alloc (below_alloc (below_alloc (below_alloc (Below.refl _ _) _) _) _) _)
  have hv1 : ∀ W, (binOp .eql 23 (vC a) (vC s)).run Tryz.prog W = .ok (.bool true) W := fun W => by rw [vC_eql, h1]
  clear h1
  unfold vC at *
  go_enter Tryz.func43, Tryz.ntmps43
  go_upto_region 1 with fail
  generalize (((w.alloc (vK a)).alloc (vK b)).alloc (vK s)).alloc zeroV = w1 at HL HB ⊢
  obtain ⟨a0, a1, a2⟩ := val_cells HL.out.a
  obtain ⟨b0, b1, b2⟩ := val_cells HL.out.b
  obtain ⟨s0, s1, s2⟩ := val_cells HL.out.s
  obtain ⟨⟨x0, x1, x2⟩, y0, y1, y2⟩ := zero_cells HL.out.r
  go_wp2
  refine val_ret rfl (w.heap.size + 1 + 1 + 1) _ _ _ rfl (put3_blk HL.out.r _ _ _) rfl ?_
  exact ⟨rfl, below_put3 HB.out (by omega) _ _ _⟩
set_option maxRecDepth 100000 in
theorem logic_b (a b s : Vl) (w : World) (h1 : eqV a s = false) (h2 : eqV b s = true) :
    Calls Tryz.prog 43 #[vC a, vC b, vC s] w fun e w' => e = .returned (vC s) ∧ Below w.heap.size w w' := by
  have HL := Asd.mk (logw_new w a b s)
  have HB : Asd (Below w.heap.size w ((((w.alloc (vK a)).alloc (vK b)).alloc (vK s)).alloc zeroV)) := Asd.mk (below_alloc (below_alloc (below_alloc (below_alloc (Below.refl _ _) _) _) _) _)
  have hv1 : ∀ W, (binOp .eql 23 (vC a) (vC s)).run Tryz.prog W = .ok (.bool false) W := fun W => by rw [vC_eql, h1]
  have hv2 : ∀ W, (binOp .eql 23 (vC b) (vC s)).run Tryz.prog W = .ok (.bool true) W := fun W => by rw [vC_eql, h2]
  clear h2
  clear h1
  unfold vC at *
  go_enter Tryz.func43, Tryz.ntmps43
  go_upto_region 1 with fail
  generalize (((w.alloc (vK a)).alloc (vK b)).alloc (vK s)).alloc zeroV = w1 at HL HB ⊢
  obtain ⟨a0, a1, a2⟩ := val_cells HL.out.a
  obtain ⟨b0, b1, b2⟩ := val_cells HL.out.b
  obtain ⟨s0, s1, s2⟩ := val_cells HL.out.s
  obtain ⟨⟨x0, x1, x2⟩, y0, y1, y2⟩ := zero_cells HL.out.r
  go_wp2
  refine val_ret rfl (w.heap.size + 1 + 1 + 1) _ _ _ rfl (put3_blk HL.out.r _ _ _) rfl ?_
  exact ⟨rfl, below_put3 HB.out (by omega) _ _ _⟩
set_option maxRecDepth 100000 in
theorem logic_an (i : Int) (t : List UInt8) (b s : Vl) (w : World) (h1 : eqV ⟨0, i, t⟩ s = false) (h2 : eqV b s = false) :
    Calls Tryz.prog 43 #[vC ⟨0, i, t⟩, vC b, vC s] w fun e w' => e = .returned (vC vNull) ∧ Below w.heap.size w w' := by
  have HL := Asd.mk (logw_new w ⟨0, i, t⟩ b s)
  have HB : Asd (Below w.heap.size w ((((w.alloc (vK ⟨0, i, t⟩)).alloc (vK b)).alloc (vK s)).alloc zeroV)) := Asd.mk (below_alloc (below_alloc (below_alloc (below_alloc (Below.refl _ _) _) _) _) _)
  have hv1 : ∀ W, (binOp .eql 23 (vC ⟨0, i, t⟩) (vC s)).run Tryz.prog W = .ok (.bool false) W := fun W => by rw [vC_eql, h1]
  have hv2 : ∀ W, (binOp .eql 23 (vC b) (vC s)).run Tryz.prog W = .ok (.bool false) W := fun W => by rw [vC_eql, h2]
  clear h2
  clear h1
  unfold vC at *
  go_enter Tryz.func43, Tryz.ntmps43
  go_upto_region 1 with fail
  generalize (((w.alloc (vK ⟨0, i, t⟩)).alloc (vK b)).alloc (vK s)).alloc zeroV = w1 at HL HB ⊢
  obtain ⟨a0, a1, a2⟩ := val_cells HL.out.a
  obtain ⟨b0, b1, b2⟩ := val_cells HL.out.b
  obtain ⟨s0, s1, s2⟩ := val_cells HL.out.s
  obtain ⟨⟨x0, x1, x2⟩, y0, y1, y2⟩ := zero_cells HL.out.r
  go_wp2
  refine val_ret rfl (w.heap.size + 1 + 1 + 1) _ _ _ rfl (put3_blk HL.out.r _ _ _) rfl ?_
  exact ⟨rfl, below_put3 HB.out (by omega) _ _ _⟩
set_option maxRecDepth 100000 in
theorem logic_bn (a : Vl) (i : Int) (t : List UInt8) (s : Vl) (w : World) (h1 : eqV a s = false) (h2 : eqV ⟨0, i, t⟩ s = false) (h : ¬ a.kind = 0) :
    Calls Tryz.prog 43 #[vC a, vC ⟨0, i, t⟩, vC s] w fun e w' => e = .returned (vC vNull) ∧ Below w.heap.size w w' := by
  have HL := Asd.mk (logw_new w a ⟨0, i, t⟩ s)
  have HB : Asd (Below w.heap.size w ((((w.alloc (vK a)).alloc (vK ⟨0, i, t⟩)).alloc (vK s)).alloc zeroV)) := Asd.mk (below_alloc (below_alloc (below_alloc (below_alloc (Below.refl _ _) _) _) _) _)
  have hv1 : ∀ W, (binOp .eql 23 (vC a) (vC s)).run Tryz.prog W = .ok (.bool false) W := fun W => by rw [vC_eql, h1]
  have hv2 : ∀ W, (binOp .eql 23 (vC ⟨0, i, t⟩) (vC s)).run Tryz.prog W = .ok (.bool false) W := fun W => by rw [vC_eql, h2]
  clear h2
  clear h1
  unfold vC at *
  go_enter Tryz.func43, Tryz.ntmps43
  go_upto_region 1 with fail
  generalize (((w.alloc (vK a)).alloc (vK ⟨0, i, t⟩)).alloc (vK s)).alloc zeroV = w1 at HL HB ⊢
  obtain ⟨a0, a1, a2⟩ := val_cells HL.out.a
  obtain ⟨b0, b1, b2⟩ := val_cells HL.out.b
  obtain ⟨s0, s1, s2⟩ := val_cells HL.out.s
  obtain ⟨⟨x0, x1, x2⟩, y0, y1, y2⟩ := zero_cells HL.out.r
  go_wp2
  refine val_ret rfl (w.heap.size + 1 + 1 + 1) _ _ _ rfl (put3_blk HL.out.r _ _ _) rfl ?_
  exact ⟨rfl, below_put3 HB.out (by omega) _ _ _⟩
set_option maxRecDepth 100000 in
theorem logic_no (a b : Vl) (or : Bool) (w : World) (h1 : eqV a (vTru or) = false) (h2 : eqV b (vTru or) = false) (h : ¬ a.kind = 0) (h' : ¬ b.kind = 0) :
    Calls Tryz.prog 43 #[vC a, vC b, vC (vTru or)] w fun e w' => e = .returned (vC (vTru (!or))) ∧ Below w.heap.size w w' := by
  have HT := Asd.mk (true_calls or)
  have HN := Asd.mk (truth_calls (!or))
  generalize hs : vTru or = s at *
  clear hs
  have HL := Asd.mk (logw_new w a b s)
  have HB : Asd (Below w.heap.size w ((((w.alloc (vK a)).alloc (vK b)).alloc (vK s)).alloc zeroV)) := Asd.mk (below_alloc (below_alloc (below_alloc (below_alloc (Below.refl _ _) _) _) _) _)
  have hv1 : ∀ W, (binOp .eql 23 (vC a) (vC s)).run Tryz.prog W = .ok (.bool false) W := fun W => by rw [vC_eql, h1]
  have hv2 : ∀ W, (binOp .eql 23 (vC b) (vC s)).run Tryz.prog W = .ok (.bool false) W := fun W => by rw [vC_eql, h2]
  have hk : (a.kind == 0) = false := by simpa using h
  have hk' : (b.kind == 0) = false := by simpa using h'
  clear h1 h2 h h'
  unfold vC at *
  go_enter Tryz.func43, Tryz.ntmps43
  go_upto_region 1 with fail
  generalize (((w.alloc (vK a)).alloc (vK b)).alloc (vK s)).alloc zeroV = w1 at HL HB ⊢
  obtain ⟨a0, a1, a2⟩ := val_cells HL.out.a
  obtain ⟨b0, b1, b2⟩ := val_cells HL.out.b
  obtain ⟨s0, s1, s2⟩ := val_cells HL.out.s
  go_wp2_with fail
  refine (HT.out _).mono ?_
  rintro e w2 ⟨rfl, hb2⟩
  have HB2 : Asd (Below w.heap.size w w2) := Asd.mk (HB.out.trans (hb2.mono HB.out.size))
  have HR2 := Asd.mk (blk_below hb2 HL.out.r)
  clear a0 a1 a2 b0 b1 b2 s0 s1 s2 hb2
  go_wp2_with fail
  refine (HN.out _).mono ?_
  rintro e w3 ⟨rfl, hb3⟩
  have HB3 : Asd (Below w.heap.size w w3) := Asd.mk (HB2.out.trans (hb3.mono HB2.out.size))
  have HR3 := Asd.mk (blk_below hb3 HR2.out)
  obtain ⟨⟨x0, x1, x2⟩, y0, y1, y2⟩ := zero_cells HR3.out
  clear hb3
  go_wp2
  refine val_ret rfl (w.heap.size + 1 + 1 + 1) _ _ _ rfl (put3_blk HR3.out _ _ _) rfl ?_
  exact ⟨rfl, below_put3 HB3.out (by omega) _ _ _⟩
theorem logic_calls (or : Bool) (a b : Vl) (w : World) : Calls Tryz.prog 43 #[vC a, vC b, vC (vTru or)] w fun e w' => e = .returned (vC (logicP or a b)) ∧ Below w.heap.size w w' := by
  unfold logicP
  cases h1 : eqV a (vTru or) with
  | true => exact logic_a a b (vTru or) w h1
  | false => cases h2 : eqV b (vTru or) with
    | true => exact logic_b a b (vTru or) w h1 h2
    | false =>
      by_cases h : a.kind = 0
      · obtain ⟨k, i, t⟩ := a; obtain rfl : k = 0 := h; exact logic_an i t b (vTru or) w h1 h2
      · rw [show (a.kind == 0) = false by simpa using h]
        by_cases h' : b.kind = 0
        · obtain ⟨k, i, t⟩ := b; obtain rfl : k = 0 := h'; exact logic_bn a i t (vTru or) w h1 h2 h
        · rw [show (b.kind == 0) = false by simpa using h']; exact logic_no a b or w h1 h2 h h'
end Go.Proofs.YtbeeaikilcnpgaaGreatDoor.Exp

namespace Go.Proofs.YtbeeaikilcnpgaaGreatDoor.Exp
open Go.RowKit Go.Proofs.YtbeeaikilcnpgaaGreatDoor.Base
theorem rv_kind {v : Vl} (h : RV v) : 0 ≤ v.kind ∧ v.kind ≤ 4 := by
  cases h with
  | null => exact ⟨by decide, by decide⟩
  | bool b => exact ⟨by show (0 : Int) ≤ 1; decide, by show (1 : Int) ≤ 4; decide⟩
  | num n h => exact ⟨by show (0 : Int) ≤ 2; decide, by show (2 : Int) ≤ 4; decide⟩
  | text s h => exact ⟨by show (0 : Int) ≤ 3; decide, by show (3 : Int) ≤ 4; decide⟩
  | blob s h => exact ⟨by show (0 : Int) ≤ 4; decide, by show (4 : Int) ≤ 4; decide⟩
theorem rv_text {v : Vl} (h : RV v) : v.text.length ≤ reachBytes := by
  cases h with
  | null => exact Nat.zero_le _
  | bool b => exact Nat.zero_le _
  | num n h => exact Nat.zero_le _
  | text s h => exact h
  | blob s h => exact h
theorem rv_num {v : Vl} (h : RV v) : inI v.int := by
  cases h with
  | null => exact (show inI 0 by decide)
  | bool b => cases b; exact (show inI 0 by decide); exact (show inI 1 by decide)
  | num n h => exact h
  | text s h => exact (show inI 0 by decide)
  | blob s h => exact (show inI 0 by decide)
theorem rv_one (b : Bool) : RV (vTru b) := .bool b
def RvE (r : Ev) : Prop := ∀ v, r = .ok v → RV v
theorem rve_err (n : Int) : RvE (.error n) := fun v h => by cases h
theorem rve_ok {v : Vl} (h : RV v) : RvE (.ok v) := fun u e => by injection e with e; subst e; exact h
theorem unP_rv (op : Int) {v : Vl} (h : RV v) : RvE (unP op v) := by
  unfold unP
  split
  · exact rve_ok h
  · split
    · split
      · exact rve_ok (rv_one _)
      · exact rve_err _
    · split
      · split
        · exact rve_err _
        · rename_i hne
          have := rv_num h
          exact rve_ok (.num _ ⟨by have := this.2; omega, by have := this.1; omega⟩)
      · exact rve_err _
theorem numN_in {n m : Int} (h : numN n = .ok m) : inI m := by
  unfold numN at h
  split at h
  · injection h with h; subst h; assumption
  · cases h
theorem sumN_in {op a b m : Int} (ha : inI a) (h : sumN op a b = .ok m) : inI m := by
  unfold sumN at h
  split at h
  · exact numN_in h
  · split at h
    · exact numN_in h
    · split at h
      · exact numN_in h
      · split at h
        · cases h
        · split at h
          · injection h with h
            subst h
            have h1 : (a.tmod b).natAbs ≤ a.natAbs := by rw [Int.natAbs_tmod]; exact Nat.mod_le _ _
            obtain ⟨h2, h3⟩ := ha
            by_cases h0 : 0 ≤ a
            · have := Int.tmod_nonneg b h0
              exact ⟨by omega, by omega⟩
            · have : a.tmod b = -((-a).tmod b) := by rw [Int.neg_tmod]; omega
              have h4 := Int.tmod_nonneg b (show 0 ≤ -a by omega)
              exact ⟨by omega, by omega⟩
          · exact numN_in h
theorem logicP_rv (or : Bool) (a b : Vl) : RV (logicP or a b) := by
  unfold logicP
  split
  · exact rv_one _
  · split
    · exact .null
    · exact rv_one _
theorem binP_rv (op : Int) {a b : Vl} (ha : RV a) (hb : RV b) : RvE (binP op a b) := by
  unfold binP
  split
  · split
    · exact rve_ok (logicP_rv _ _ _)
    · exact rve_err _
  · split
    · split
      · exact rve_ok .null
      · split
        · exact rve_ok (rv_one _)
        · exact rve_err _
    · split
      · split
        · split
          · exact rve_ok .null
          · split
            · rename_i hle
              refine rve_ok (.text _ ?_)
              rw [List.length_append]
              have : reachBytes = 140737488351232 := rfl
              omega
            · exact rve_err _
        · exact rve_err _
      · split
        · split
          · exact rve_ok .null
          · unfold sumV
            split
            · rename_i n hn
              exact rve_ok (.num _ (sumN_in (rv_num ha) hn))
            · exact rve_err _
        · exact rve_err _
theorem cutP_len (s : List UInt8) (p n : Int) : (cutP s p n).length ≤ s.length := by
  unfold cutP
  split
  · simp
  · split
    · split
      · simp
      · rw [List.length_take]; omega
    · rw [List.length_take, List.length_drop]; omega
theorem calledV_rv (f : Int) {l : List Vl} (h : ∀ v ∈ l, RV v) : RvE (calledV f l) := by
  unfold calledV
  split
  · rename_i v
    have hv := rv_text (h v (by simp))
    have : reachBytes = 140737488351232 := rfl
    exact rve_ok (.num _ ⟨by omega, by omega⟩)
  · rename_i v
    have hv := rv_num (h v (by simp))
    split
    · exact rve_err _
    · refine rve_ok (.num _ ?_)
      obtain ⟨h1, h2⟩ := hv
      split
      · exact ⟨by omega, by omega⟩
      · exact ⟨by omega, by omega⟩
  · rename_i v
    exact rve_ok (.text _ (by unfold mapP; rw [List.length_map]; exact rv_text (h v (by simp))))
  · rename_i v
    exact rve_ok (.text _ (by unfold mapP; rw [List.length_map]; exact rv_text (h v (by simp))))
  · rename_i a b c
    exact rve_ok (.text _ (Nat.le_trans (cutP_len _ _ _) (rv_text (h a (by simp)))))
  · exact rve_err _
theorem callV_rv (f : Int) {l : List Vl} (h : ∀ v ∈ l, RV v) : RvE (callV f l) := by
  unfold callV
  split
  · split
    · exact rve_ok .null
    · exact calledV_rv f h
  · exact rve_err _
theorem finP_rv (k o : Int) {l : List Vl} (h : ∀ v ∈ l, RV v) : RvE (finP k o l) := by
  unfold finP
  split
  · split
    · exact unP_rv _ (h _ (by simp))
    · split
      · exact rve_ok (rv_one _)
      · exact callV_rv _ h
  · split
    · exact binP_rv _ (h _ (by simp)) (h _ (by simp))
    · exact rve_ok (h _ (by simp))
  · exact callV_rv _ h
mutual
def rvX : Ex → Prop
  | .mk _ _ v _ _ _ _ a => RV v ∧ rvXL a
def rvXL : List Ex → Prop
  | [] => True
  | x :: xs => rvX x ∧ rvXL xs
end
theorem rvX_v {x : Ex} (h : rvX x) : RV x.v := by cases x; rw [rvX] at h; exact h.1
theorem rvX_args {x : Ex} (h : rvX x) : rvXL x.args := by cases x; rw [rvX] at h; exact h.2
theorem rvXL_mem : ∀ {l : List Ex}, rvXL l → ∀ x ∈ l, rvX x
  | [], _, x, hx => by cases hx
  | y :: r, h, x, hx => by
    rw [rvXL] at h
    rcases List.mem_cons.mp hx with rfl | hx
    · exact h.1
    · exact rvXL_mem h.2 x hx
def RvL : EvL → Prop
  | .err _ => True
  | .dec v => RV v
  | .all l => ∀ v ∈ l, RV v
theorem known_mem {known : List (Ex × Vl)} {x : Ex} {u : Vl} (h : knownV known x = some u) : ∃ q ∈ known, q.2 = u := by
  unfold knownV at h
  rw [Option.map_eq_some_iff] at h
  obtain ⟨q, h1, h2⟩ := h
  exact ⟨q, List.mem_of_find?_eq_some h1, h2⟩
theorem oneE_rv {row : List Vl} (hrow : ∀ v ∈ row, RV v) {x : Ex} (hx : RV x.v) {r : EvL} (hr : RvL r) : RvE (oneE row x r) := by
  unfold oneE
  split
  · exact rve_err _
  · split
    · exact rve_ok hx
    · split
      · exact rve_err _
      · split
        · unfold colV
          split
          · exact rve_err _
          · split
            · rename_i v hv
              exact rve_ok (hrow _ (List.mem_of_getElem? hv))
            · exact rve_err _
        · unfold resL
          cases r with
          | err f => exact rve_err _
          | dec v => exact rve_ok hr
          | all l => exact finP_rv _ _ hr
mutual
theorem evE_rv {row : List Vl} {known : List (Ex × Vl)} (hrow : ∀ v ∈ row, RV v) (hkn : ∀ q ∈ known, RV q.2) : ∀ x : Ex, rvX x → RvE (evE row known x)
  | .mk k o v t n c ty a, h => by
    rw [rvX] at h
    rw [evE]
    split
    · rename_i u hu
      obtain ⟨q, hq, rfl⟩ := known_mem hu
      exact rve_ok (hkn q hq)
    · exact oneE_rv hrow (x := .mk k o v t n c ty a) h.1 (evL_rv hrow hkn a h.2 k o true)
theorem evL_rv {row : List Vl} {known : List (Ex × Vl)} (hrow : ∀ v ∈ row, RV v) (hkn : ∀ q ∈ known, RV q.2) : ∀ l : List Ex, rvXL l → ∀ (k o : Int) (f : Bool), RvL (evL row known k o f l)
  | [], _, k, o, f => by rw [evL]; intro v hv; cases hv
  | x :: xs, h, k, o, f => by
    rw [rvXL] at h
    have h1 := evE_rv hrow hkn x h.1
    have h2 := evL_rv hrow hkn xs h.2 k o false
    rw [evL]
    cases hx : evE row known x with
    | error n => exact trivial
    | ok v =>
      have hv := h1 v hx
      simp only
      split
      · exact hv
      · cases hl : evL row known k o false xs with
        | err f => exact trivial
        | dec u => rw [hl] at h2; exact h2
        | all l =>
          rw [hl] at h2
          intro u hu
          rcases List.mem_cons.mp hu with rfl | hu
          · exact hv
          · exact h2 u hu
end
def NzE (r : Ev) : Prop := ∀ n, r = .error n → ¬ n = 0
theorem nze_err {n : Int} (h : ¬ n = 0) : NzE (.error n) := fun m e => by injection e with e; subst e; exact h
theorem nze_ok (v : Vl) : NzE (.ok v) := fun m e => by cases e
theorem unP_nz (op : Int) (v : Vl) : NzE (unP op v) := by
  unfold unP
  repeat' split
  all_goals first | exact nze_ok _ | exact nze_err (by decide)
theorem sumV_nz (op a b : Int) : NzE (sumV op a b) := by
  unfold sumV sumN numN
  repeat' split
  all_goals first | exact nze_ok _ | (rename_i h; repeat' split at h) 
  all_goals first | (cases h; done) | (injection h with h; subst h; exact nze_err (by decide))
theorem binP_nz (op : Int) (a b : Vl) : NzE (binP op a b) := by
  unfold binP
  repeat' split
  all_goals first | exact nze_ok _ | exact nze_err (by decide) | exact sumV_nz _ _ _
theorem callV_nz (f : Int) (l : List Vl) : NzE (callV f l) := by
  unfold callV calledV
  repeat' split
  all_goals first | exact nze_ok _ | exact nze_err (by decide)
theorem finP_nz (k o : Int) (l : List Vl) : NzE (finP k o l) := by
  unfold finP
  repeat' split
  all_goals first | exact nze_ok _ | exact unP_nz _ _ | exact binP_nz _ _ _ | exact callV_nz _ _
def NzL : EvL → Prop
  | .err n => ¬ n = 0
  | _ => True
theorem oneE_nz {row : List Vl} {x : Ex} {r : EvL} (h : NzL r) : NzE (oneE row x r) := by
  unfold oneE colV
  repeat' split
  all_goals first | exact nze_ok _ | exact nze_err (by decide) | skip
  unfold resL
  cases r with
  | err n => exact nze_err h
  | dec v => exact nze_ok _
  | all l => exact finP_nz _ _ _
mutual
theorem evE_nz (row : List Vl) (known : List (Ex × Vl)) : ∀ x : Ex, NzE (evE row known x)
  | .mk k o v t n c ty a => by
    rw [evE]
    split
    · exact nze_ok _
    · exact oneE_nz (evL_nz row known a k o true)
theorem evL_nz (row : List Vl) (known : List (Ex × Vl)) : ∀ (l : List Ex) (k o : Int) (f : Bool), NzL (evL row known k o f l)
  | [], k, o, f => by rw [evL]; trivial
  | x :: xs, k, o, f => by
    have h1 := evE_nz row known x
    have h2 := evL_nz row known xs k o false
    rw [evL]
    cases hx : evE row known x with
    | error n => exact h1 n hx
    | ok v =>
      simp only
      split
      · trivial
      · cases hl : evL row known k o false xs with
        | err f => rw [hl] at h2; exact h2
        | dec u => trivial
        | all l => trivial
end
end Go.Proofs.YtbeeaikilcnpgaaGreatDoor.Exp

namespace Go.Proofs.YtbeeaikilcnpgaaGreatDoor.Exp
open Go.RowKit Go.Proofs.YtbeeaikilcnpgaaGreatDoor.Base Go.Proofs.YtbeeaikilcnpgaaGreatDoor.App Go.Proofs.YtbeeaikilcnpgaaGreatDoor.Byt
theorem val_neqV (v : Vl) (w : World) : (binOp .neq 23 (vC v) (vC v)).run Tryz.prog w = .ok (.bool false) w := by
  have h : (binOp .neq 23 (vC v) (vC v)).run Tryz.prog w = .ok (.bool (!(v.kind == v.kind && (v.int == v.int && ((⟨v.text.toArray⟩ : ByteArray).toList == (⟨v.text.toArray⟩ : ByteArray).toList))))) w := Eqs.op_neq fun d => val_in d w _ _ _ _ _ _
  rw [h]
  simp
set_option maxRecDepth 100000 in
theorem vchk_0 (n : Int) (w : World) (h : n = 0) : Calls Tryz.prog 35 #[.agg #[.int .i64 0, .int .i64 n, .string ⟨#[]⟩]] w fun e w' => e = .returned (.int .i64 0) ∧ Below w.heap.size w w' := by
  subst h
  have hq := val_neqV vNull
  simp only [vC, vNull] at hq
  go_enter Tryz.func35, Tryz.ntmps35
  go_wp2
  go_ret
  exact ⟨rfl, by repeat (first | exact Below.refl _ _ | refine Below.alloc ?_ (by simp) _ | refine Below.setCell ?_ (by simp) _ | refine Below.drew ?_)⟩
set_option maxRecDepth 100000 in
theorem vchk_1 (n : Int) (w : World) (h : n = 0 ∨ n = 1) : Calls Tryz.prog 35 #[.agg #[.int .i64 1, .int .i64 n, .string ⟨#[]⟩]] w fun e w' => e = .returned (.int .i64 0) ∧ Below w.heap.size w w' := by
  have hq := val_neqV ⟨1, n, []⟩
  rcases h with rfl | rfl
  all_goals
    simp only [vC] at hq
    go_enter Tryz.func35, Tryz.ntmps35
    go_wp2
    go_ret
    exact ⟨rfl, by repeat (first | exact Below.refl _ _ | refine Below.alloc ?_ (by simp) _ | refine Below.setCell ?_ (by simp) _ | refine Below.drew ?_)⟩
set_option maxRecDepth 100000 in
theorem vchk_2 (n : Int) (w : World) : Calls Tryz.prog 35 #[.agg #[.int .i64 2, .int .i64 n, .string ⟨#[]⟩]] w fun e w' => e = .returned (.int .i64 0) ∧ Below w.heap.size w w' := by
  have hq := val_neqV ⟨2, n, []⟩
  simp only [vC] at hq
  go_enter Tryz.func35, Tryz.ntmps35
  go_wp2
  go_ret
  exact ⟨rfl, by repeat (first | exact Below.refl _ _ | refine Below.alloc ?_ (by simp) _ | refine Below.setCell ?_ (by simp) _ | refine Below.drew ?_)⟩
set_option maxRecDepth 100000 in
theorem vchk_3 (k : Int) (hk : k = 3 ∨ k = 4) (s : List UInt8) (w : World) : Calls Tryz.prog 35 #[.agg #[.int .i64 k, .int .i64 0, .string ⟨s.toArray⟩]] w fun e w' => e = .returned (.int .i64 0) ∧ Below w.heap.size w w' := by
  have hq := val_neqV ⟨k, 0, s⟩
  rcases hk with rfl | rfl
  all_goals
    simp only [vC] at hq
    go_enter Tryz.func35, Tryz.ntmps35
    go_wp2
    go_ret
    exact ⟨rfl, by repeat (first | exact Below.refl _ _ | refine Below.alloc ?_ (by simp) _ | refine Below.setCell ?_ (by simp) _ | refine Below.drew ?_)⟩
theorem vchk_calls (v : Vl) (h : RV v) (w : World) : Calls Tryz.prog 35 #[vC v] w fun e w' => e = .returned (.int .i64 0) ∧ Below w.heap.size w w' := by
  cases h with
  | null => exact vchk_0 0 w rfl
  | bool b => exact vchk_1 _ w (by cases b; exact .inl rfl; exact .inr rfl)
  | num n h => exact vchk_2 n w
  | text s h => exact vchk_3 3 (.inl rfl) s w
  | blob s h => exact vchk_3 4 (.inr rfl) s w
abbrev xK (x : Ex) (s : Value) : Obj := .cells #[.int .i64 x.kind, .int .i64 x.op, .int .i64 x.v.kind, .int .i64 x.v.int, .string ⟨x.v.text.toArray⟩, .string ⟨x.table.toArray⟩, .string ⟨x.name.toArray⟩, .int .i64 x.col, .int .i64 x.ty, s] 26 (0, 0)
set_option maxRecDepth 100000 in
theorem empty_no (x : Ex) (A : Option Addr) (c : Nat) (w : World) (h : (lnG x.kind x.op x.args.length == 0) = true) :
    Calls Tryz.prog 19 #[exV x (.slice A x.args.length c)] w fun e w' => e = .returned (.bool true) ∧ Below w.heap.size w w' := by
  have HL := Asd.mk (fun W => line_any x.v.kind x.v.int x.col x.ty ⟨x.v.text.toArray⟩ ⟨x.table.toArray⟩ ⟨x.name.toArray⟩ A c W x.kind x.op x.args.length)
  have HX := Asd.mk (blk_new w (xK x (.slice A x.args.length c)))
  have HB : Asd (Below w.heap.size w (w.alloc (xK x (.slice A x.args.length c)))) := Asd.mk (below_alloc (Below.refl _ _) _)
  generalize lnG x.kind x.op x.args.length = L at h HL
  unfold exV
  go_enter Tryz.func19, Tryz.ntmps19
  go_upto_region 1 with fail
  generalize w.alloc _ = w1 at HX HB ⊢
  obtain ⟨e0, e1, e2, e3, e4, e5, e6, e7, e8, e9⟩ := ex_cells (x := x) HX.out
  go_wp2_with fail
  refine (HL.out _).mono ?_
  rintro e w2 ⟨rfl, hb2⟩
  have HB2 : Asd (Below w.heap.size w w2) := Asd.mk (HB.out.trans (hb2.mono HB.out.size))
  clear e0 e1 e2 e3 e4 e5 e6 e7 e8 e9 hb2
  go_wp2
  go_ret
  exact ⟨rfl, HB2.out⟩
set_option maxRecDepth 100000 in
theorem empty_lit (x : Ex) (hv : RV x.v) (A : Option Addr) (c : Nat) (w : World) (h : (lnG x.kind x.op x.args.length == 0) = false) (hk : (x.kind == 1) = true) :
    Calls Tryz.prog 19 #[exV x (.slice A x.args.length c)] w fun e w' => e = .returned (.bool false) ∧ Below w.heap.size w w' := by
  have HL := Asd.mk (fun W => line_any x.v.kind x.v.int x.col x.ty ⟨x.v.text.toArray⟩ ⟨x.table.toArray⟩ ⟨x.name.toArray⟩ A c W x.kind x.op x.args.length)
  have HV := Asd.mk (vchk_calls x.v hv)
  have HX := Asd.mk (blk_new w (xK x (.slice A x.args.length c)))
  have HB : Asd (Below w.heap.size w (w.alloc (xK x (.slice A x.args.length c)))) := Asd.mk (below_alloc (Below.refl _ _) _)
  clear hv
  generalize lnG x.kind x.op x.args.length = L at h HL
  unfold exV
  go_enter Tryz.func19, Tryz.ntmps19
  go_upto_region 1 with fail
  generalize w.alloc _ = w1 at HX HB ⊢
  obtain ⟨e0, e1, e2, e3, e4, e5, e6, e7, e8, e9⟩ := ex_cells (x := x) HX.out
  go_wp2_with fail
  refine (HL.out _).mono ?_
  rintro e w2 ⟨rfl, hb2⟩
  have HB2 : Asd (Below w.heap.size w w2) := Asd.mk (HB.out.trans (hb2.mono HB.out.size))
  have HX2 := Asd.mk (blk_below hb2 HX.out)
  clear e0 e1 e2 e3 e4 e5 e6 e7 e8 e9 hb2
  obtain ⟨e0, e1, e2, e3, e4, e5, e6, e7, e8, e9⟩ := ex_cells (x := x) HX2.out
  go_wp2_with fail
  refine (HV.out _).mono ?_
  rintro e w3 ⟨rfl, hb3⟩
  have HB3 : Asd (Below w.heap.size w w3) := Asd.mk (HB2.out.trans (hb3.mono HB2.out.size))
  clear e0 e1 e2 e3 e4 e5 e6 e7 e8 e9 hb3
  go_wp2
  go_ret
  exact ⟨rfl, HB3.out⟩
set_option maxRecDepth 100000 in
theorem empty_else (x : Ex) (b : Bool) (A : Option Addr) (c : Nat) (w : World) (h : (lnG x.kind x.op x.args.length == 0) = false) (hk : (x.kind == 1) = false) (hb : (x.kind == 2 && x.table == [] && x.name == []) = b) :
    Calls Tryz.prog 19 #[exV x (.slice A x.args.length c)] w fun e w' => e = .returned (.bool b) ∧ Below w.heap.size w w' := by
  have HL := Asd.mk (fun W => line_any x.v.kind x.v.int x.col x.ty ⟨x.v.text.toArray⟩ ⟨x.table.toArray⟩ ⟨x.name.toArray⟩ A c W x.kind x.op x.args.length)
  have HX := Asd.mk (blk_new w (xK x (.slice A x.args.length c)))
  have HB : Asd (Below w.heap.size w (w.alloc (xK x (.slice A x.args.length c)))) := Asd.mk (below_alloc (Below.refl _ _) _)
  have HH := Asd.mk hb
  clear hb
  generalize lnG x.kind x.op x.args.length = L at h HL
  unfold exV
  go_enter Tryz.func19, Tryz.ntmps19
  go_upto_region 1 with fail
  generalize w.alloc _ = w1 at HX HB ⊢
  obtain ⟨e0, e1, e2, e3, e4, e5, e6, e7, e8, e9⟩ := ex_cells (x := x) HX.out
  go_wp2_with fail
  refine (HL.out _).mono ?_
  rintro e w2 ⟨rfl, hb2⟩
  have HB2 : Asd (Below w.heap.size w w2) := Asd.mk (HB.out.trans (hb2.mono HB.out.size))
  have HX2 := Asd.mk (blk_below hb2 HX.out)
  clear e0 e1 e2 e3 e4 e5 e6 e7 e8 e9 hb2
  obtain ⟨e0, e1, e2, e3, e4, e5, e6, e7, e8, e9⟩ := ex_cells (x := x) HX2.out
  cases h2 : (x.kind == 2) with
  | false =>
    have HF : Asd (b = false) := Asd.mk (by rw [← HH.out, h2]; rfl)
    go_wp2
    go_ret
    exact ⟨ret_eq (by rw [HF.out]; rfl), HB2.out⟩
  | true =>
    cases h3 : (x.table == []) with
    | false =>
      have HF : Asd (b = false) := Asd.mk (by rw [← HH.out, h2, h3]; rfl)
      have h3' : ((⟨x.table.toArray⟩ : ByteArray).toList == (⟨#[]⟩ : ByteArray).toList) = false := by rw [show (⟨#[]⟩ : ByteArray) = ⟨([] : List UInt8).toArray⟩ from rfl, tl_eq, h3]
      go_wp2
      go_ret
      exact ⟨ret_eq (by rw [HF.out]; rfl), HB2.out⟩
    | true =>
      have h3' : ((⟨x.table.toArray⟩ : ByteArray).toList == (⟨#[]⟩ : ByteArray).toList) = true := by rw [show (⟨#[]⟩ : ByteArray) = ⟨([] : List UInt8).toArray⟩ from rfl, tl_eq, h3]
      have HF : Asd (b = (x.name == [])) := Asd.mk (by rw [← HH.out, h2, h3]; rfl)
      cases h4 : (x.name == []) with
      | false =>
        have h4' : ((⟨x.name.toArray⟩ : ByteArray).toList == (⟨#[]⟩ : ByteArray).toList) = false := by rw [show (⟨#[]⟩ : ByteArray) = ⟨([] : List UInt8).toArray⟩ from rfl, tl_eq, h4]
        rw [h4] at HF
        go_wp2
        go_ret
        exact ⟨ret_eq (by rw [HF.out]; rfl), HB2.out⟩
      | true =>
        have h4' : ((⟨x.name.toArray⟩ : ByteArray).toList == (⟨#[]⟩ : ByteArray).toList) = true := by rw [show (⟨#[]⟩ : ByteArray) = ⟨([] : List UInt8).toArray⟩ from rfl, tl_eq, h4]
        rw [h4] at HF
        go_wp2
        go_ret
        exact ⟨ret_eq (by rw [HF.out]; rfl), HB2.out⟩
theorem empty_calls (x : Ex) (hv : RV x.v) (A : Option Addr) (c : Nat) (w : World) :
    Calls Tryz.prog 19 #[exV x (.slice A x.args.length c)] w fun e w' => e = .returned (.bool (emptyE x)) ∧ Below w.heap.size w w' := by
  unfold emptyE
  cases hL : (lnG x.kind x.op x.args.length == 0) with
  | true => exact empty_no x A c w hL
  | false =>
    cases hk : (x.kind == 1) with
    | true =>
      rw [show (x.kind == 2) = false by rw [beq_iff_eq] at hk; rw [hk]; rfl]
      exact empty_lit x hv A c w hL hk
    | false => exact empty_else x _ A c w hL hk rfl
set_option maxRecDepth 100000 in
theorem dec_and (a2 a3 a7 a8 : Int) (s4 s5 s6 : ByteArray) (sl : Value) (v : Vl) (w : World) :
    Calls Tryz.prog 20 #[.agg #[.int .i64 4, .int .i64 4, .int .i64 a2, .int .i64 a3, .string s4, .string s5, .string s6, .int .i64 a7, .int .i64 a8, sl], vC v] w fun e w' => e = .returned (.bool (eqV v (vTru false))) ∧ Below w.heap.size w w' := by
  have HX := Asd.mk (nb1 w (.cells #[.int .i64 4, .int .i64 4, .int .i64 a2, .int .i64 a3, .string s4, .string s5, .string s6, .int .i64 a7, .int .i64 a8, sl] 26 (0, 0)) (vK v))
  have HE := Asd.mk (blk_alloc (blk_new w (.cells #[.int .i64 4, .int .i64 4, .int .i64 a2, .int .i64 a3, .string s4, .string s5, .string s6, .int .i64 a7, .int .i64 a8, sl] 26 (0, 0))) (vK v))
  have HB : Asd (Below w.heap.size w ((w.alloc (.cells #[.int .i64 4, .int .i64 4, .int .i64 a2, .int .i64 a3, .string s4, .string s5, .string s6, .int .i64 a7, .int .i64 a8, sl] 26 (0, 0))).alloc (vK v))) := Asd.mk (below_alloc (below_alloc (Below.refl _ _) _) _)
  have hve : ∀ W, (binOp .eql 23 (vC v) (vC (vTru false))).run Tryz.prog W = .ok (.bool (eqV v (vTru false))) W := fun W => vC_eql _ _ W
  generalize eqV v (vTru false) = q at hve ⊢
  simp only [vC, vTru, Bool.false_eq_true, if_true, if_false] at hve ⊢
  go_enter Tryz.func20, Tryz.ntmps20
  go_upto_region 1 with fail
  generalize (w.alloc (.cells #[.int .i64 4, .int .i64 4, .int .i64 a2, .int .i64 a3, .string s4, .string s5, .string s6, .int .i64 a7, .int .i64 a8, sl] 26 (0, 0))).alloc (vK v) = w1 at HX HE HB ⊢
  have e0 := (blk_cell HE.out 0).trans rfl
  have e1 := (blk_cell HE.out 1).trans rfl
  go_upto_region 2 with fail
  have HS : Asd (∀ w', Below w.heap.size w w' ∧ w'.heap[w.heap.size + 1]? = some (vK v) → w'.cell? ⟨w.heap.size + 1, 0, none⟩ = some (.int .i64 v.kind) ∧ w'.cell? ⟨w.heap.size + 1, 1, none⟩ = some (.int .i64 v.int) ∧ w'.cell? ⟨w.heap.size + 1, 2, none⟩ = some (.string ⟨v.text.toArray⟩) ∧ Below w.heap.size w w' ∧ w'.heap[w.heap.size + 1]? = some (vK v)) := Asd.mk fun w' hb => ⟨(val_cells hb.2).1, (val_cells hb.2).2.1, (val_cells hb.2).2.2, hb⟩
  clear e0 e1
  go_region_held3 (fun w' => w'.cell? ⟨w.heap.size + 1, 0, none⟩ = some (.int .i64 v.kind) ∧ w'.cell? ⟨w.heap.size + 1, 1, none⟩ = some (.int .i64 v.int) ∧ w'.cell? ⟨w.heap.size + 1, 2, none⟩ = some (.string ⟨v.text.toArray⟩) ∧ Below w.heap.size w w' ∧ w'.heap[w.heap.size + 1]? = some (vK v))
    (first
      | exact HS.out _ ⟨HB.out, HX.out⟩
      | exact HS.out _ ⟨HB.out.drew, HX.out⟩
      | exact HS.out _ ⟨HB2.out, HX2.out⟩
      | (go_split_ands; exact HS.out _ ⟨by assumption, by assumption⟩)
      | fail)
    (first
      | (go_at_call 23
         refine (etruth_calls false _).mono ?_
         rintro e w2 ⟨rfl, hb2⟩
         have HB2 : Asd (Below w.heap.size w w2) := Asd.mk (HB.out.drew.trans (hb2.mono HB.out.drew.size))
         have HX2 : Asd (w2.heap[w.heap.size + 1]? = some (vK v)) := Asd.mk (blk_below hb2 (show w1.drew.heap[w.heap.size + 1]? = some (vK v) from HX.out))
         simp only [vC, vTru, Bool.false_eq_true, if_true, if_false])
      | fail)
  go_wp2
  go_ret
  exact ⟨rfl, HB2.out⟩
set_option maxRecDepth 100000 in
theorem dec_or (a2 a3 a7 a8 : Int) (s4 s5 s6 : ByteArray) (sl : Value) (v : Vl) (w : World) :
    Calls Tryz.prog 20 #[.agg #[.int .i64 4, .int .i64 3, .int .i64 a2, .int .i64 a3, .string s4, .string s5, .string s6, .int .i64 a7, .int .i64 a8, sl], vC v] w fun e w' => e = .returned (.bool (eqV v (vTru true))) ∧ Below w.heap.size w w' := by
  have HX := Asd.mk (nb1 w (.cells #[.int .i64 4, .int .i64 3, .int .i64 a2, .int .i64 a3, .string s4, .string s5, .string s6, .int .i64 a7, .int .i64 a8, sl] 26 (0, 0)) (vK v))
  have HE := Asd.mk (blk_alloc (blk_new w (.cells #[.int .i64 4, .int .i64 3, .int .i64 a2, .int .i64 a3, .string s4, .string s5, .string s6, .int .i64 a7, .int .i64 a8, sl] 26 (0, 0))) (vK v))
  have HB : Asd (Below w.heap.size w ((w.alloc (.cells #[.int .i64 4, .int .i64 3, .int .i64 a2, .int .i64 a3, .string s4, .string s5, .string s6, .int .i64 a7, .int .i64 a8, sl] 26 (0, 0))).alloc (vK v))) := Asd.mk (below_alloc (below_alloc (Below.refl _ _) _) _)
  have hve : ∀ W, (binOp .eql 23 (vC v) (vC (vTru true))).run Tryz.prog W = .ok (.bool (eqV v (vTru true))) W := fun W => vC_eql _ _ W
  generalize eqV v (vTru true) = q at hve ⊢
  simp only [vC, vTru, Bool.false_eq_true, if_true, if_false] at hve ⊢
  go_enter Tryz.func20, Tryz.ntmps20
  go_upto_region 1 with fail
  generalize (w.alloc (.cells #[.int .i64 4, .int .i64 3, .int .i64 a2, .int .i64 a3, .string s4, .string s5, .string s6, .int .i64 a7, .int .i64 a8, sl] 26 (0, 0))).alloc (vK v) = w1 at HX HE HB ⊢
  have e0 := (blk_cell HE.out 0).trans rfl
  have e1 := (blk_cell HE.out 1).trans rfl
  go_upto_region 4 with fail
  have HS : Asd (∀ w', Below w.heap.size w w' ∧ w'.heap[w.heap.size + 1]? = some (vK v) → w'.cell? ⟨w.heap.size + 1, 0, none⟩ = some (.int .i64 v.kind) ∧ w'.cell? ⟨w.heap.size + 1, 1, none⟩ = some (.int .i64 v.int) ∧ w'.cell? ⟨w.heap.size + 1, 2, none⟩ = some (.string ⟨v.text.toArray⟩) ∧ Below w.heap.size w w' ∧ w'.heap[w.heap.size + 1]? = some (vK v)) := Asd.mk fun w' hb => ⟨(val_cells hb.2).1, (val_cells hb.2).2.1, (val_cells hb.2).2.2, hb⟩
  clear e0 e1
  go_region_held3 (fun w' => w'.cell? ⟨w.heap.size + 1, 0, none⟩ = some (.int .i64 v.kind) ∧ w'.cell? ⟨w.heap.size + 1, 1, none⟩ = some (.int .i64 v.int) ∧ w'.cell? ⟨w.heap.size + 1, 2, none⟩ = some (.string ⟨v.text.toArray⟩) ∧ Below w.heap.size w w' ∧ w'.heap[w.heap.size + 1]? = some (vK v))
    (first
      | exact HS.out _ ⟨HB.out, HX.out⟩
      | exact HS.out _ ⟨HB.out.drew, HX.out⟩
      | exact HS.out _ ⟨HB2.out, HX2.out⟩
      | (go_split_ands; exact HS.out _ ⟨by assumption, by assumption⟩)
      | fail)
    (first
      | (go_at_call 23
         refine (etruth_calls true _).mono ?_
         rintro e w2 ⟨rfl, hb2⟩
         have HB2 : Asd (Below w.heap.size w w2) := Asd.mk (HB.out.drew.trans (hb2.mono HB.out.drew.size))
         have HX2 : Asd (w2.heap[w.heap.size + 1]? = some (vK v)) := Asd.mk (blk_below hb2 (show w1.drew.heap[w.heap.size + 1]? = some (vK v) from HX.out))
         simp only [vC, vTru, Bool.false_eq_true, if_true, if_false])
      | fail)
  go_wp2
  go_ret
  exact ⟨rfl, HB2.out⟩
set_option maxRecDepth 100000 in
theorem dec_bin (o : Int) (a2 a3 a7 a8 : Int) (s4 s5 s6 : ByteArray) (sl : Value) (v : Vl) (w : World) (h3 : (o == 3) = false) (h4 : (o == 4) = false) :
    Calls Tryz.prog 20 #[.agg #[.int .i64 4, .int .i64 o, .int .i64 a2, .int .i64 a3, .string s4, .string s5, .string s6, .int .i64 a7, .int .i64 a8, sl], vC v] w fun e w' => e = .returned (.bool false) ∧ Below w.heap.size w w' := by
  have HX := Asd.mk (nb1 w (.cells #[.int .i64 4, .int .i64 o, .int .i64 a2, .int .i64 a3, .string s4, .string s5, .string s6, .int .i64 a7, .int .i64 a8, sl] 26 (0, 0)) (vK v))
  have HE := Asd.mk (blk_alloc (blk_new w (.cells #[.int .i64 4, .int .i64 o, .int .i64 a2, .int .i64 a3, .string s4, .string s5, .string s6, .int .i64 a7, .int .i64 a8, sl] 26 (0, 0))) (vK v))
  have HB : Asd (Below w.heap.size w ((w.alloc (.cells #[.int .i64 4, .int .i64 o, .int .i64 a2, .int .i64 a3, .string s4, .string s5, .string s6, .int .i64 a7, .int .i64 a8, sl] 26 (0, 0))).alloc (vK v))) := Asd.mk (below_alloc (below_alloc (Below.refl _ _) _) _)
  unfold vC
  go_enter Tryz.func20, Tryz.ntmps20
  go_upto_region 1 with fail
  generalize (w.alloc (.cells #[.int .i64 4, .int .i64 o, .int .i64 a2, .int .i64 a3, .string s4, .string s5, .string s6, .int .i64 a7, .int .i64 a8, sl] 26 (0, 0))).alloc (vK v) = w1 at HX HE HB ⊢
  have e0 := (blk_cell HE.out 0).trans rfl
  have e1 := (blk_cell HE.out 1).trans rfl
  obtain ⟨v0, v1, v2⟩ := val_cells HX.out
  go_wp2
  go_ret
  exact ⟨rfl, HB.out⟩
set_option maxRecDepth 100000 in
theorem dec_coal (a2 a3 a7 a8 : Int) (s4 s5 s6 : ByteArray) (sl : Value) (v : Vl) (w : World) :
    Calls Tryz.prog 20 #[.agg #[.int .i64 5, .int .i64 6, .int .i64 a2, .int .i64 a3, .string s4, .string s5, .string s6, .int .i64 a7, .int .i64 a8, sl], vC v] w fun e w' => e = .returned (.bool (v.kind != 0)) ∧ Below w.heap.size w w' := by
  have HX := Asd.mk (nb1 w (.cells #[.int .i64 5, .int .i64 6, .int .i64 a2, .int .i64 a3, .string s4, .string s5, .string s6, .int .i64 a7, .int .i64 a8, sl] 26 (0, 0)) (vK v))
  have HE := Asd.mk (blk_alloc (blk_new w (.cells #[.int .i64 5, .int .i64 6, .int .i64 a2, .int .i64 a3, .string s4, .string s5, .string s6, .int .i64 a7, .int .i64 a8, sl] 26 (0, 0))) (vK v))
  have HB : Asd (Below w.heap.size w ((w.alloc (.cells #[.int .i64 5, .int .i64 6, .int .i64 a2, .int .i64 a3, .string s4, .string s5, .string s6, .int .i64 a7, .int .i64 a8, sl] 26 (0, 0))).alloc (vK v))) := Asd.mk (below_alloc (below_alloc (Below.refl _ _) _) _)
  unfold vC
  go_enter Tryz.func20, Tryz.ntmps20
  go_upto_region 1 with fail
  generalize (w.alloc (.cells #[.int .i64 5, .int .i64 6, .int .i64 a2, .int .i64 a3, .string s4, .string s5, .string s6, .int .i64 a7, .int .i64 a8, sl] 26 (0, 0))).alloc (vK v) = w1 at HX HE HB ⊢
  have e0 := (blk_cell HE.out 0).trans rfl
  have e1 := (blk_cell HE.out 1).trans rfl
  obtain ⟨v0, v1, v2⟩ := val_cells HX.out
  go_wp2
  go_ret
  exact ⟨rfl, HB.out⟩
set_option maxRecDepth 100000 in
theorem dec_call (o : Int) (a2 a3 a7 a8 : Int) (s4 s5 s6 : ByteArray) (sl : Value) (v : Vl) (w : World) (h6 : (o == 6) = false) :
    Calls Tryz.prog 20 #[.agg #[.int .i64 5, .int .i64 o, .int .i64 a2, .int .i64 a3, .string s4, .string s5, .string s6, .int .i64 a7, .int .i64 a8, sl], vC v] w fun e w' => e = .returned (.bool false) ∧ Below w.heap.size w w' := by
  have HX := Asd.mk (nb1 w (.cells #[.int .i64 5, .int .i64 o, .int .i64 a2, .int .i64 a3, .string s4, .string s5, .string s6, .int .i64 a7, .int .i64 a8, sl] 26 (0, 0)) (vK v))
  have HE := Asd.mk (blk_alloc (blk_new w (.cells #[.int .i64 5, .int .i64 o, .int .i64 a2, .int .i64 a3, .string s4, .string s5, .string s6, .int .i64 a7, .int .i64 a8, sl] 26 (0, 0))) (vK v))
  have HB : Asd (Below w.heap.size w ((w.alloc (.cells #[.int .i64 5, .int .i64 o, .int .i64 a2, .int .i64 a3, .string s4, .string s5, .string s6, .int .i64 a7, .int .i64 a8, sl] 26 (0, 0))).alloc (vK v))) := Asd.mk (below_alloc (below_alloc (Below.refl _ _) _) _)
  unfold vC
  go_enter Tryz.func20, Tryz.ntmps20
  go_upto_region 1 with fail
  generalize (w.alloc (.cells #[.int .i64 5, .int .i64 o, .int .i64 a2, .int .i64 a3, .string s4, .string s5, .string s6, .int .i64 a7, .int .i64 a8, sl] 26 (0, 0))).alloc (vK v) = w1 at HX HE HB ⊢
  have e0 := (blk_cell HE.out 0).trans rfl
  have e1 := (blk_cell HE.out 1).trans rfl
  obtain ⟨v0, v1, v2⟩ := val_cells HX.out
  go_wp2
  go_ret
  exact ⟨rfl, HB.out⟩
set_option maxRecDepth 100000 in
theorem dec_k (k o : Int) (a2 a3 a7 a8 : Int) (s4 s5 s6 : ByteArray) (sl : Value) (v : Vl) (w : World) (h4 : (k == 4) = false) (h5 : (k == 5) = false) :
    Calls Tryz.prog 20 #[.agg #[.int .i64 k, .int .i64 o, .int .i64 a2, .int .i64 a3, .string s4, .string s5, .string s6, .int .i64 a7, .int .i64 a8, sl], vC v] w fun e w' => e = .returned (.bool false) ∧ Below w.heap.size w w' := by
  have HX := Asd.mk (nb1 w (.cells #[.int .i64 k, .int .i64 o, .int .i64 a2, .int .i64 a3, .string s4, .string s5, .string s6, .int .i64 a7, .int .i64 a8, sl] 26 (0, 0)) (vK v))
  have HE := Asd.mk (blk_alloc (blk_new w (.cells #[.int .i64 k, .int .i64 o, .int .i64 a2, .int .i64 a3, .string s4, .string s5, .string s6, .int .i64 a7, .int .i64 a8, sl] 26 (0, 0))) (vK v))
  have HB : Asd (Below w.heap.size w ((w.alloc (.cells #[.int .i64 k, .int .i64 o, .int .i64 a2, .int .i64 a3, .string s4, .string s5, .string s6, .int .i64 a7, .int .i64 a8, sl] 26 (0, 0))).alloc (vK v))) := Asd.mk (below_alloc (below_alloc (Below.refl _ _) _) _)
  unfold vC
  go_enter Tryz.func20, Tryz.ntmps20
  go_upto_region 1 with fail
  generalize (w.alloc (.cells #[.int .i64 k, .int .i64 o, .int .i64 a2, .int .i64 a3, .string s4, .string s5, .string s6, .int .i64 a7, .int .i64 a8, sl] 26 (0, 0))).alloc (vK v) = w1 at HX HE HB ⊢
  have e0 := (blk_cell HE.out 0).trans rfl
  have e1 := (blk_cell HE.out 1).trans rfl
  obtain ⟨v0, v1, v2⟩ := val_cells HX.out
  go_wp2
  go_ret
  exact ⟨rfl, HB.out⟩
theorem decided_calls (x : Ex) (sl : Value) (v : Vl) (w : World) : Calls Tryz.prog 20 #[exV x sl, vC v] w fun e w' => e = .returned (.bool (decP x.kind x.op v)) ∧ Below w.heap.size w w' := by
  unfold exV decP
  generalize x.kind = k
  generalize x.op = o
  by_cases h4 : k = 4
  · subst h4
    by_cases h : o = 4
    · subst h; exact dec_and _ _ _ _ _ _ _ _ v w
    · rw [if_neg (by rintro ⟨_, h'⟩; exact h h')]
      by_cases h3 : o = 3
      · subst h3; exact dec_or _ _ _ _ _ _ _ _ v w
      · rw [if_neg (by rintro ⟨_, h'⟩; exact h3 h')]
        exact dec_bin o _ _ _ _ _ _ _ _ v w (by simpa using h3) (by simpa using h)
  · rw [if_neg (by rintro ⟨h', _⟩; exact h4 h'), if_neg (by rintro ⟨h', _⟩; exact h4 h')]
    by_cases h5 : k = 5
    · subst h5
      by_cases h6 : o = 6
      · subst h6; exact dec_coal _ _ _ _ _ _ _ _ v w
      · rw [show (o == 6) = false by simpa using h6]
        exact dec_call o _ _ _ _ _ _ _ _ v w (by simpa using h6)
    · rw [show (k == 5) = false by simpa using h5]
      exact dec_k k o _ _ _ _ _ _ _ _ v w (by simpa using h4) (by simpa using h5)

theorem wrap_i64 (n : Int) : IntKind.i64.wrap n = (n + 9223372036854775808) % 18446744073709551616 - 9223372036854775808 := by simp [IntKind.wrap, IntKind.bits, IntKind.signed]; omega
theorem wrap_neg (v : BitVec 64) : decide (IntKind.i64.wrap (v.toNat : Int) < 0) = v.msb := by
  rw [BitVec.msb_eq_decide, wrap_i64]
  have := v.isLt
  simp only [decide_eq_decide]
  omega
theorem msb_of (a : Int) (h : -9223372036854775808 ≤ a) (h' : a ≤ 9223372036854775807) : (BitVec.ofInt 64 a).msb = decide (a < 0) := by
  rw [BitVec.msb_eq_toInt, BitVec.toInt_ofInt, Int.bmod_eq_of_le (by omega) (by omega)]
theorem wrap_in (n : Int) : -9223372036854775808 ≤ IntKind.i64.wrap n ∧ IntKind.i64.wrap n ≤ 9223372036854775807 := by rw [wrap_i64]; omega
theorem xor_neg (a b : Int) (h : -9223372036854775808 ≤ a) (h' : a ≤ 9223372036854775807) (k : -9223372036854775808 ≤ b) (k' : b ≤ 9223372036854775807) : decide (bits .xor .i64 a b < 0) = (decide (a < 0) ^^ decide (b < 0)) := by
  show decide (IntKind.i64.wrap (((BitVec.ofInt 64 a ^^^ BitVec.ofInt 64 b).toNat : Nat) : Int) < 0) = _
  rw [wrap_neg, BitVec.msb_xor, msb_of a h h', msb_of b k k']
theorem and_neg (a b : Int) (h : -9223372036854775808 ≤ a) (h' : a ≤ 9223372036854775807) (k : -9223372036854775808 ≤ b) (k' : b ≤ 9223372036854775807) : decide (bits .and .i64 a b < 0) = (decide (a < 0) && decide (b < 0)) := by
  show decide (IntKind.i64.wrap (((BitVec.ofInt 64 a &&& BitVec.ofInt 64 b).toNat : Nat) : Int) < 0) = _
  rw [wrap_neg, BitVec.msb_and, msb_of a h h', msb_of b k k']
theorem bits_in (o : BinOp) (a b : Int) : -9223372036854775808 ≤ bits o .i64 a b ∧ bits o .i64 a b ≤ 9223372036854775807 := wrap_in _
theorem signs (a b c d : Int) (ha : -9223372036854775808 ≤ a ∧ a ≤ 9223372036854775807) (hb : -9223372036854775808 ≤ b ∧ b ≤ 9223372036854775807) (hc : -9223372036854775808 ≤ c ∧ c ≤ 9223372036854775807) (hd : -9223372036854775808 ≤ d ∧ d ≤ 9223372036854775807) :
    (0 ≤ bits .and .i64 (bits .xor .i64 a b) (bits .xor .i64 c d)) ↔ ¬ ((a < 0 ↔ ¬ b < 0) ∧ (c < 0 ↔ ¬ d < 0)) := by
  have h := and_neg (bits .xor .i64 a b) (bits .xor .i64 c d) (bits_in _ _ _).1 (bits_in _ _ _).2 (bits_in _ _ _).1 (bits_in _ _ _).2
  rw [xor_neg a b ha.1 ha.2 hb.1 hb.2, xor_neg c d hc.1 hc.2 hd.1 hd.2] at h
  generalize bits .and .i64 (bits .xor .i64 a b) (bits .xor .i64 c d) = x at *
  by_cases h1 : a < 0 <;> by_cases h2 : b < 0 <;> by_cases h3 : c < 0 <;> by_cases h4 : d < 0 <;> simp [h1, h2, h3, h4] at h ⊢ <;> omega
theorem add_fits (a b : Int) (ha : -9223372036854775808 ≤ a ∧ a ≤ 9223372036854775807) (hb : -9223372036854775808 ≤ b ∧ b ≤ 9223372036854775807) :
    (0 ≤ bits .and .i64 (bits .xor .i64 a (IntKind.i64.wrap (a + b))) (bits .xor .i64 b (IntKind.i64.wrap (a + b)))) ↔ (-9223372036854775808 ≤ a + b ∧ a + b ≤ 9223372036854775807) := by
  rw [signs a _ b _ ha (wrap_in _) hb (wrap_in _), wrap_i64]
  omega
theorem sub_fits (a b : Int) (ha : -9223372036854775808 ≤ a ∧ a ≤ 9223372036854775807) (hb : -9223372036854775808 ≤ b ∧ b ≤ 9223372036854775807) :
    (0 ≤ bits .and .i64 (bits .xor .i64 a b) (bits .xor .i64 a (IntKind.i64.wrap (a - b)))) ↔ (-9223372036854775808 ≤ a - b ∧ a - b ≤ 9223372036854775807) := by
  rw [signs a b a _ ha hb ha (wrap_in _), wrap_i64]
  omega
def SumR (r : Except Int Int) (w : World) (e : Ending) (w' : World) : Prop := w' = w ∧ match r with
  | .ok n => e = .returned (.int .i64 n)
  | .error n => e = errP n
set_option maxRecDepth 100000 in
theorem sum_add_ok (a b s : Int) (hs : wrap64 (a + b) = s) (hg : decide (0 ≤ bits .and .i64 (bits .xor .i64 a s) (bits .xor .i64 b s)) = true) (w : World) : Calls Tryz.prog 47 #[.int .i64 11, .int .i64 a, .int .i64 b] w fun e w' => e = .returned (.int .i64 s) ∧ w' = w := by
  go_enter Tryz.func47, Tryz.ntmps47
  go_wp2_with fail
  refine (check_ok 40 _).mono ?_
  rintro e w' ⟨rfl, rfl⟩
  go_wp2
  go_ret
  exact ⟨rfl, rfl⟩
set_option maxRecDepth 100000 in
theorem sum_add_no (a b s : Int) (hs : wrap64 (a + b) = s) (hg : decide (0 ≤ bits .and .i64 (bits .xor .i64 a s) (bits .xor .i64 b s)) = false) (w : World) : Calls Tryz.prog 47 #[.int .i64 11, .int .i64 a, .int .i64 b] w fun e w' => e = errP 40 ∧ w' = w := by
  go_enter Tryz.func47, Tryz.ntmps47
  go_wp2_with fail
  refine (check_no 40 _).mono ?_
  rintro e w' ⟨rfl, rfl⟩
  go_wp2
  exact ⟨rfl, rfl, rfl⟩
set_option maxRecDepth 100000 in
theorem sum_sub_ok (a b s : Int) (hs : wrap64 (a - b) = s) (hg : decide (0 ≤ bits .and .i64 (bits .xor .i64 a b) (bits .xor .i64 a s)) = true) (w : World) : Calls Tryz.prog 47 #[.int .i64 12, .int .i64 a, .int .i64 b] w fun e w' => e = .returned (.int .i64 s) ∧ w' = w := by
  go_enter Tryz.func47, Tryz.ntmps47
  go_wp2_with fail
  refine (check_ok 40 _).mono ?_
  rintro e w' ⟨rfl, rfl⟩
  go_wp2
  go_ret
  exact ⟨rfl, rfl⟩
set_option maxRecDepth 100000 in
theorem sum_sub_no (a b s : Int) (hs : wrap64 (a - b) = s) (hg : decide (0 ≤ bits .and .i64 (bits .xor .i64 a b) (bits .xor .i64 a s)) = false) (w : World) : Calls Tryz.prog 47 #[.int .i64 12, .int .i64 a, .int .i64 b] w fun e w' => e = errP 40 ∧ w' = w := by
  go_enter Tryz.func47, Tryz.ntmps47
  go_wp2_with fail
  refine (check_no 40 _).mono ?_
  rintro e w' ⟨rfl, rfl⟩
  go_wp2
  exact ⟨rfl, rfl, rfl⟩
set_option maxRecDepth 100000 in
theorem sum_14_zero (a : Int) (w : World) : Calls Tryz.prog 47 #[.int .i64 14, .int .i64 a, .int .i64 0] w fun e w' => e = errP 41 ∧ w' = w := by
  go_enter Tryz.func47, Tryz.ntmps47
  go_wp2_with fail
  refine (check_no 41 _).mono ?_
  rintro e w' ⟨rfl, rfl⟩
  go_wp2
  exact ⟨rfl, rfl, rfl⟩
set_option maxRecDepth 100000 in
theorem sum_15_zero (a : Int) (w : World) : Calls Tryz.prog 47 #[.int .i64 15, .int .i64 a, .int .i64 0] w fun e w' => e = errP 41 ∧ w' = w := by
  go_enter Tryz.func47, Tryz.ntmps47
  go_wp2_with fail
  refine (check_no 41 _).mono ?_
  rintro e w' ⟨rfl, rfl⟩
  go_wp2
  exact ⟨rfl, rfl, rfl⟩
set_option maxRecDepth 100000 in
theorem sum_rem_one (a : Int) (w : World) : Calls Tryz.prog 47 #[.int .i64 15, .int .i64 a, .int .i64 (-1)] w fun e w' => e = .returned (.int .i64 0) ∧ w' = w := by
  go_enter Tryz.func47, Tryz.ntmps47
  go_wp2_with fail
  refine (check_ok 41 _).mono ?_
  rintro e w' ⟨rfl, rfl⟩
  go_wp2
  go_ret
  exact ⟨rfl, rfl⟩
set_option maxRecDepth 100000 in
theorem sum_rem (a b : Int) (hb0 : ¬ b = 0) (h0 : (b != 0) = true) (h1 : (b == -1) = false) (ha : inI a) (hb : inI b) (w : World) : Calls Tryz.prog 47 #[.int .i64 15, .int .i64 a, .int .i64 b] w fun e w' => e = .returned (.int .i64 (a.tmod b)) ∧ w' = w := by
  go_enter Tryz.func47, Tryz.ntmps47
  go_wp2_with fail
  refine (check_ok 41 _).mono ?_
  rintro e w' ⟨rfl, rfl⟩
  go_wp2
  go_ret
  exact ⟨rfl, rfl⟩
set_option maxRecDepth 100000 in
theorem sum_div_least (w : World) : Calls Tryz.prog 47 #[.int .i64 14, .int .i64 (-9223372036854775808), .int .i64 (-1)] w fun e w' => e = errP 40 ∧ w' = w := by
  go_enter Tryz.func47, Tryz.ntmps47
  go_wp2_with fail
  refine (check_ok 41 _).mono ?_
  rintro e w' ⟨rfl, rfl⟩
  go_wp2_with fail
  refine (check_no 40 _).mono ?_
  rintro e w' ⟨rfl, rfl⟩
  go_wp2
  exact ⟨rfl, rfl, rfl⟩
set_option maxRecDepth 100000 in
theorem sum_div (a b q : Int) (hq : wrap64 (a.tdiv b) = q) (hb0 : ¬ b = 0) (h0 : (b != 0) = true) (h1 : (a != -9223372036854775808) = true) (ha : inI a) (hb : inI b) (w : World) : Calls Tryz.prog 47 #[.int .i64 14, .int .i64 a, .int .i64 b] w fun e w' => e = .returned (.int .i64 q) ∧ w' = w := by
  go_enter Tryz.func47, Tryz.ntmps47
  go_wp2_with fail
  refine (check_ok 41 _).mono ?_
  rintro e w' ⟨rfl, rfl⟩
  go_wp2_with fail
  refine (check_ok 40 _).mono ?_
  rintro e w' ⟨rfl, rfl⟩
  go_wp2
  go_ret
  exact ⟨ret_eq (congrArg (Value.int .i64) hq), rfl⟩
set_option maxRecDepth 100000 in
theorem sum_div2 (b q : Int) (hq : wrap64 (-Int.tdiv 9223372036854775808 b) = q) (hb0 : ¬ b = 0) (h0 : (b != 0) = true) (h1 : (b != -1) = true) (w : World) : Calls Tryz.prog 47 #[.int .i64 14, .int .i64 (-9223372036854775808), .int .i64 b] w fun e w' => e = .returned (.int .i64 q) ∧ w' = w := by
  go_enter Tryz.func47, Tryz.ntmps47
  go_wp2_with fail
  refine (check_ok 41 _).mono ?_
  rintro e w' ⟨rfl, rfl⟩
  go_wp2_with fail
  refine (check_ok 40 _).mono ?_
  rintro e w' ⟨rfl, rfl⟩
  go_wp2
  go_ret
  exact ⟨ret_eq (congrArg (Value.int .i64) hq), rfl⟩
theorem wrap64_id (n : Int) (h : inI n) : wrap64 n = n := IntWalk.wrap64_in n h
theorem tdiv_abs (a b : Int) : (a.tdiv b).natAbs ≤ a.natAbs := by
  rw [Int.natAbs_tdiv]; exact Nat.div_le_self _ _
theorem tdiv_in (a b : Int) (ha : inI a) (h : ¬ (a = -9223372036854775808 ∧ b = -1)) : inI (a.tdiv b) := by
  have h1 := tdiv_abs a b
  obtain ⟨h2, h3⟩ := ha
  by_cases hl : a = -9223372036854775808
  · by_cases hb : b.natAbs ≤ 1
    · have hb : b = 0 ∨ b = 1 := by
        have : ¬ b = -1 := fun e => h ⟨hl, e⟩
        omega
      rcases hb with rfl | rfl
      · rw [Int.tdiv_zero]; exact ⟨by omega, by omega⟩
      · rw [Int.tdiv_one]; exact ⟨by omega, by omega⟩
    · have : (a.tdiv b).natAbs ≤ 9223372036854775808 / 2 := by
        rw [Int.natAbs_tdiv, hl]
        exact Nat.div_le_div_left (by omega) (by omega)
      exact ⟨by omega, by omega⟩
  · exact ⟨by omega, by omega⟩

set_option maxRecDepth 100000 in
theorem size_neg (n : Int) (x : Int) (h : n < 0) (hx : IntKind.u64.wrap (-IntKind.u64.wrap n) = x) (w : World) : Calls Tryz.prog 90 #[.int .i64 n] w fun e w' => e = .returned (.int .u64 x) ∧ w' = w := by
  go_enter Tryz.func90, Tryz.ntmps90
  go_wp2
  go_ret
  exact ⟨rfl, rfl⟩
theorem size_pos (n : Int) (x : Int) (h : ¬ n < 0) (hx : IntKind.u64.wrap n = x) (w : World) : Calls Tryz.prog 90 #[.int .i64 n] w fun e w' => e = .returned (.int .u64 x) ∧ w' = w := by
  go_enter Tryz.func90, Tryz.ntmps90
  go_wp2
  go_ret
  exact ⟨rfl, rfl⟩
theorem size_calls (n : Int) (h : inI n) (w : World) : Calls Tryz.prog 90 #[.int .i64 n] w fun e w' => e = .returned (.int .u64 (n.natAbs : Int)) ∧ w' = w := by
  obtain ⟨h1, h2⟩ := h
  by_cases hn : n < 0
  · exact size_neg n _ hn (by rw [IntKind.wrap_u64, IntKind.wrap_u64]; omega) w
  · exact size_pos n _ hn (by rw [IntKind.wrap_u64]; omega) w
set_option maxRecDepth 100000 in
theorem prod_00_ok (a b : Int) (h1 : decide (a < 0) = false) (h2 : decide (b < 0) = false) (L : Nat) (hL : (L : Int) ≤ 9223372036854775807) (z : Int) (hz : IntKind.i64.wrap (L : Int) = z) (x y : Nat) (hS : ∀ w, Calls Tryz.prog 90 #[.int .i64 a] w fun e w' => e = .returned (.int .u64 (x : Int)) ∧ w' = w) (hT : ∀ w, Calls Tryz.prog 90 #[.int .i64 b] w fun e w' => e = .returned (.int .u64 (y : Int)) ∧ w' = w) (hM : ∀ w, Calls Tryz.prog 89 #[.int .u64 x, .int .u64 y] w fun e w' => e = .returned (.tuple #[.int .u64 (0 : Int), .int .u64 (L : Int)]) ∧ w' = w) (w : World) : Calls Tryz.prog 66 #[.int .i64 a, .int .i64 b] w fun e w' => e = .returned (.int .i64 z) ∧ w' = w := by
  have HS := Asd.mk hS
  have HT := Asd.mk hT
  have HM := Asd.mk hM
  clear hS hT hM
  go_enter Tryz.func66, Tryz.ntmps66
  go_wp2_with fail
  refine (HS.out _).mono ?_
  rintro e w' ⟨rfl, rfl⟩
  go_wp2_with fail
  refine (HT.out _).mono ?_
  rintro e w' ⟨rfl, rfl⟩
  go_wp2_with fail
  refine (HM.out _).mono ?_
  rintro e w' ⟨rfl, rfl⟩
  go_wp2_with fail
  refine (check_ok 40 _).mono ?_
  rintro e w' ⟨rfl, rfl⟩
  go_wp2
  go_ret
  exact ⟨rfl, rfl⟩
set_option maxRecDepth 100000 in
theorem prod_00_no (a b : Int) (h1 : decide (a < 0) = false) (h2 : decide (b < 0) = false) (L : Nat) (hL : decide ((L : Int) ≤ 9223372036854775807) = false) (x y : Nat) (hS : ∀ w, Calls Tryz.prog 90 #[.int .i64 a] w fun e w' => e = .returned (.int .u64 (x : Int)) ∧ w' = w) (hT : ∀ w, Calls Tryz.prog 90 #[.int .i64 b] w fun e w' => e = .returned (.int .u64 (y : Int)) ∧ w' = w) (hM : ∀ w, Calls Tryz.prog 89 #[.int .u64 x, .int .u64 y] w fun e w' => e = .returned (.tuple #[.int .u64 (0 : Int), .int .u64 (L : Int)]) ∧ w' = w) (w : World) : Calls Tryz.prog 66 #[.int .i64 a, .int .i64 b] w fun e w' => e = errP 40 ∧ w' = w := by
  have HS := Asd.mk hS
  have HT := Asd.mk hT
  have HM := Asd.mk hM
  clear hS hT hM
  go_enter Tryz.func66, Tryz.ntmps66
  go_wp2_with fail
  refine (HS.out _).mono ?_
  rintro e w' ⟨rfl, rfl⟩
  go_wp2_with fail
  refine (HT.out _).mono ?_
  rintro e w' ⟨rfl, rfl⟩
  go_wp2_with fail
  refine (HM.out _).mono ?_
  rintro e w' ⟨rfl, rfl⟩
  go_wp2_with fail
  refine (check_no 40 _).mono ?_
  rintro e w' ⟨rfl, rfl⟩
  go_wp2
  exact ⟨rfl, rfl, rfl⟩
set_option maxRecDepth 100000 in
theorem prod_00_hi (a b : Int) (h1 : decide (a < 0) = false) (h2 : decide (b < 0) = false) (L : Nat) (H : Int) (hH : (H == 0) = false) (x y : Nat) (hS : ∀ w, Calls Tryz.prog 90 #[.int .i64 a] w fun e w' => e = .returned (.int .u64 (x : Int)) ∧ w' = w) (hT : ∀ w, Calls Tryz.prog 90 #[.int .i64 b] w fun e w' => e = .returned (.int .u64 (y : Int)) ∧ w' = w) (hM : ∀ w, Calls Tryz.prog 89 #[.int .u64 x, .int .u64 y] w fun e w' => e = .returned (.tuple #[.int .u64 H, .int .u64 (L : Int)]) ∧ w' = w) (w : World) : Calls Tryz.prog 66 #[.int .i64 a, .int .i64 b] w fun e w' => e = errP 40 ∧ w' = w := by
  have HS := Asd.mk hS
  have HT := Asd.mk hT
  have HM := Asd.mk hM
  clear hS hT hM
  go_enter Tryz.func66, Tryz.ntmps66
  go_wp2_with fail
  refine (HS.out _).mono ?_
  rintro e w' ⟨rfl, rfl⟩
  go_wp2_with fail
  refine (HT.out _).mono ?_
  rintro e w' ⟨rfl, rfl⟩
  go_wp2_with fail
  refine (HM.out _).mono ?_
  rintro e w' ⟨rfl, rfl⟩
  go_wp2_with fail
  refine (check_no 40 _).mono ?_
  rintro e w' ⟨rfl, rfl⟩
  go_wp2
  exact ⟨rfl, rfl, rfl⟩
set_option maxRecDepth 100000 in
theorem prod_01_ok (a b : Int) (h1 : decide (a < 0) = false) (h2 : decide (b < 0) = true) (L : Nat) (hL : (L : Int) ≤ 9223372036854775808) (z : Int) (hz : IntKind.i64.wrap (IntKind.u64.wrap (-(L : Int))) = z) (x y : Nat) (hS : ∀ w, Calls Tryz.prog 90 #[.int .i64 a] w fun e w' => e = .returned (.int .u64 (x : Int)) ∧ w' = w) (hT : ∀ w, Calls Tryz.prog 90 #[.int .i64 b] w fun e w' => e = .returned (.int .u64 (y : Int)) ∧ w' = w) (hM : ∀ w, Calls Tryz.prog 89 #[.int .u64 x, .int .u64 y] w fun e w' => e = .returned (.tuple #[.int .u64 (0 : Int), .int .u64 (L : Int)]) ∧ w' = w) (w : World) : Calls Tryz.prog 66 #[.int .i64 a, .int .i64 b] w fun e w' => e = .returned (.int .i64 z) ∧ w' = w := by
  have HS := Asd.mk hS
  have HT := Asd.mk hT
  have HM := Asd.mk hM
  clear hS hT hM
  go_enter Tryz.func66, Tryz.ntmps66
  go_wp2_with fail
  refine (HS.out _).mono ?_
  rintro e w' ⟨rfl, rfl⟩
  go_wp2_with fail
  refine (HT.out _).mono ?_
  rintro e w' ⟨rfl, rfl⟩
  go_wp2_with fail
  refine (HM.out _).mono ?_
  rintro e w' ⟨rfl, rfl⟩
  go_wp2_with fail
  refine (check_ok 40 _).mono ?_
  rintro e w' ⟨rfl, rfl⟩
  go_wp2
  go_ret
  exact ⟨rfl, rfl⟩
set_option maxRecDepth 100000 in
theorem prod_01_no (a b : Int) (h1 : decide (a < 0) = false) (h2 : decide (b < 0) = true) (L : Nat) (hL : decide ((L : Int) ≤ 9223372036854775808) = false) (x y : Nat) (hS : ∀ w, Calls Tryz.prog 90 #[.int .i64 a] w fun e w' => e = .returned (.int .u64 (x : Int)) ∧ w' = w) (hT : ∀ w, Calls Tryz.prog 90 #[.int .i64 b] w fun e w' => e = .returned (.int .u64 (y : Int)) ∧ w' = w) (hM : ∀ w, Calls Tryz.prog 89 #[.int .u64 x, .int .u64 y] w fun e w' => e = .returned (.tuple #[.int .u64 (0 : Int), .int .u64 (L : Int)]) ∧ w' = w) (w : World) : Calls Tryz.prog 66 #[.int .i64 a, .int .i64 b] w fun e w' => e = errP 40 ∧ w' = w := by
  have HS := Asd.mk hS
  have HT := Asd.mk hT
  have HM := Asd.mk hM
  clear hS hT hM
  go_enter Tryz.func66, Tryz.ntmps66
  go_wp2_with fail
  refine (HS.out _).mono ?_
  rintro e w' ⟨rfl, rfl⟩
  go_wp2_with fail
  refine (HT.out _).mono ?_
  rintro e w' ⟨rfl, rfl⟩
  go_wp2_with fail
  refine (HM.out _).mono ?_
  rintro e w' ⟨rfl, rfl⟩
  go_wp2_with fail
  refine (check_no 40 _).mono ?_
  rintro e w' ⟨rfl, rfl⟩
  go_wp2
  exact ⟨rfl, rfl, rfl⟩
set_option maxRecDepth 100000 in
theorem prod_01_hi (a b : Int) (h1 : decide (a < 0) = false) (h2 : decide (b < 0) = true) (L : Nat) (H : Int) (hH : (H == 0) = false) (x y : Nat) (hS : ∀ w, Calls Tryz.prog 90 #[.int .i64 a] w fun e w' => e = .returned (.int .u64 (x : Int)) ∧ w' = w) (hT : ∀ w, Calls Tryz.prog 90 #[.int .i64 b] w fun e w' => e = .returned (.int .u64 (y : Int)) ∧ w' = w) (hM : ∀ w, Calls Tryz.prog 89 #[.int .u64 x, .int .u64 y] w fun e w' => e = .returned (.tuple #[.int .u64 H, .int .u64 (L : Int)]) ∧ w' = w) (w : World) : Calls Tryz.prog 66 #[.int .i64 a, .int .i64 b] w fun e w' => e = errP 40 ∧ w' = w := by
  have HS := Asd.mk hS
  have HT := Asd.mk hT
  have HM := Asd.mk hM
  clear hS hT hM
  go_enter Tryz.func66, Tryz.ntmps66
  go_wp2_with fail
  refine (HS.out _).mono ?_
  rintro e w' ⟨rfl, rfl⟩
  go_wp2_with fail
  refine (HT.out _).mono ?_
  rintro e w' ⟨rfl, rfl⟩
  go_wp2_with fail
  refine (HM.out _).mono ?_
  rintro e w' ⟨rfl, rfl⟩
  go_wp2_with fail
  refine (check_no 40 _).mono ?_
  rintro e w' ⟨rfl, rfl⟩
  go_wp2
  exact ⟨rfl, rfl, rfl⟩
set_option maxRecDepth 100000 in
theorem prod_10_ok (a b : Int) (h1 : decide (a < 0) = true) (h2 : decide (b < 0) = false) (L : Nat) (hL : (L : Int) ≤ 9223372036854775808) (z : Int) (hz : IntKind.i64.wrap (IntKind.u64.wrap (-(L : Int))) = z) (x y : Nat) (hS : ∀ w, Calls Tryz.prog 90 #[.int .i64 a] w fun e w' => e = .returned (.int .u64 (x : Int)) ∧ w' = w) (hT : ∀ w, Calls Tryz.prog 90 #[.int .i64 b] w fun e w' => e = .returned (.int .u64 (y : Int)) ∧ w' = w) (hM : ∀ w, Calls Tryz.prog 89 #[.int .u64 x, .int .u64 y] w fun e w' => e = .returned (.tuple #[.int .u64 (0 : Int), .int .u64 (L : Int)]) ∧ w' = w) (w : World) : Calls Tryz.prog 66 #[.int .i64 a, .int .i64 b] w fun e w' => e = .returned (.int .i64 z) ∧ w' = w := by
  have HS := Asd.mk hS
  have HT := Asd.mk hT
  have HM := Asd.mk hM
  clear hS hT hM
  go_enter Tryz.func66, Tryz.ntmps66
  go_wp2_with fail
  refine (HS.out _).mono ?_
  rintro e w' ⟨rfl, rfl⟩
  go_wp2_with fail
  refine (HT.out _).mono ?_
  rintro e w' ⟨rfl, rfl⟩
  go_wp2_with fail
  refine (HM.out _).mono ?_
  rintro e w' ⟨rfl, rfl⟩
  go_wp2_with fail
  refine (check_ok 40 _).mono ?_
  rintro e w' ⟨rfl, rfl⟩
  go_wp2
  go_ret
  exact ⟨rfl, rfl⟩
set_option maxRecDepth 100000 in
theorem prod_10_no (a b : Int) (h1 : decide (a < 0) = true) (h2 : decide (b < 0) = false) (L : Nat) (hL : decide ((L : Int) ≤ 9223372036854775808) = false) (x y : Nat) (hS : ∀ w, Calls Tryz.prog 90 #[.int .i64 a] w fun e w' => e = .returned (.int .u64 (x : Int)) ∧ w' = w) (hT : ∀ w, Calls Tryz.prog 90 #[.int .i64 b] w fun e w' => e = .returned (.int .u64 (y : Int)) ∧ w' = w) (hM : ∀ w, Calls Tryz.prog 89 #[.int .u64 x, .int .u64 y] w fun e w' => e = .returned (.tuple #[.int .u64 (0 : Int), .int .u64 (L : Int)]) ∧ w' = w) (w : World) : Calls Tryz.prog 66 #[.int .i64 a, .int .i64 b] w fun e w' => e = errP 40 ∧ w' = w := by
  have HS := Asd.mk hS
  have HT := Asd.mk hT
  have HM := Asd.mk hM
  clear hS hT hM
  go_enter Tryz.func66, Tryz.ntmps66
  go_wp2_with fail
  refine (HS.out _).mono ?_
  rintro e w' ⟨rfl, rfl⟩
  go_wp2_with fail
  refine (HT.out _).mono ?_
  rintro e w' ⟨rfl, rfl⟩
  go_wp2_with fail
  refine (HM.out _).mono ?_
  rintro e w' ⟨rfl, rfl⟩
  go_wp2_with fail
  refine (check_no 40 _).mono ?_
  rintro e w' ⟨rfl, rfl⟩
  go_wp2
  exact ⟨rfl, rfl, rfl⟩
set_option maxRecDepth 100000 in
theorem prod_10_hi (a b : Int) (h1 : decide (a < 0) = true) (h2 : decide (b < 0) = false) (L : Nat) (H : Int) (hH : (H == 0) = false) (x y : Nat) (hS : ∀ w, Calls Tryz.prog 90 #[.int .i64 a] w fun e w' => e = .returned (.int .u64 (x : Int)) ∧ w' = w) (hT : ∀ w, Calls Tryz.prog 90 #[.int .i64 b] w fun e w' => e = .returned (.int .u64 (y : Int)) ∧ w' = w) (hM : ∀ w, Calls Tryz.prog 89 #[.int .u64 x, .int .u64 y] w fun e w' => e = .returned (.tuple #[.int .u64 H, .int .u64 (L : Int)]) ∧ w' = w) (w : World) : Calls Tryz.prog 66 #[.int .i64 a, .int .i64 b] w fun e w' => e = errP 40 ∧ w' = w := by
  have HS := Asd.mk hS
  have HT := Asd.mk hT
  have HM := Asd.mk hM
  clear hS hT hM
  go_enter Tryz.func66, Tryz.ntmps66
  go_wp2_with fail
  refine (HS.out _).mono ?_
  rintro e w' ⟨rfl, rfl⟩
  go_wp2_with fail
  refine (HT.out _).mono ?_
  rintro e w' ⟨rfl, rfl⟩
  go_wp2_with fail
  refine (HM.out _).mono ?_
  rintro e w' ⟨rfl, rfl⟩
  go_wp2_with fail
  refine (check_no 40 _).mono ?_
  rintro e w' ⟨rfl, rfl⟩
  go_wp2
  exact ⟨rfl, rfl, rfl⟩
set_option maxRecDepth 100000 in
theorem prod_11_ok (a b : Int) (h1 : decide (a < 0) = true) (h2 : decide (b < 0) = true) (L : Nat) (hL : (L : Int) ≤ 9223372036854775807) (z : Int) (hz : IntKind.i64.wrap (L : Int) = z) (x y : Nat) (hS : ∀ w, Calls Tryz.prog 90 #[.int .i64 a] w fun e w' => e = .returned (.int .u64 (x : Int)) ∧ w' = w) (hT : ∀ w, Calls Tryz.prog 90 #[.int .i64 b] w fun e w' => e = .returned (.int .u64 (y : Int)) ∧ w' = w) (hM : ∀ w, Calls Tryz.prog 89 #[.int .u64 x, .int .u64 y] w fun e w' => e = .returned (.tuple #[.int .u64 (0 : Int), .int .u64 (L : Int)]) ∧ w' = w) (w : World) : Calls Tryz.prog 66 #[.int .i64 a, .int .i64 b] w fun e w' => e = .returned (.int .i64 z) ∧ w' = w := by
  have HS := Asd.mk hS
  have HT := Asd.mk hT
  have HM := Asd.mk hM
  clear hS hT hM
  go_enter Tryz.func66, Tryz.ntmps66
  go_wp2_with fail
  refine (HS.out _).mono ?_
  rintro e w' ⟨rfl, rfl⟩
  go_wp2_with fail
  refine (HT.out _).mono ?_
  rintro e w' ⟨rfl, rfl⟩
  go_wp2_with fail
  refine (HM.out _).mono ?_
  rintro e w' ⟨rfl, rfl⟩
  go_wp2_with fail
  refine (check_ok 40 _).mono ?_
  rintro e w' ⟨rfl, rfl⟩
  go_wp2
  go_ret
  exact ⟨rfl, rfl⟩
set_option maxRecDepth 100000 in
theorem prod_11_no (a b : Int) (h1 : decide (a < 0) = true) (h2 : decide (b < 0) = true) (L : Nat) (hL : decide ((L : Int) ≤ 9223372036854775807) = false) (x y : Nat) (hS : ∀ w, Calls Tryz.prog 90 #[.int .i64 a] w fun e w' => e = .returned (.int .u64 (x : Int)) ∧ w' = w) (hT : ∀ w, Calls Tryz.prog 90 #[.int .i64 b] w fun e w' => e = .returned (.int .u64 (y : Int)) ∧ w' = w) (hM : ∀ w, Calls Tryz.prog 89 #[.int .u64 x, .int .u64 y] w fun e w' => e = .returned (.tuple #[.int .u64 (0 : Int), .int .u64 (L : Int)]) ∧ w' = w) (w : World) : Calls Tryz.prog 66 #[.int .i64 a, .int .i64 b] w fun e w' => e = errP 40 ∧ w' = w := by
  have HS := Asd.mk hS
  have HT := Asd.mk hT
  have HM := Asd.mk hM
  clear hS hT hM
  go_enter Tryz.func66, Tryz.ntmps66
  go_wp2_with fail
  refine (HS.out _).mono ?_
  rintro e w' ⟨rfl, rfl⟩
  go_wp2_with fail
  refine (HT.out _).mono ?_
  rintro e w' ⟨rfl, rfl⟩
  go_wp2_with fail
  refine (HM.out _).mono ?_
  rintro e w' ⟨rfl, rfl⟩
  go_wp2_with fail
  refine (check_no 40 _).mono ?_
  rintro e w' ⟨rfl, rfl⟩
  go_wp2
  exact ⟨rfl, rfl, rfl⟩
set_option maxRecDepth 100000 in
theorem prod_11_hi (a b : Int) (h1 : decide (a < 0) = true) (h2 : decide (b < 0) = true) (L : Nat) (H : Int) (hH : (H == 0) = false) (x y : Nat) (hS : ∀ w, Calls Tryz.prog 90 #[.int .i64 a] w fun e w' => e = .returned (.int .u64 (x : Int)) ∧ w' = w) (hT : ∀ w, Calls Tryz.prog 90 #[.int .i64 b] w fun e w' => e = .returned (.int .u64 (y : Int)) ∧ w' = w) (hM : ∀ w, Calls Tryz.prog 89 #[.int .u64 x, .int .u64 y] w fun e w' => e = .returned (.tuple #[.int .u64 H, .int .u64 (L : Int)]) ∧ w' = w) (w : World) : Calls Tryz.prog 66 #[.int .i64 a, .int .i64 b] w fun e w' => e = errP 40 ∧ w' = w := by
  have HS := Asd.mk hS
  have HT := Asd.mk hT
  have HM := Asd.mk hM
  clear hS hT hM
  go_enter Tryz.func66, Tryz.ntmps66
  go_wp2_with fail
  refine (HS.out _).mono ?_
  rintro e w' ⟨rfl, rfl⟩
  go_wp2_with fail
  refine (HT.out _).mono ?_
  rintro e w' ⟨rfl, rfl⟩
  go_wp2_with fail
  refine (HM.out _).mono ?_
  rintro e w' ⟨rfl, rfl⟩
  go_wp2_with fail
  refine (check_no 40 _).mono ?_
  rintro e w' ⟨rfl, rfl⟩
  go_wp2
  exact ⟨rfl, rfl, rfl⟩
theorem i64_left' (n : Int) : IntKind.i64.wrap n = (n + 9223372036854775808) % 18446744073709551616 - 9223372036854775808 := IntKind.wrap_i64 n
theorem prod_calls (a b : Int) (ha : inI a) (hb : inI b) (w : World) : Calls Tryz.prog 66 #[.int .i64 a, .int .i64 b] w (SumR (numN (a * b)) w) := by
  have hx : a.natAbs < 18446744073709551616 := by have := ha.1; have := ha.2; omega
  have hy : b.natAbs < 18446744073709551616 := by have := hb.1; have := hb.2; omega
  have hM := fun w => Tryz.bits_Mul64 a.natAbs b.natAbs hx hy w
  have hP := Int.natAbs_mul a b
  generalize a.natAbs * b.natAbs = P at hM hP
  by_cases h1 : a < 0
  · by_cases h2 : b < 0
    · have hs : 0 ≤ a * b := Int.mul_nonneg_of_nonpos_of_nonpos (by omega) (by omega)
      generalize a * b = ab at *
      by_cases hH : P / 18446744073709551616 = 0
      · rw [hH] at hM
        have hPL : P % 18446744073709551616 = P := by omega
        rw [hPL] at hM
        by_cases hL : (P : Int) ≤ 9223372036854775807
        · rw [show numN ab = .ok ab from if_pos ⟨by omega, by omega⟩]
          exact (prod_11_ok a b (decide_eq_true h1) (decide_eq_true h2) P hL ab (by rw [i64_left']; omega) _ _ (size_calls a ha) (size_calls b hb) hM w).mono fun e w' h => ⟨h.2, h.1⟩
        · rw [show numN ab = .error 40 from if_neg (by unfold inI; omega)]
          exact (prod_11_no a b (decide_eq_true h1) (decide_eq_true h2) P (decide_eq_false hL) _ _ (size_calls a ha) (size_calls b hb) hM w).mono fun e w' h => ⟨h.2, h.1⟩
      · rw [show numN ab = .error 40 from if_neg (by unfold inI; omega)]
        exact (prod_11_hi a b (decide_eq_true h1) (decide_eq_true h2) _ _ (by rw [beq_eq_false_iff_ne]; omega) _ _ (size_calls a ha) (size_calls b hb) hM w).mono fun e w' h => ⟨h.2, h.1⟩
    · have hs : a * b ≤ 0 := Int.mul_nonpos_of_nonpos_of_nonneg (by omega) (by omega)
      generalize a * b = ab at *
      by_cases hH : P / 18446744073709551616 = 0
      · rw [hH] at hM
        have hPL : P % 18446744073709551616 = P := by omega
        rw [hPL] at hM
        by_cases hL : (P : Int) ≤ 9223372036854775808
        · rw [show numN ab = .ok ab from if_pos ⟨by omega, by omega⟩]
          exact (prod_10_ok a b (decide_eq_true h1) (decide_eq_false h2) P hL ab (by rw [i64_left', IntKind.wrap_u64]; omega) _ _ (size_calls a ha) (size_calls b hb) hM w).mono fun e w' h => ⟨h.2, h.1⟩
        · rw [show numN ab = .error 40 from if_neg (by unfold inI; omega)]
          exact (prod_10_no a b (decide_eq_true h1) (decide_eq_false h2) P (decide_eq_false hL) _ _ (size_calls a ha) (size_calls b hb) hM w).mono fun e w' h => ⟨h.2, h.1⟩
      · rw [show numN ab = .error 40 from if_neg (by unfold inI; omega)]
        exact (prod_10_hi a b (decide_eq_true h1) (decide_eq_false h2) _ _ (by rw [beq_eq_false_iff_ne]; omega) _ _ (size_calls a ha) (size_calls b hb) hM w).mono fun e w' h => ⟨h.2, h.1⟩
  · by_cases h2 : b < 0
    · have hs : a * b ≤ 0 := Int.mul_nonpos_of_nonneg_of_nonpos (by omega) (by omega)
      generalize a * b = ab at *
      by_cases hH : P / 18446744073709551616 = 0
      · rw [hH] at hM
        have hPL : P % 18446744073709551616 = P := by omega
        rw [hPL] at hM
        by_cases hL : (P : Int) ≤ 9223372036854775808
        · rw [show numN ab = .ok ab from if_pos ⟨by omega, by omega⟩]
          exact (prod_01_ok a b (decide_eq_false h1) (decide_eq_true h2) P hL ab (by rw [i64_left', IntKind.wrap_u64]; omega) _ _ (size_calls a ha) (size_calls b hb) hM w).mono fun e w' h => ⟨h.2, h.1⟩
        · rw [show numN ab = .error 40 from if_neg (by unfold inI; omega)]
          exact (prod_01_no a b (decide_eq_false h1) (decide_eq_true h2) P (decide_eq_false hL) _ _ (size_calls a ha) (size_calls b hb) hM w).mono fun e w' h => ⟨h.2, h.1⟩
      · rw [show numN ab = .error 40 from if_neg (by unfold inI; omega)]
        exact (prod_01_hi a b (decide_eq_false h1) (decide_eq_true h2) _ _ (by rw [beq_eq_false_iff_ne]; omega) _ _ (size_calls a ha) (size_calls b hb) hM w).mono fun e w' h => ⟨h.2, h.1⟩
    · have hs : 0 ≤ a * b := Int.mul_nonneg (by omega) (by omega)
      generalize a * b = ab at *
      by_cases hH : P / 18446744073709551616 = 0
      · rw [hH] at hM
        have hPL : P % 18446744073709551616 = P := by omega
        rw [hPL] at hM
        by_cases hL : (P : Int) ≤ 9223372036854775807
        · rw [show numN ab = .ok ab from if_pos ⟨by omega, by omega⟩]
          exact (prod_00_ok a b (decide_eq_false h1) (decide_eq_false h2) P hL ab (by rw [i64_left']; omega) _ _ (size_calls a ha) (size_calls b hb) hM w).mono fun e w' h => ⟨h.2, h.1⟩
        · rw [show numN ab = .error 40 from if_neg (by unfold inI; omega)]
          exact (prod_00_no a b (decide_eq_false h1) (decide_eq_false h2) P (decide_eq_false hL) _ _ (size_calls a ha) (size_calls b hb) hM w).mono fun e w' h => ⟨h.2, h.1⟩
      · rw [show numN ab = .error 40 from if_neg (by unfold inI; omega)]
        exact (prod_00_hi a b (decide_eq_false h1) (decide_eq_false h2) _ _ (by rw [beq_eq_false_iff_ne]; omega) _ _ (size_calls a ha) (size_calls b hb) hM w).mono fun e w' h => ⟨h.2, h.1⟩
set_option maxRecDepth 100000 in
theorem sum_mul_ok (a b z : Int) (h : ∀ w, Calls Tryz.prog 66 #[.int .i64 a, .int .i64 b] w fun e w' => e = .returned (.int .i64 z) ∧ w' = w) (w : World) : Calls Tryz.prog 47 #[.int .i64 13, .int .i64 a, .int .i64 b] w fun e w' => e = .returned (.int .i64 z) ∧ w' = w := by
  have H := Asd.mk h
  clear h
  go_enter Tryz.func47, Tryz.ntmps47
  go_wp2_with fail
  refine (H.out _).mono ?_
  rintro e w' ⟨rfl, rfl⟩
  go_wp2
  go_ret
  exact ⟨rfl, rfl⟩
set_option maxRecDepth 100000 in
theorem sum_mul_no (a b : Int) (h : ∀ w, Calls Tryz.prog 66 #[.int .i64 a, .int .i64 b] w fun e w' => e = errP 40 ∧ w' = w) (w : World) : Calls Tryz.prog 47 #[.int .i64 13, .int .i64 a, .int .i64 b] w fun e w' => e = errP 40 ∧ w' = w := by
  have H := Asd.mk h
  clear h
  go_enter Tryz.func47, Tryz.ntmps47
  go_wp2_with fail
  refine (H.out _).mono ?_
  rintro e w' ⟨rfl, rfl⟩
  go_wp2
  exact ⟨rfl, rfl, rfl⟩
theorem sum_calls (op a b : Int) (h : 11 ≤ op) (h' : op ≤ 15) (ha : inI a) (hb : inI b) (w : World) : Calls Tryz.prog 47 #[.int .i64 op, .int .i64 a, .int .i64 b] w (SumR (sumN op a b) w) := by
  have hc : op = 11 ∨ op = 12 ∨ op = 13 ∨ op = 14 ∨ op = 15 := by omega
  have hw1 := fun n => IntWalk.i64_left n
  rcases hc with rfl | rfl | rfl | rfl | rfl
  · have hg := add_fits a b ha hb
    rw [show sumN 11 a b = numN (a + b) from rfl]
    unfold numN
    rw [hw1] at hg
    by_cases hi : inI (a + b)
    · rw [if_pos hi]
      rw [wrap64_id _ hi] at hg
      exact (sum_add_ok a b (a + b) (wrap64_id _ hi) (decide_eq_true (hg.2 hi)) w).mono fun e w' h => ⟨h.2, h.1⟩
    · rw [if_neg hi]
      exact (sum_add_no a b _ rfl (decide_eq_false fun h => hi (hg.1 h)) w).mono fun e w' h => ⟨h.2, h.1⟩
  · have hg := sub_fits a b ha hb
    rw [show sumN 12 a b = numN (a - b) from rfl]
    unfold numN
    rw [hw1] at hg
    by_cases hi : inI (a - b)
    · rw [if_pos hi]
      rw [wrap64_id _ hi] at hg
      exact (sum_sub_ok a b (a - b) (wrap64_id _ hi) (decide_eq_true (hg.2 hi)) w).mono fun e w' h => ⟨h.2, h.1⟩
    · rw [if_neg hi]
      exact (sum_sub_no a b _ rfl (decide_eq_false fun h => hi (hg.1 h)) w).mono fun e w' h => ⟨h.2, h.1⟩
  · rw [show sumN 13 a b = numN (a * b) from rfl]
    have hp := prod_calls a b ha hb
    unfold numN at hp ⊢
    by_cases hi : inI (a * b)
    · rw [if_pos hi] at hp ⊢
      exact (sum_mul_ok a b _ (fun w => (hp w).mono fun e w' h => ⟨h.2, h.1⟩) w).mono fun e w' h => ⟨h.2, h.1⟩
    · rw [if_neg hi] at hp ⊢
      exact (sum_mul_no a b (fun w => (hp w).mono fun e w' h => ⟨h.2, h.1⟩) w).mono fun e w' h => ⟨h.2, h.1⟩
  · by_cases hz : b = 0
    · subst hz
      exact (sum_14_zero a w).mono fun e w' h => ⟨h.2, h.1⟩
    · rw [show sumN 14 a b = numN (a.tdiv b) by simp [sumN, hz]]
      unfold numN
      by_cases hl : a = -9223372036854775808
      · subst hl
        by_cases hb1 : b = -1
        · subst hb1
          rw [if_neg (by decide)]
          exact (sum_div_least w).mono fun e w' h => ⟨h.2, h.1⟩
        · have hi := tdiv_in _ b ha (fun h => hb1 h.2)
          rw [if_pos hi]
          exact (sum_div2 b _ (by rw [← Int.neg_tdiv]; exact wrap64_id _ hi) hz (by simpa using hz) (by simpa using hb1) w).mono fun e w' h => ⟨h.2, h.1⟩
      · have hi := tdiv_in a b ha (fun h => hl h.1)
        rw [if_pos hi]
        exact (sum_div a b _ (wrap64_id _ hi) hz (by simpa using hz) (by simpa using hl) ha hb w).mono fun e w' h => ⟨h.2, h.1⟩
  · by_cases hz : b = 0
    · subst hz
      exact (sum_15_zero a w).mono fun e w' h => ⟨h.2, h.1⟩
    · rw [show sumN 15 a b = .ok (a.tmod b) by simp [sumN, hz]]
      by_cases hb1 : b = -1
      · subst hb1
        rw [show a.tmod (-1) = 0 by simp]
        exact (sum_rem_one a w).mono fun e w' h => ⟨h.2, h.1⟩
      · exact (sum_rem a b hz (by simpa using hz) (by simpa using hb1) ha hb w).mono fun e w' h => ⟨h.2, h.1⟩

theorem nan64 (x : Int) (w : World) : Calls Tryz.prog 87 #[.int .i64 x] w fun e w' => e = .returned (.bool false) ∧ w' = w := by
  go_enter Tryz.func87, Tryz.ntmps87
  go_wp2
  go_ret
  exact ⟨rfl, rfl⟩
theorem cmp64_lt (x y : Int) (h : x < y) (w : World) : Calls Tryz.prog 64 #[.int .i64 x, .int .i64 y] w fun e w' => e = .returned (.int .i64 (-1)) ∧ w' = w := by
  go_enter Tryz.func64, Tryz.ntmps64
  go_wp2_with fail
  refine (nan64 x _).mono ?_
  rintro e w' ⟨rfl, rfl⟩
  go_wp2_with fail
  refine (nan64 y _).mono ?_
  rintro e w' ⟨rfl, rfl⟩
  go_wp2
  go_ret
  exact ⟨rfl, rfl⟩
theorem cmp64_gt (x y : Int) (h : ¬ x < y) (h' : y < x) (w : World) : Calls Tryz.prog 64 #[.int .i64 x, .int .i64 y] w fun e w' => e = .returned (.int .i64 1) ∧ w' = w := by
  go_enter Tryz.func64, Tryz.ntmps64
  go_wp2_with fail
  refine (nan64 x _).mono ?_
  rintro e w' ⟨rfl, rfl⟩
  go_wp2_with fail
  refine (nan64 y _).mono ?_
  rintro e w' ⟨rfl, rfl⟩
  go_wp2
  go_ret
  exact ⟨rfl, rfl⟩
theorem cmp64_eq (x y : Int) (h : ¬ x < y) (h' : ¬ y < x) (w : World) : Calls Tryz.prog 64 #[.int .i64 x, .int .i64 y] w fun e w' => e = .returned (.int .i64 0) ∧ w' = w := by
  go_enter Tryz.func64, Tryz.ntmps64
  go_wp2_with fail
  refine (nan64 x _).mono ?_
  rintro e w' ⟨rfl, rfl⟩
  go_wp2_with fail
  refine (nan64 y _).mono ?_
  rintro e w' ⟨rfl, rfl⟩
  go_wp2
  go_ret
  exact ⟨rfl, rfl⟩
theorem cmp64_calls (x y : Int) (w : World) : Calls Tryz.prog 64 #[.int .i64 x, .int .i64 y] w fun e w' => e = .returned (.int .i64 (if x < y then -1 else if y < x then 1 else 0)) ∧ w' = w := by
  by_cases h : x < y
  · rw [if_pos h]; exact cmp64_lt x y h w
  · rw [if_neg h]
    by_cases h' : y < x
    · rw [if_pos h']; exact cmp64_gt x y h h' w
    · rw [if_neg h']; exact cmp64_eq x y h h' w
set_option maxRecDepth 100000 in
theorem compare_num (k x y : Int) (hk : k = 1 ∨ k = 2) (z : Int) (s t : List UInt8) (H : Asd (∀ w, Calls Tryz.prog 64 #[.int .i64 x, .int .i64 y] w fun e w' => e = .returned (.int .i64 z) ∧ w' = w)) (w : World) :
    Calls Tryz.prog 45 #[vC ⟨k, x, s⟩, vC ⟨k, y, t⟩] w fun e w' => e = .returned (.int .i64 z) ∧ Below w.heap.size w w' := by
  unfold vC
  rcases hk with rfl | rfl
  all_goals
    go_enter Tryz.func45, Tryz.ntmps45
    go_wp2_with fail
    refine (H.out _).mono ?_
    rintro e w' ⟨rfl, rfl⟩
    go_wp2
    go_ret
    exact ⟨rfl, below_alloc (below_alloc (Below.refl _ _) _) _⟩
set_option maxRecDepth 100000 in
theorem compare_text (k x y : Int) (hk : k = 3 ∨ k = 4) (s t : List UInt8) (w : World) :
    Calls Tryz.prog 45 #[vC ⟨k, x, s⟩, vC ⟨k, y, t⟩] w fun e w' => e = .returned (.int .i64 (Lib.compareBytes s t)) ∧ Below w.heap.size w w' := by
  have H := Asd.mk (fun w => Tryz.strings_Compare ⟨s.toArray⟩ ⟨t.toArray⟩ w)
  unfold vC
  rcases hk with rfl | rfl
  all_goals
    go_enter Tryz.func45, Tryz.ntmps45
    go_wp2_with fail
    refine (H.out _).mono ?_
    rintro e w' ⟨rfl, rfl⟩
    go_wp2
    go_ret
    exact ⟨rfl, below_alloc (below_alloc (Below.refl _ _) _) _⟩
theorem compare_calls (a b : Vl) (ha : RV a) (hb : RV b) (hk : a.kind = b.kind) (h0 : ¬ a.kind = 0) (w : World) :
    Calls Tryz.prog 45 #[vC a, vC b] w fun e w' => e = .returned (.int .i64 (cmpV a b)) ∧ Below w.heap.size w w' := by
  cases ha with
  | null => exact absurd rfl h0
  | bool p => cases hb with
    | bool q => exact compare_num 1 _ _ (.inl rfl) _ _ _ ⟨cmp64_calls _ _⟩ w
    | null => cases hk
    | num n h => cases hk
    | text s h => cases hk
    | blob s h => cases hk
  | num n h => cases hb with
    | num m h => exact compare_num 2 _ _ (.inr rfl) _ _ _ ⟨cmp64_calls _ _⟩ w
    | null => cases hk
    | bool p => cases hk
    | text s h => cases hk
    | blob s h => cases hk
  | text s h => cases hb with
    | text t h => exact compare_text 3 _ _ (.inl rfl) _ _ w
    | null => cases hk
    | bool p => cases hk
    | num n h => cases hk
    | blob s h => cases hk
  | blob s h => cases hb with
    | blob t h => exact compare_text 4 _ _ (.inr rfl) _ _ w
    | null => cases hk
    | bool p => cases hk
    | num n h => cases hk
    | text s h => cases hk
end Go.Proofs.YtbeeaikilcnpgaaGreatDoor.Exp
