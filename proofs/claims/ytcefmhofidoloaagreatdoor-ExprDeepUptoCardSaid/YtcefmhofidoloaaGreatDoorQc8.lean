/- Texts put together: Rd18, Rd19, NumP, CatP, AgainP, Place, Rd20, Rd29, Works, Rd21, Rd22, Rd23, Rd24, Rd25, Rd26, Prin, Rd27. -/
import Derived.Test.YtcefmhofidoloaaGreatDoorQc7
import Derived.Defers
import Derived.Recover
import Derived.Lib.ItoaLen
import Derived.Lib.ParseIntB
import Derived.Lib.AppendIntMem
/- The reader of expressions: call; all parts together; Read. -/
set_option linter.unusedVariables false
set_option linter.unusedSimpArgs false
namespace Go.Proofs.YtcefmhofidoloaaGreatDoor.Exp
open Go.RowKit Go.Proofs.YtcefmhofidoloaaGreatDoor.Base Go.Proofs.YtcefmhofidoloaaGreatDoor.App Go.Proofs.YtcefmhofidoloaaGreatDoor.Byt Go.Proofs.YtcefmhofidoloaaGreatDoor.Lex

set_option maxRecDepth 100000 in
set_option maxHeartbeats 6400000 in
theorem call_calls (R : Nat) (A : Option Addr) (m c : Nat) (l : Toks) (sub : Option PF) (f : Int × Int × Nat) (i d : Nat) (w : World) (hnear : Near l) (hd : d ≤ 32) (hn : 1 ≤ f.2.2 ∧ f.2.2 ≤ 3) (hi : i < l.length)
    (hsome : ∀ p, sub = some p → d < 32 ∧ PartOK 59 R A m c l p.or (d + 1)) (hnone : sub = none → ¬ d < 32) (h : RdW w R A m c l i d) :
    Calls Tryz.prog 267 #[.pointer (some ⟨R, 0, none⟩), .agg #[.int .i64 f.1, .int .i64 f.2.1, .int .i64 (f.2.2 : Nat)]] w (Got R A m c l d w (callP l sub f i)) := by
  have HH := Asd.mk h
  have HSO := Asd.mk hsome
  have HNO := Asd.mk hnone
  have HNE := Asd.mk hnear
  have HD := Asd.mk hd
  have HN := Asd.mk hn
  have HI := Asd.mk hi
  have hmf := mk_func
  have HRW : Asd (R < w.heap.size) := Asd.mk (blk_lt h.blk)
  have HBB := Asd.mk (below_alloc (below_alloc (below_alloc (below_alloc (Below.refl _ w) (.cells #[.pointer (some ⟨R, 0, none⟩)] 107 (0, 0))) (.cells #[.int .i64 f.1, .int .i64 f.2.1, .int .i64 (f.2.2 : Nat)] 278 (0, 0))) (.cells #[.int .i64 0, .int .i64 0, .int .i64 0, .int .i64 0, .string ⟨#[]⟩, .string ⟨#[]⟩, .string ⟨#[]⟩, .int .i64 0, .int .i64 0, .slice none 0 0] 58 (0, 0))) (.cells #[.int .i64 f.1, .int .i64 f.2.1, .int .i64 0, .int .i64 0, .string ⟨#[]⟩, .string ⟨#[]⟩, .string ⟨#[]⟩, .int .i64 0, .int .i64 0, .slice none 0 0] 58 (0, 0)))
  have HP1 := Asd.mk (blk_alloc (blk_alloc (blk_alloc (blk_new w (.cells #[.pointer (some ⟨R, 0, none⟩)] 107 (0, 0))) (.cells #[.int .i64 f.1, .int .i64 f.2.1, .int .i64 (f.2.2 : Nat)] 278 (0, 0))) (.cells #[.int .i64 0, .int .i64 0, .int .i64 0, .int .i64 0, .string ⟨#[]⟩, .string ⟨#[]⟩, .string ⟨#[]⟩, .int .i64 0, .int .i64 0, .slice none 0 0] 58 (0, 0))) (.cells #[.int .i64 f.1, .int .i64 f.2.1, .int .i64 0, .int .i64 0, .string ⟨#[]⟩, .string ⟨#[]⟩, .string ⟨#[]⟩, .int .i64 0, .int .i64 0, .slice none 0 0] 58 (0, 0)))
  have HPF := Asd.mk (blk_alloc (blk_alloc (nb1 w (.cells #[.pointer (some ⟨R, 0, none⟩)] 107 (0, 0)) (.cells #[.int .i64 f.1, .int .i64 f.2.1, .int .i64 (f.2.2 : Nat)] 278 (0, 0))) (.cells #[.int .i64 0, .int .i64 0, .int .i64 0, .int .i64 0, .string ⟨#[]⟩, .string ⟨#[]⟩, .string ⟨#[]⟩, .int .i64 0, .int .i64 0, .slice none 0 0] 58 (0, 0))) (.cells #[.int .i64 f.1, .int .i64 f.2.1, .int .i64 0, .int .i64 0, .string ⟨#[]⟩, .string ⟨#[]⟩, .string ⟨#[]⟩, .int .i64 0, .int .i64 0, .slice none 0 0] 58 (0, 0)))
  have HZ5 := Asd.mk (blk_alloc (nb2 w (.cells #[.pointer (some ⟨R, 0, none⟩)] 107 (0, 0)) (.cells #[.int .i64 f.1, .int .i64 f.2.1, .int .i64 (f.2.2 : Nat)] 278 (0, 0)) (.cells #[.int .i64 0, .int .i64 0, .int .i64 0, .int .i64 0, .string ⟨#[]⟩, .string ⟨#[]⟩, .string ⟨#[]⟩, .int .i64 0, .int .i64 0, .slice none 0 0] 58 (0, 0))) (.cells #[.int .i64 f.1, .int .i64 f.2.1, .int .i64 0, .int .i64 0, .string ⟨#[]⟩, .string ⟨#[]⟩, .string ⟨#[]⟩, .int .i64 0, .int .i64 0, .slice none 0 0] 58 (0, 0)))
  have HU0 := Asd.mk (nb3 w (.cells #[.pointer (some ⟨R, 0, none⟩)] 107 (0, 0)) (.cells #[.int .i64 f.1, .int .i64 f.2.1, .int .i64 (f.2.2 : Nat)] 278 (0, 0)) (.cells #[.int .i64 0, .int .i64 0, .int .i64 0, .int .i64 0, .string ⟨#[]⟩, .string ⟨#[]⟩, .string ⟨#[]⟩, .int .i64 0, .int .i64 0, .slice none 0 0] 58 (0, 0)) (.cells #[.int .i64 f.1, .int .i64 f.2.1, .int .i64 0, .int .i64 0, .string ⟨#[]⟩, .string ⟨#[]⟩, .string ⟨#[]⟩, .int .i64 0, .int .i64 0, .slice none 0 0] 58 (0, 0)))
  clear h hsome hnone hnear hd hn hi
  go_enter Tryz.func267, Tryz.ntmps267
  have c1 := (blk_cell HP1.out 0).trans rfl
  go_wp2_with fail
  generalize (((w.alloc (.cells #[.pointer (some ⟨R, 0, none⟩)] 107 (0, 0))).alloc (.cells #[.int .i64 f.1, .int .i64 f.2.1, .int .i64 (f.2.2 : Nat)] 278 (0, 0))).alloc (.cells #[.int .i64 0, .int .i64 0, .int .i64 0, .int .i64 0, .string ⟨#[]⟩, .string ⟨#[]⟩, .string ⟨#[]⟩, .int .i64 0, .int .i64 0, .slice none 0 0] 58 (0, 0))).alloc (.cells #[.int .i64 f.1, .int .i64 f.2.1, .int .i64 0, .int .i64 0, .string ⟨#[]⟩, .string ⟨#[]⟩, .string ⟨#[]⟩, .int .i64 0, .int .i64 0, .slice none 0 0] 58 (0, 0)) = w4 at HBB HP1 HPF HZ5 HU0 ⊢
  have HRD := Asd.mk (HH.out.below HBB.out)
  have HB4 : Asd (w.heap.size + 1 + 1 + 1 < w4.heap.size) := Asd.mk (blk_lt HU0.out)
  cases hs : sub with
  | none =>
    have HE : Asd (callP l sub f i = .error (stopAt l i, 21)) := Asd.mk (by rw [hs]; rfl)
    have hnd := HNO.out hs
    refine (within_calls 274 #[.pointer (some ⟨w.heap.size + 1, 0, none⟩), .pointer (some ⟨w.heap.size, 0, none⟩), .pointer (some ⟨w.heap.size + 1 + 1 + 1, 0, none⟩)] (fun k => k = R) R A m c l i d (.error (stopAt l i, 21)) (fun _ => True) w4 HNE.out rfl (isGo_of Tryz.func274 (by kernel_rfl) rfl) HI.out HD.out (fun _ _ _ => trivial) HRD.out (fun h => absurd h hnd)).mono ?_
    rintro e w5 ⟨hf5, hm⟩
    rw [if_neg hnd] at hm
    obtain ⟨N, rfl, hN⟩ := hm
    refine ⟨rfl, ?_⟩
    first | rw [← hs, HE.out] | rw [HE.out]
    exact got_error (frR_below HBB.out hf5) ⟨N, rfl, hN⟩
  | some p =>
    obtain ⟨hd32, hpart⟩ := HSO.out p hs
    have HPA := Asd.mk hpart
    have HS := Asd.mk hs
    have HE : Asd (callP l sub f i = inC l p f (i + 1)) := Asd.mk (by rw [hs]; exact callP_in l p f i)
    refine (within_calls 274 #[.pointer (some ⟨w.heap.size + 1, 0, none⟩), .pointer (some ⟨w.heap.size, 0, none⟩), .pointer (some ⟨w.heap.size + 1 + 1 + 1, 0, none⟩)] (fun k => k = R ∨ k = (w.heap.size + 1 + 1 + 1)) R A m c l i d (resJ (inC l p f (i + 1))) (ExAt (w.heap.size + 1 + 1 + 1) w4.heap.size (exOf (inC l p f (i + 1)))) w4 HNE.out (.inl rfl) (isGo_of Tryz.func274 (by kernel_rfl) rfl) HI.out HD.out (fun W v hq => hq.set (by have := HRW.out; omega) (by have := HB4.out; have := HRW.out; omega) 2 v) HRD.out (fun _ w' hf' hr' => ?_)).mono ?_
    · refine (call1_calls (w.heap.size + 1) w.heap.size (w.heap.size + 1 + 1 + 1) R A m c l f p (i + 1) (d + 1) w' HNE.out HN.out (blk_fr HPF.out hf' (by show ¬ w.heap.size + 1 = R; have := HRW.out; omega)) (blk_fr HP1.out hf' (by show ¬ w.heap.size = R; have := HRW.out; omega)) (blk_fr HU0.out hf' (by show ¬ (w.heap.size + 1 + 1 + 1) = R; have := HRW.out; omega)) (by have := HRW.out; omega) (by have := HRW.out; omega) (by omega) (by omega) (by have := HRW.out; omega) HPA.out hr').mono ?_
      rintro e w'' ⟨h1, h2⟩
      exact ⟨h1, ins_mono h2 fun W hq => hq.mono hf'.size⟩
    · rintro e w5 ⟨hf5, hm⟩
      rw [if_pos hd32] at hm
      have HF5 : Asd (Fr (fun k => k = R) w w5) := Asd.mk (fr_new (Fr.of_below HBB.out) hf5 (fun k hk => by rcases hk with h | h; exact .inl h; exact .inr (by omega)))
      have HZ6 := Asd.mk (blk_fr HZ5.out hf5 (by show ¬ (w.heap.size + 1 + 1 = R ∨ w.heap.size + 1 + 1 = (w.heap.size + 1 + 1 + 1)); have := HRW.out; omega))
      clear hf5
      cases hfi : inC l p f (i + 1) with
      | error er =>
        rw [hfi] at hm
        obtain ⟨N, rfl, hN⟩ := hm
        have HE2 : Asd (callP l sub f i = .error er) := Asd.mk (by rw [HE.out, hfi])
        clear hfi
        go_wp2
        refine ⟨rfl, ?_⟩
        first | rw [HE2.out] | rw [← HS.out, HE2.out]
        exact got_error HF5.out ⟨N, rfl, hN⟩
      | ok y =>
        obtain ⟨x, j⟩ := y
        rw [hfi] at hm
        obtain ⟨rfl, hr5, A5, n5, c5', hb5, hh5⟩ := hm
        have HE2 : Asd (callP l sub f i = .ok (x, j)) := Asd.mk (by rw [HE.out, hfi])
        change w5.heap[(w.heap.size + 1 + 1 + 1)]? = some (Obj.cells (exC x (.slice A5 n5 c5')).toArray 58 (0, 0)) at hb5
        change Held _ _ x.args _ at hh5
        have HR5 := Asd.mk hr5
        have HH5 := Asd.mk hh5
        obtain ⟨e0, e1, e2, e3, e4, e5, e6, e7, e8, e9⟩ := ex_cells hb5
        clear hfi hr5 hh5 hb5
        have y0 := (blk_cell HZ6.out 0).trans rfl
        have y1 := (blk_cell HZ6.out 1).trans rfl
        have y2 := (blk_cell HZ6.out 2).trans rfl
        have y3 := (blk_cell HZ6.out 3).trans rfl
        have y4 := (blk_cell HZ6.out 4).trans rfl
        have y5 := (blk_cell HZ6.out 5).trans rfl
        have y6 := (blk_cell HZ6.out 6).trans rfl
        have y7 := (blk_cell HZ6.out 7).trans rfl
        have y8 := (blk_cell HZ6.out 8).trans rfl
        have y9 := (blk_cell HZ6.out 9).trans rfl
        have z0 := blk_frozen HZ6.out 0
        have z1 := blk_frozen HZ6.out 1
        have z2 := blk_frozen HZ6.out 2
        have z3 := blk_frozen HZ6.out 3
        have z4 := blk_frozen HZ6.out 4
        have z5 := blk_frozen HZ6.out 5
        have z6 := blk_frozen HZ6.out 6
        have z7 := blk_frozen HZ6.out 7
        have z8 := blk_frozen HZ6.out 8
        have z9 := blk_frozen HZ6.out 9
        go_wp2
        refine bodyPost_ret (results_cell_row rfl _ _ (w.heap.size + 1 + 1) 58 _ (0, 0) _ rfl (put10_blk HZ6.out _ _ _ _ _ _ _ _ _ _) Tryz.underlying58 rfl (by kernel_rfl)) rfl ?_
        first | rw [HE2.out] | rw [← HS.out, HE2.out]
        exact fin_got HH.out HF5.out (by omega) HR5.out (held_mono HH5.out fun g _ hg => by have h1 := hg.1; have := HB4.out; exact ⟨by omega, by omega⟩)

/-- All parts, at every depth. -/
theorem parts (R : Nat) (A : Option Addr) (m c : Nat) (l : Toks) (hnear : Near l) : ∀ (k d : Nat), d + k = 32 →
    PartOK 133 R A m c l (readF nmOk l k).sign d ∧ PartOK 59 R A m c l (readF nmOk l k).or d ∧
    (∀ cap, PartK 135 cap (CatK R cap) R A m c l (readF nmOk l k).not d) := by
  have step : ∀ (k d : Nat), d + k = 32 → (∀ p, subF nmOk l k = some p → d < 32 ∧ PartOK 133 R A m c l p.sign (d + 1) ∧ PartOK 59 R A m c l p.or (d + 1) ∧ (∀ cap, PartK 135 cap (CatK R cap) R A m c l p.not (d + 1))) →
      (subF nmOk l k = none → ¬ d < 32) → PartOK 133 R A m c l (readF nmOk l k).sign d ∧ PartOK 59 R A m c l (readF nmOk l k).or d ∧
      (∀ cap, PartK 135 cap (CatK R cap) R A m c l (readF nmOk l k).not d) := by
    intro k d hk hs hn
    rw [readF_eq]
    have hah := subF_ahd nmOk l k
    have hitem : PartOK 191 R A m c l (itemP nmOk l (subF nmOk l k)) d := fun w i h =>
      item_calls nmOk R A m c l _ i d w hnear (by omega) (fun w i s hi hr => word_calls R A m c l _ i d s w hnear hi (fun w j f hf hj hr => call_calls R A m c l _ f j d w hnear (by omega) hf (isT_lt hj) (fun p hp => ⟨(hs p hp).1, (hs p hp).2.2.1⟩) hn hr) hr)
        (fun p hp => ⟨(hs p hp).1, (hs p hp).2.2.1⟩) hn h
    have hsign : PartOK 133 R A m c l (signP nmOk l (subF nmOk l k)) d := fun w i h =>
      sign_calls nmOk R A m c l _ i d w hnear (by omega) hitem (fun p hp => ⟨(hs p hp).1, (hs p hp).2.1⟩) hn h
    have hnot : ∀ cap, PartK 135 cap (CatK R cap) R A m c l (notP nmOk l (subF nmOk l k)) d := fun cap w i h hK =>
      not_calls cap (CatK R cap) nmOk R A m c l _ i d w (catK_stays R cap) hK hnear (by omega)
        (fun w i h hK => test_calls cap (CatK R cap) nmOk R A m c l _ i d w hnear (catP_ahd hah) (catK_stays R cap) hK (fun w hK => catK_op hK hnear hah hsign) h)
        (fun p hp => ⟨(hs p hp).1, (hs p hp).2.2.2 cap⟩) hn h
    exact ⟨hsign, fun w i h => or_calls nmOk _ R A m c l i d w hnear hah hnot h, hnot⟩
  intro k
  induction k with
  | zero =>
    intro d hd
    exact step 0 d hd (fun p hp => by cases hp) (fun _ => by omega)
  | succ k ih =>
    intro d hd
    have h1 := ih (d + 1) (by omega)
    exact step (k + 1) d hd (fun p hp => by cases hp; exact ⟨by omega, h1.1, h1.2.1, h1.2.2⟩) (fun h => by cases h)
/-- The reader of expressions. -/
theorem or_reads (R : Nat) (A : Option Addr) (m c : Nat) (l : Toks) (hnear : Near l) (i : Nat) (w : World) (h : RdW w R A m c l i 0) :
    Calls Tryz.prog 59 #[.pointer (some ⟨R, 0, none⟩)] w (Got R A m c l 0 w ((readF nmOk l 32).or i)) := (parts R A m c l hnear 32 0 rfl).2.1 w i h
end Go.Proofs.YtcefmhofidoloaaGreatDoor.Exp

/- expr.Read: an expression from a place of some words on. -/
set_option linter.unusedVariables false
set_option linter.unusedSimpArgs false
namespace Go.Proofs.YtcefmhofidoloaaGreatDoor.Exp
open Go.RowKit Go.Proofs.YtcefmhofidoloaaGreatDoor.Base Go.Proofs.YtcefmhofidoloaaGreatDoor.App Go.Proofs.YtcefmhofidoloaaGreatDoor.Byt Go.Proofs.YtcefmhofidoloaaGreatDoor.Lex

theorem low_many : decide (Tryz.prog.globals.size < Tryz.prog.low) = true := by kernel_rfl
theorem low_heap {w : World} (h : w.ShapedOpen Tryz.prog) : Tryz.prog.low ≤ w.heap.size := by
  have hg := of_decide_eq_true low_many
  obtain ⟨o, o', h1, h2, h3⟩ := h.2 (Tryz.prog.low - 1) (by omega) (by unfold Program.low at *; omega)
  have := blk_lt h1
  omega
theorem drew_blk {W : World} {g : Nat} {o : Obj} (h : W.heap[g]? = some o) : W.drew.heap[g]? = some o := h
theorem as_fault (N : Nat) (w : World) : (Instr.typeAssert (.iface 93 (.pointer (some ⟨N, 0, none⟩))) 20 93 true).run Tryz.prog w = .ok (.tuple #[.pointer (some ⟨N, 0, none⟩), .bool true]) w := by
  kernel_rfl
def zeroC : List Value := [.int .i64 0, .int .i64 0, .int .i64 0, .int .i64 0, .string ⟨#[]⟩, .string ⟨#[]⟩, .string ⟨#[]⟩, .int .i64 0, .int .i64 0, .slice none 0 0]
set_option maxRecDepth 100000 in
set_option maxHeartbeats 1600000 in
/-- The deferred closure of a Read that throws an error: it is caught. -/
theorem catch_fault (p q r N : Nat) (v0 v1 v2 v3 v4 v5 v6 v7 v8 v9 u0 t0 : Value) (w : World) (hp : w.heap[p]? = some (.cells #[v0, v1, v2, v3, v4, v5, v6, v7, v8, v9] 58 (0, 0))) (hq : w.heap[q]? = some (.cells #[u0] 3 (0, 0))) (hr : w.heap[r]? = some (.cells #[t0] 42 (0, 0))) (hpq : p ≠ q) (hpr : p ≠ r) (hqr : q ≠ r) :
    CallsD Tryz.prog 58 #[.pointer (some ⟨p, 0, none⟩), .pointer (some ⟨q, 0, none⟩), .pointer (some ⟨r, 0, none⟩)] (.panicking ({ v := .iface 93 (.pointer (some ⟨N, 0, none⟩)), recovered := false } :: [])) w fun e u' w' =>
      e = .returned (.tuple #[]) ∧ u' = .panicking ({ v := .iface 93 (.pointer (some ⟨N, 0, none⟩)), recovered := true } :: []) ∧ Fr (fun k => k = p ∨ k = q ∨ k = r) w w' ∧ w'.heap[p]? = some (.cells #[.int .i64 0, .int .i64 0, .int .i64 0, .int .i64 0, .string ⟨#[]⟩, .string ⟨#[]⟩, .string ⟨#[]⟩, .int .i64 0, .int .i64 0, .slice none 0 0] 58 (0, 0)) ∧ w'.heap[q]? = some (.cells #[.int .i64 0] 3 (0, 0)) ∧ w'.heap[r]? = some (.cells #[.iface 93 (.pointer (some ⟨N, 0, none⟩))] 42 (0, 0)) := by
  have p0 := (blk_cell hp 0).trans rfl
  have p1 := (blk_cell hp 1).trans rfl
  have p2 := (blk_cell hp 2).trans rfl
  have p3 := (blk_cell hp 3).trans rfl
  have p4 := (blk_cell hp 4).trans rfl
  have p5 := (blk_cell hp 5).trans rfl
  have p6 := (blk_cell hp 6).trans rfl
  have p7 := (blk_cell hp 7).trans rfl
  have p8 := (blk_cell hp 8).trans rfl
  have p9 := (blk_cell hp 9).trans rfl
  have z0 := blk_frozen hp 0
  have z1 := blk_frozen hp 1
  have z2 := blk_frozen hp 2
  have z3 := blk_frozen hp 3
  have z4 := blk_frozen hp 4
  have z5 := blk_frozen hp 5
  have z6 := blk_frozen hp 6
  have z7 := blk_frozen hp 7
  have z8 := blk_frozen hp 8
  have z9 := blk_frozen hp 9
  have q0 := (blk_cell hq 0).trans rfl
  have f0 := blk_frozen hq 0
  have r0 := (blk_cell hr 0).trans rfl
  have g0 := blk_frozen hr 0
  have HP := Asd.mk hp
  have HQ := Asd.mk hq
  have HR := Asd.mk hr
  clear hp hq hr
  refine callsD_of_wpS Tryz.func58 rfl fun c₀ cs hu => ?_
  apply wpS_seq
  apply wpS_region
  simp [wpOpsS, go_sem, recoverD, hu, Tryz.ntmps58, Exit.thenS]
  refine wpS_of_wp ?_
  simp only [Array.replicate_succ, Array.replicate_zero, List.push_toArray, List.append_toArray, List.nil_append, List.cons_append, List.setIfInBounds_toArray, List.set_cons_zero, List.set_cons_succ]
  have hta := as_fault N
  go_wp2
  have k1 := put10_blk HP.out (.int .i64 0) (.int .i64 0) (.int .i64 0) (.int .i64 0) (.string ⟨#[]⟩) (.string ⟨#[]⟩) (.string ⟨#[]⟩) (.int .i64 0) (.int .i64 0) (.slice none 0 0)
  have k2 := blk_far (blk_far k1 (p := ⟨q, 0, none⟩) hpq (.int .i64 0)) (p := ⟨r, 0, none⟩) hpr (.iface 93 (.pointer (some ⟨N, 0, none⟩)))
  have hpf := put10_fr (W := w) (b := p) (S := fun k => k = p) rfl (.int .i64 0) (.int .i64 0) (.int .i64 0) (.int .i64 0) (.string ⟨#[]⟩) (.string ⟨#[]⟩) (.string ⟨#[]⟩) (.int .i64 0) (.int .i64 0) (.slice none 0 0)
  have j1 := blk_far (blk_set (blk_fr HQ.out hpf (by show ¬ q = p; exact Ne.symm hpq)) 0 (.int .i64 0)) (p := ⟨r, 0, none⟩) hqr (.iface 93 (.pointer (some ⟨N, 0, none⟩)))
  have i1 := blk_set (blk_far (blk_fr HR.out hpf (by show ¬ r = p; exact Ne.symm hpr)) (p := ⟨q, 0, none⟩) (Ne.symm hqr) (.int .i64 0)) 0 (.iface 93 (.pointer (some ⟨N, 0, none⟩)))
  have hfr : Fr (fun k => k = p ∨ k = q ∨ k = r) w _ := Fr.setCell (S := fun k => k = p ∨ k = q ∨ k = r) (Fr.setCell (S := fun k => k = p ∨ k = q ∨ k = r) (hpf.mono (fun k hk _ => .inl hk)) (p := ⟨q, 0, none⟩) (.inr (.inl rfl)) (.int .i64 0)) (p := ⟨r, 0, none⟩) (.inr (.inr rfl)) (.iface 93 (.pointer (some ⟨N, 0, none⟩)))
  simp only [bodyPostS]
  exact ⟨trivial, _, rfl, _, results_none rfl _ _ _, rfl, rfl, hfr, k2, by simpa using j1, by simpa using i1⟩
set_option maxRecDepth 100000 in
set_option maxHeartbeats 1600000 in
/-- The deferred closure of a Read that returns: nothing. -/
theorem catch_none (p q r : Nat) (w : World) :
    CallsD Tryz.prog 58 #[.pointer (some ⟨p, 0, none⟩), .pointer (some ⟨q, 0, none⟩), .pointer (some ⟨r, 0, none⟩)] .returning w fun e u' w' => e = .returned (.tuple #[]) ∧ u' = .returning ∧ w' = w := by
  refine callsD_of_wpS Tryz.func58 rfl fun c₀ cs hu => ?_
  apply wpS_seq
  apply wpS_region
  simp [wpOpsS, go_sem, recoverD, hu, Tryz.ntmps58, Exit.thenS]
  refine wpS_of_wp ?_
  simp only [Array.replicate_succ, Array.replicate_zero, List.push_toArray, List.append_toArray, List.nil_append, List.cons_append, List.setIfInBounds_toArray, List.set_cons_zero, List.set_cons_succ]
  go_wp2
  simp only [bodyPostS]
  refine ⟨trivial, .returning, ?_, _, results_none rfl _ _ _, rfl, rfl, trivial⟩
  cases c₀
  simp_all

def zeroE : Ex := .mk 0 0 vNull [] [] 0 0 []
/-- How Read ends. -/
def ReadR (w : World) (r : Res Ex) (e : Ending) (w' : World) : Prop := Below w.heap.size w w' ∧ match r with
  | .ok x => ∃ s, e = .returned (.tuple #[exV x.1 s, .int .i64 (x.2 : Nat), .nilIface]) ∧ Held (fun g => w.heap.size ≤ g) w' x.1.args s
  | .error x => ∃ N, e = .returned (.tuple #[exV zeroE (.slice none 0 0), .int .i64 0, .iface 93 (.pointer (some ⟨N, 0, none⟩))]) ∧ w'.heap[N]? = some (.cells #[.int .i64 (x.1 : Nat), .iface 33 (.int .i64 x.2)] 95 (0, 0))

set_option maxRecDepth 100000 in
set_option maxHeartbeats 6400000 in
theorem read_calls (A : Option Addr) (m c : Nat) (l : Toks) (i : Nat) (w : World) (hsh : w.ShapedOpen Tryz.prog) (htok : TokSl w A m l) (hnear : Near l) (hi : i ≤ l.length) :
    Calls Tryz.prog 21 #[.slice A m c, .int .i64 (i : Nat)] w (ReadR w ((readF nmOk l 32).or i)) := by
  have hmf := mk_func
  have HB : Asd (Below w.heap.size w ((((w.alloc (.cells #[.int .i64 0, .int .i64 0, .int .i64 0, .int .i64 0, .string ⟨#[]⟩, .string ⟨#[]⟩, .string ⟨#[]⟩, .int .i64 0, .int .i64 0, .slice none 0 0] 58 (0, 0))).alloc (.cells #[.int .i64 0] 3 (0, 0))).alloc (.cells #[.nilIface] 42 (0, 0))).alloc (.cells #[.slice A m c, .int .i64 ((i : Nat) : Int), .int .i64 0] 109 (0, 0)))) := Asd.mk (below_alloc (below_alloc (below_alloc (below_alloc (Below.refl _ _) _) _) _) _)
  have HP : Asd (((((w.alloc (.cells #[.int .i64 0, .int .i64 0, .int .i64 0, .int .i64 0, .string ⟨#[]⟩, .string ⟨#[]⟩, .string ⟨#[]⟩, .int .i64 0, .int .i64 0, .slice none 0 0] 58 (0, 0))).alloc (.cells #[.int .i64 0] 3 (0, 0))).alloc (.cells #[.nilIface] 42 (0, 0))).alloc (.cells #[.slice A m c, .int .i64 ((i : Nat) : Int), .int .i64 0] 109 (0, 0))).heap[w.heap.size]? = some (.cells #[.int .i64 0, .int .i64 0, .int .i64 0, .int .i64 0, .string ⟨#[]⟩, .string ⟨#[]⟩, .string ⟨#[]⟩, .int .i64 0, .int .i64 0, .slice none 0 0] 58 (0, 0))) := Asd.mk (blk_alloc (blk_alloc (blk_alloc (blk_new w _) _) _) _)
  have HQ : Asd (((((w.alloc (.cells #[.int .i64 0, .int .i64 0, .int .i64 0, .int .i64 0, .string ⟨#[]⟩, .string ⟨#[]⟩, .string ⟨#[]⟩, .int .i64 0, .int .i64 0, .slice none 0 0] 58 (0, 0))).alloc (.cells #[.int .i64 0] 3 (0, 0))).alloc (.cells #[.nilIface] 42 (0, 0))).alloc (.cells #[.slice A m c, .int .i64 ((i : Nat) : Int), .int .i64 0] 109 (0, 0))).heap[w.heap.size + 1]? = some (.cells #[.int .i64 0] 3 (0, 0))) := Asd.mk (blk_alloc (blk_alloc (nb1 w _ _) _) _)
  have HR : Asd (((((w.alloc (.cells #[.int .i64 0, .int .i64 0, .int .i64 0, .int .i64 0, .string ⟨#[]⟩, .string ⟨#[]⟩, .string ⟨#[]⟩, .int .i64 0, .int .i64 0, .slice none 0 0] 58 (0, 0))).alloc (.cells #[.int .i64 0] 3 (0, 0))).alloc (.cells #[.nilIface] 42 (0, 0))).alloc (.cells #[.slice A m c, .int .i64 ((i : Nat) : Int), .int .i64 0] 109 (0, 0))).heap[w.heap.size + 1 + 1]? = some (.cells #[.nilIface] 42 (0, 0))) := Asd.mk (blk_alloc (nb2 w _ _ _) _)
  have HRD : Asd (RdW ((((w.alloc (.cells #[.int .i64 0, .int .i64 0, .int .i64 0, .int .i64 0, .string ⟨#[]⟩, .string ⟨#[]⟩, .string ⟨#[]⟩, .int .i64 0, .int .i64 0, .slice none 0 0] 58 (0, 0))).alloc (.cells #[.int .i64 0] 3 (0, 0))).alloc (.cells #[.nilIface] 42 (0, 0))).alloc (.cells #[.slice A m c, .int .i64 ((i : Nat) : Int), .int .i64 0] 109 (0, 0))) (w.heap.size + 1 + 1 + 1) A m c l i 0) := Asd.mk ⟨nb3 w _ _ _ _, htok.below HB.out, hi, shaped_below hsh HB.out, by have := low_heap hsh; omega⟩
  have HSZ : Asd (((((w.alloc (.cells #[.int .i64 0, .int .i64 0, .int .i64 0, .int .i64 0, .string ⟨#[]⟩, .string ⟨#[]⟩, .string ⟨#[]⟩, .int .i64 0, .int .i64 0, .slice none 0 0] 58 (0, 0))).alloc (.cells #[.int .i64 0] 3 (0, 0))).alloc (.cells #[.nilIface] 42 (0, 0))).alloc (.cells #[.slice A m c, .int .i64 ((i : Nat) : Int), .int .i64 0] 109 (0, 0))).heap.size = w.heap.size + 1 + 1 + 1 + 1) := Asd.mk (by simp)
  have HNE := Asd.mk hnear
  clear hsh htok hnear hi
  go_enter_defers Tryz.func21, Tryz.ntmps21
  go_wp2_with fail
  try simp only [World.heap_size_alloc]
  change Calls _ _ #[.pointer (some ⟨w.heap.size + 1 + 1 + 1, 0, none⟩)] ((((w.alloc (.cells #[.int .i64 0, .int .i64 0, .int .i64 0, .int .i64 0, .string ⟨#[]⟩, .string ⟨#[]⟩, .string ⟨#[]⟩, .int .i64 0, .int .i64 0, .slice none 0 0] 58 (0, 0))).alloc (.cells #[.int .i64 0] 3 (0, 0))).alloc (.cells #[.nilIface] 42 (0, 0))).alloc (.cells #[.slice A m c, .int .i64 ((i : Nat) : Int), .int .i64 0] 109 (0, 0))) _
  generalize ((((w.alloc (.cells #[.int .i64 0, .int .i64 0, .int .i64 0, .int .i64 0, .string ⟨#[]⟩, .string ⟨#[]⟩, .string ⟨#[]⟩, .int .i64 0, .int .i64 0, .slice none 0 0] 58 (0, 0))).alloc (.cells #[.int .i64 0] 3 (0, 0))).alloc (.cells #[.nilIface] 42 (0, 0))).alloc (.cells #[.slice A m c, .int .i64 ((i : Nat) : Int), .int .i64 0] 109 (0, 0))) = w0 at HB HP HQ HR HRD HSZ ⊢
  refine (or_reads (w.heap.size + 1 + 1 + 1) A m c l HNE.out i w0 HRD.out).mono ?_
  rintro e w2 ⟨hf2, hm⟩
  have HP2 := Asd.mk (blk_fr HP.out hf2 (by show ¬ w.heap.size = w.heap.size + 1 + 1 + 1; omega))
  have HQ2 := Asd.mk (blk_fr HQ.out hf2 (by show ¬ w.heap.size + 1 = w.heap.size + 1 + 1 + 1; omega))
  have HR2 := Asd.mk (blk_fr HR.out hf2 (by show ¬ w.heap.size + 1 + 1 = w.heap.size + 1 + 1 + 1; omega))
  have HB2 : Asd (Below w.heap.size w w2) := Asd.mk (HB.out.trans ⟨hf2.os, hf2.tape, hf2.output, hf2.size, fun k hk => hf2.block k (by have := HB.out.size; omega) (by show ¬ k = w.heap.size + 1 + 1 + 1; omega)⟩)
  clear hf2
  cases ho : (readF nmOk l 32).or i with
  | error er =>
    rw [ho] at hm
    obtain ⟨N, rfl, hN⟩ := hm
    have HN := Asd.mk hN
    have HE := Asd.mk ho
    clear ho hN
    go_wp2_with fail
    refine leaves_cons (f := 58) (args := #[.pointer (some ⟨w.heap.size, 0, none⟩), .pointer (some ⟨w.heap.size + 1, 0, none⟩), .pointer (some ⟨w.heap.size + 1 + 1, 0, none⟩)]) (by simp) (by simp [go_sem]) ?_
    refine (catch_fault w.heap.size (w.heap.size + 1) (w.heap.size + 1 + 1) N _ _ _ _ _ _ _ _ _ _ _ _ w2 HP2.out HQ2.out HR2.out (by omega) (by omega) (by omega)).mono ?_
    rintro e u' w3 ⟨rfl, rfl, hfr, hp, hq, hr⟩
    have p0 := (blk_cell hp 0).trans rfl
    have p1 := (blk_cell hp 1).trans rfl
    have p2 := (blk_cell hp 2).trans rfl
    have p3 := (blk_cell hp 3).trans rfl
    have p4 := (blk_cell hp 4).trans rfl
    have p5 := (blk_cell hp 5).trans rfl
    have p6 := (blk_cell hp 6).trans rfl
    have p7 := (blk_cell hp 7).trans rfl
    have p8 := (blk_cell hp 8).trans rfl
    have p9 := (blk_cell hp 9).trans rfl
    have q0 := (blk_cell hq 0).trans rfl
    have r0 := (blk_cell hr 0).trans rfl
    have hlow : ∀ k, k < w.heap.size → ¬ (k = w.heap.size ∨ k = w.heap.size + 1 ∨ k = w.heap.size + 1 + 1) := fun k hk => by omega
    have HB3 : Below w.heap.size w w3 := HB2.out.trans ⟨hfr.os, hfr.tape, hfr.output, hfr.size, fun k hk => hfr.block k (by have := HB2.out.size; omega) (hlow k hk)⟩
    have hNe : ∀ g t cs, w2.heap[g]? = some (.cells cs t (0, 0)) → t ≠ 95 → N ≠ g := fun g t cs hg ht he => by subst he; rw [HN.out] at hg; injection hg with hg; injection hg with _ h2; exact ht h2.symm
    have HN3 : w3.heap[N]? = _ := blk_fr HN.out hfr (by rintro (h | h | h); exact hNe _ _ _ HP2.out (by decide) h; exact hNe _ _ _ HQ2.out (by decide) h; exact hNe _ _ _ HR2.out (by decide) h)
    simp [Leaves, settle, results, Tryz.results21, go_sem, p0, p1, p2, p3, p4, p5, p6, p7, p8, p9, q0, r0]
    exact ⟨HB3, N, rfl, HN3⟩
  | ok y =>
    obtain ⟨x, j⟩ := y
    rw [ho] at hm
    obtain ⟨s, rfl, hh, hr⟩ := hm
    obtain ⟨As, ms, cs, rfl⟩ := held_slice hh
    have HH := Asd.mk hh
    have HRX := Asd.mk hr
    have HE := Asd.mk ho
    clear ho hh hr
    unfold exV
    have p0 := (blk_cell HP2.out 0).trans rfl
    have p1 := (blk_cell HP2.out 1).trans rfl
    have p2 := (blk_cell HP2.out 2).trans rfl
    have p3 := (blk_cell HP2.out 3).trans rfl
    have p4 := (blk_cell HP2.out 4).trans rfl
    have p5 := (blk_cell HP2.out 5).trans rfl
    have p6 := (blk_cell HP2.out 6).trans rfl
    have p7 := (blk_cell HP2.out 7).trans rfl
    have p8 := (blk_cell HP2.out 8).trans rfl
    have p9 := (blk_cell HP2.out 9).trans rfl
    have z0 := blk_frozen HP2.out 0
    have z1 := blk_frozen HP2.out 1
    have z2 := blk_frozen HP2.out 2
    have z3 := blk_frozen HP2.out 3
    have z4 := blk_frozen HP2.out 4
    have z5 := blk_frozen HP2.out 5
    have z6 := blk_frozen HP2.out 6
    have z7 := blk_frozen HP2.out 7
    have z8 := blk_frozen HP2.out 8
    have z9 := blk_frozen HP2.out 9
    go_upto_region 4 with fail
    have HPF := Asd.mk (put10_fr (W := w2) (b := w.heap.size) (S := fun k => k = w.heap.size) rfl (.int .i64 x.kind) (.int .i64 x.op) (.int .i64 x.v.kind) (.int .i64 x.v.int) (.string ⟨x.v.text.toArray⟩) (.string ⟨x.table.toArray⟩) (.string ⟨x.name.toArray⟩) (.int .i64 x.col) (.int .i64 x.ty) (.slice As ms cs))
    have HX3 := Asd.mk (put10_blk HP2.out (.int .i64 x.kind) (.int .i64 x.op) (.int .i64 x.v.kind) (.int .i64 x.v.int) (.string ⟨x.v.text.toArray⟩) (.string ⟨x.table.toArray⟩) (.string ⟨x.name.toArray⟩) (.int .i64 x.col) (.int .i64 x.ty) (.slice As ms cs))
    have HQ3 := Asd.mk (blk_fr HQ2.out HPF.out (by show ¬ w.heap.size + 1 = w.heap.size; omega))
    have HR3 := Asd.mk (blk_fr HR2.out HPF.out (by show ¬ w.heap.size + 1 + 1 = w.heap.size; omega))
    have HD3 := Asd.mk (blk_fr HRX.out.blk HPF.out (by show ¬ w.heap.size + 1 + 1 + 1 = w.heap.size; omega))
    have HH3 := Asd.mk (held_frS HH.out HPF.out (fun g hg h => by have h1 : w0.heap.size ≤ g := hg; have h2 : g = w.heap.size := h; have := HSZ.out; omega))
    have HB3 : Asd (Below w.heap.size w _) := Asd.mk (HB2.out.trans ⟨HPF.out.os, HPF.out.tape, HPF.out.output, HPF.out.size, fun k hk => HPF.out.block k (by have := HB2.out.size; omega) (by show ¬ k = w.heap.size; omega)⟩)
    generalize ((((((((((w2.setCell ⟨w.heap.size, 0, none⟩ (.int .i64 x.kind)).setCell ⟨w.heap.size, 1, none⟩ (.int .i64 x.op)).setCell ⟨w.heap.size, 2, none⟩ (.int .i64 x.v.kind)).setCell ⟨w.heap.size, 3, none⟩ (.int .i64 x.v.int)).setCell ⟨w.heap.size, 4, none⟩ (.string ⟨x.v.text.toArray⟩)).setCell ⟨w.heap.size, 5, none⟩ (.string ⟨x.table.toArray⟩)).setCell ⟨w.heap.size, 6, none⟩ (.string ⟨x.name.toArray⟩)).setCell ⟨w.heap.size, 7, none⟩ (.int .i64 x.col)).setCell ⟨w.heap.size, 8, none⟩ (.int .i64 x.ty)).setCell ⟨w.heap.size, 9, none⟩ (.slice As ms cs)) = w3 at HPF HX3 HQ3 HR3 HD3 HH3 HB3 ⊢
    clear p0 z0 p1 z1 p2 z2 p3 z3 p4 z4 p5 z5 p6 z6 p7 z7 p8 z8 p9 z9
    obtain ⟨e0, e1, e2, e3, e4, e5, e6, e7, e8, e9⟩ := ex_cells HX3.out
    have z0 := blk_frozen HX3.out 0
    have z1 := blk_frozen HX3.out 1
    have z2 := blk_frozen HX3.out 2
    have z3 := blk_frozen HX3.out 3
    have z4 := blk_frozen HX3.out 4
    have z5 := blk_frozen HX3.out 5
    have z6 := blk_frozen HX3.out 6
    have z7 := blk_frozen HX3.out 7
    have z8 := blk_frozen HX3.out 8
    have z9 := blk_frozen HX3.out 9
    have q0 := (blk_cell HQ3.out 0).trans rfl
    have f0 := blk_frozen HQ3.out 0
    have r0 := (blk_cell HR3.out 0).trans rfl
    have g0 := blk_frozen HR3.out 0
    have d1 := (blk_cell HD3.out 1).trans rfl
    have HPG := Asd.mk (put10_fr (W := w3) (b := w.heap.size) (S := fun k => k = w.heap.size) rfl (.int .i64 x.kind) (.int .i64 x.op) (.int .i64 x.v.kind) (.int .i64 x.v.int) (.string ⟨x.v.text.toArray⟩) (.string ⟨x.table.toArray⟩) (.string ⟨x.name.toArray⟩) (.int .i64 x.col) (.int .i64 x.ty) (.slice As ms cs))
    have HX5 := Asd.mk (put10_blk (W := w3) (b := w.heap.size) HX3.out (.int .i64 x.kind) (.int .i64 x.op) (.int .i64 x.v.kind) (.int .i64 x.v.int) (.string ⟨x.v.text.toArray⟩) (.string ⟨x.table.toArray⟩) (.string ⟨x.name.toArray⟩) (.int .i64 x.col) (.int .i64 x.ty) (.slice As ms cs))
    have HQ5 := Asd.mk (blk_fr HQ3.out HPG.out (by show ¬ w.heap.size + 1 = w.heap.size; omega))
    have HR5 := Asd.mk (blk_fr HR3.out HPG.out (by show ¬ w.heap.size + 1 + 1 = w.heap.size; omega))
    have HF7 : Asd (Fr (fun k => k = w.heap.size ∨ k = w.heap.size + 1 ∨ k = w.heap.size + 1 + 1) w3 _) := Asd.mk (Fr.drew (Fr.setCell (S := fun k => k = w.heap.size ∨ k = w.heap.size + 1 ∨ k = w.heap.size + 1 + 1) (Fr.setCell (S := fun k => k = w.heap.size ∨ k = w.heap.size + 1 ∨ k = w.heap.size + 1 + 1) (HPG.out.mono (fun k hk _ => .inl hk)) (p := ⟨w.heap.size + 1, 0, none⟩) (.inr (.inl rfl)) (.int .i64 ((j : Nat) : Int))) (p := ⟨w.heap.size + 1 + 1, 0, none⟩) (.inr (.inr rfl)) .nilIface))
    have HX7 := Asd.mk (drew_blk (blk_far (blk_far HX5.out (p := ⟨w.heap.size + 1, 0, none⟩) (by show w.heap.size ≠ w.heap.size + 1; omega) (.int .i64 ((j : Nat) : Int))) (p := ⟨w.heap.size + 1 + 1, 0, none⟩) (by show w.heap.size ≠ w.heap.size + 1 + 1; omega) (.nilIface)))
    have HQ7 := Asd.mk (drew_blk (blk_far (blk_set HQ5.out 0 (.int .i64 ((j : Nat) : Int))) (p := ⟨w.heap.size + 1 + 1, 0, none⟩) (by show w.heap.size + 1 ≠ w.heap.size + 1 + 1; omega) (.nilIface)))
    have HR7 := Asd.mk (drew_blk (blk_set (blk_far HR5.out (p := ⟨w.heap.size + 1, 0, none⟩) (by show w.heap.size + 1 + 1 ≠ w.heap.size + 1; omega) (.int .i64 ((j : Nat) : Int))) 0 .nilIface))
    have hlow : ∀ k, w0.heap.size ≤ k ∨ k < w.heap.size → ¬ (k = w.heap.size ∨ k = w.heap.size + 1 ∨ k = w.heap.size + 1 + 1) := fun k hk => by have := HSZ.out; omega
    have HH7 := Asd.mk (held_frS HH3.out HF7.out (fun g hg => hlow g (.inl hg)))
    have HB7 : Asd (Below w.heap.size w _) := Asd.mk (HB3.out.trans ⟨HF7.out.os, HF7.out.tape, HF7.out.output, HF7.out.size, fun k hk => HF7.out.block k (by have := HB3.out.size; omega) (hlow k (.inr hk))⟩)
    clear HPG HX5 HQ5 HR5 HF7 hlow HX3 HQ3 HR3 HH3 HB3
    go_region
    generalize ((((((((((((w3.setCell ⟨w.heap.size, 0, none⟩ (.int .i64 x.kind)).setCell ⟨w.heap.size, 1, none⟩ (.int .i64 x.op)).setCell ⟨w.heap.size, 2, none⟩ (.int .i64 x.v.kind)).setCell ⟨w.heap.size, 3, none⟩ (.int .i64 x.v.int)).setCell ⟨w.heap.size, 4, none⟩ (.string ⟨x.v.text.toArray⟩)).setCell ⟨w.heap.size, 5, none⟩ (.string ⟨x.table.toArray⟩)).setCell ⟨w.heap.size, 6, none⟩ (.string ⟨x.name.toArray⟩)).setCell ⟨w.heap.size, 7, none⟩ (.int .i64 x.col)).setCell ⟨w.heap.size, 8, none⟩ (.int .i64 x.ty)).setCell ⟨w.heap.size, 9, none⟩ (.slice As ms cs)).setCell ⟨w.heap.size + 1, 0, none⟩ (.int .i64 ((j : Nat) : Int))).setCell ⟨w.heap.size + 1 + 1, 0, none⟩ .nilIface).drew = w7 at HX7 HQ7 HR7 HH7 HB7 ⊢
    go_wp2_with fail
    refine leaves_cons (f := 58) (args := #[.pointer (some ⟨w.heap.size, 0, none⟩), .pointer (some ⟨w.heap.size + 1, 0, none⟩), .pointer (some ⟨w.heap.size + 1 + 1, 0, none⟩)]) (by simp) (by simp [go_sem]) ?_
    refine (catch_none w.heap.size (w.heap.size + 1) (w.heap.size + 1 + 1) w7).mono ?_
    rintro e u' w8 ⟨rfl, rfl, rfl⟩
    clear e0 e1 e2 e3 e4 e5 e6 e7 e8 e9 q0 r0
    have e0 := (blk_cell HX7.out 0).trans rfl
    have e1 := (blk_cell HX7.out 1).trans rfl
    have e2 := (blk_cell HX7.out 2).trans rfl
    have e3 := (blk_cell HX7.out 3).trans rfl
    have e4 := (blk_cell HX7.out 4).trans rfl
    have e5 := (blk_cell HX7.out 5).trans rfl
    have e6 := (blk_cell HX7.out 6).trans rfl
    have e7 := (blk_cell HX7.out 7).trans rfl
    have e8 := (blk_cell HX7.out 8).trans rfl
    have e9 := (blk_cell HX7.out 9).trans rfl
    have q0 := (blk_cell HQ7.out 0).trans rfl
    have r0 := (blk_cell HR7.out 0).trans rfl
    have HFIN : ReadR w (.ok (x, j)) (.returned (.tuple #[.agg #[.int .i64 x.kind, .int .i64 x.op, .int .i64 x.v.kind, .int .i64 x.v.int, .string ⟨x.v.text.toArray⟩, .string ⟨x.table.toArray⟩, .string ⟨x.name.toArray⟩, .int .i64 x.col, .int .i64 x.ty, .slice As ms cs], .int .i64 ((j : Nat) : Int), .nilIface])) w8 := ⟨HB7.out, _, rfl, held_mono HH7.out fun g _ hg => by have h1 : w0.heap.size ≤ g := hg; have := HSZ.out; omega⟩
    simp [Leaves, settle, results, Tryz.results21, go_sem, e0, e1, e2, e3, e4, e5, e6, e7, e8, e9, q0, r0]
    rw [HE.out]
    exact HFIN
end Go.Proofs.YtcefmhofidoloaaGreatDoor.Exp

/- Decimal digits: what they say, and that the numeral of a number says that number: plain laws. -/
set_option linter.unusedVariables false
set_option linter.unusedSimpArgs false
namespace Go.Proofs.YtcefmhofidoloaaGreatDoor.Lex
open Go.RowKit Go.Proofs.YtcefmhofidoloaaGreatDoor.Base

/-- What digits say. -/
def dStep (a : Nat) (c : UInt8) : Nat := a * 10 + (c.toNat - 48)
theorem dStep_eq (a : Nat) (c : UInt8) : dStep a c = a * 10 + (c.toNat - 48) := by unfold dStep; exact Eq.refl _
attribute [irreducible] dStep
def decV : Nat → List UInt8 → Nat
  | a, [] => a
  | a, c :: l => decV (dStep a c) l
theorem decV_cons0 (a : Nat) (c : UInt8) (l : List UInt8) : decV a (c :: l) = decV (dStep a c) l := by rw [decV]
theorem decV_cons (a : Nat) (c : UInt8) (l : List UInt8) : decV a (c :: l) = decV (a * 10 + (c.toNat - 48)) l := by rw [decV_cons0, dStep_eq]
theorem decV_append (m : List UInt8) : ∀ (l : List UInt8) (a : Nat), decV a (l ++ m) = decV (decV a l) m
  | [], a => by simp [decV]
  | c :: l, a => by rw [List.cons_append, decV_cons, decV_cons, decV_append m l]
theorem decV_ge : ∀ (l : List UInt8) (a : Nat), a ≤ decV a l
  | [], a => by rw [decV]; exact Nat.le_refl _
  | c :: l, a => by
    rw [decV_cons]
    have := decV_ge l (a * 10 + (c.toNat - 48))
    omega
theorem isDig_iff (c : UInt8) : isDig c = true ↔ 48 ≤ c.toNat ∧ c.toNat ≤ 57 := by simp [isDig, digN]
theorem parseM_ok (M : Nat) (hM : M < 18446744073709551616) : ∀ (l : List UInt8) (a : Nat), (∀ c ∈ l, isDig c = true) → decV a l ≤ M → Lib.parseUintM M a l = .ok (decV a l)
  | [], a, _, _ => by rw [decV, Lib.parseUintM]
  | c :: l, a, hd, h => by
    have hc := (isDig_iff c).mp (hd c (by simp))
    rw [decV_cons] at h ⊢
    have hg := decV_ge l (a * 10 + (c.toNat - 48))
    rw [Lib.parseUintM, if_pos hc, if_neg (by omega), if_neg (by omega)]
    exact parseM_ok M hM l _ (fun d hd' => hd d (by simp [hd'])) h
theorem parseM_big (M : Nat) : ∀ (l : List UInt8) (a : Nat), a ≤ M → (∀ c ∈ l, isDig c = true) → M < decV a l → ∀ v, Lib.parseUintM M a l ≠ .ok v
  | [], a, ha, _, h, v => by rw [decV] at h; omega
  | c :: l, a, ha, hd, h, v => by
    have hc := (isDig_iff c).mp (hd c (by simp))
    rw [decV_cons] at h
    rw [Lib.parseUintM, if_pos hc]
    split
    · intro e; cases e
    · split
      · intro e; cases e
      · exact parseM_big M l _ (by omega) (fun d hd' => hd d (by simp [hd'])) h v
/-- What digits are read as. -/
theorem numP_digits {l : List UInt8} (hl : l ≠ []) (hd : ∀ c ∈ l, isDig c = true) : numP l = if decV 0 l < 9223372036854775808 then some (decV 0 l : Int) else none := by
  match l, hl with
  | c :: r, _ =>
    have hc := (isDig_iff c).mp (hd c (by simp))
    have e : Lib.parseUintB 64 (c :: r) = Lib.parseUintM 18446744073709551615 0 (c :: r) := by
      unfold Lib.parseUintB
      rw [if_neg (by simp)]
    have h43 : ¬ (c.toNat = 43 ∨ c.toNat = 45) := by omega
    have h45 : ¬ c.toNat = 45 := by omega
    by_cases hb : decV 0 (c :: r) ≤ 18446744073709551615
    · have e2 := parseM_ok 18446744073709551615 (by decide) (c :: r) 0 hd hb
      unfold numP Lib.parseIntB
      simp only [if_neg h43, e, e2]
      by_cases h63 : decV 0 (c :: r) < 9223372036854775808
      · rw [if_neg (by intro h; have := h.2; omega), if_neg (by intro h; exact h45 h.1), if_neg h45, if_pos h63]
      · rw [if_pos ⟨h45, by omega⟩, if_neg h63]
    · have e2 := parseM_big 18446744073709551615 (c :: r) 0 (by decide) hd (by omega)
      rw [if_neg (by omega)]
      unfold numP Lib.parseIntB
      simp only [if_neg h43, e]
      cases hx : Lib.parseUintM 18446744073709551615 0 (c :: r) with
      | ok v => exact absurd hx (e2 v)
      | _ => rfl
theorem decDigits_dig : ∀ (u : Nat), ∀ c ∈ Lib.decDigits u, isDig c = true := by
  intro u
  induction u using Nat.strongRecOn with
  | ind u ih =>
    intro c hc
    rw [Lib.decDigits] at hc
    split at hc
    · rename_i h
      simp only [List.mem_singleton] at hc
      subst hc
      rw [isDig_iff]
      simp; omega
    · rename_i h
      rcases List.mem_append.mp hc with hc | hc
      · exact ih (u / 10) (by omega) c hc
      · simp only [List.mem_singleton] at hc
        subst hc
        rw [isDig_iff]
        simp; omega
theorem decDigits_ne (u : Nat) : Lib.decDigits u ≠ [] := by
  rw [Lib.decDigits]
  split <;> simp
theorem decV_digits : ∀ (u : Nat), decV 0 (Lib.decDigits u) = u := by
  intro u
  induction u using Nat.strongRecOn with
  | ind u ih =>
    rw [Lib.decDigits]
    split
    · rename_i h
      have e : (UInt8.ofNat (48 + u)).toNat = 48 + u := by rw [UInt8.toNat_ofNat']; omega
      rw [decV_cons, decV, e]; omega
    · rename_i h
      have e : (UInt8.ofNat (48 + u % 10)).toNat = 48 + u % 10 := by rw [UInt8.toNat_ofNat']; omega
      rw [decV_append, ih (u / 10) (by omega), decV_cons, decV, e]; omega
theorem numP_itoa {v : Int} (h0 : 0 ≤ v) (h1 : v ≤ 9223372036854775807) : numP (Lib.itoa v) = some v := by
  obtain ⟨u, rfl⟩ : ∃ u : Nat, v = u := ⟨v.toNat, by omega⟩
  rw [Lib.itoa_nonneg, numP_digits (decDigits_ne u) (decDigits_dig u), decV_digits, if_pos (by omega)]
end Go.Proofs.YtcefmhofidoloaaGreatDoor.Lex

/- The words of two texts with a line feed between: the plain law. -/
set_option linter.unusedVariables false
set_option linter.unusedSimpArgs false
namespace Go.Proofs.YtcefmhofidoloaaGreatDoor.Lex
open Go.RowKit Go.Proofs.YtcefmhofidoloaaGreatDoor.Base

theorem runP_ext (p : UInt8 → Bool) (h10 : p 10 = false) (b : List UInt8) : ∀ l, runP p (l ++ 10 :: b) = runP p l
  | [] => by simp [runP, h10]
  | c :: r => by
    simp only [List.cons_append, runP, runP_ext p h10 b r]
theorem take_ext (l b : List UInt8) (n : Nat) (h : n ≤ l.length) : (l ++ b).take n = l.take n := by
  rw [List.take_append_of_le_length h]
theorem textP_ext (b : List UInt8) : ∀ (n : Nat) (l : List UInt8), l.length ≤ n → ∀ x, textP l = some x → textP (l ++ 10 :: b) = some x
  | _, [], _, x, h => by rw [textP_nil] at h; cases h
  | 0, c :: r, hn, x, h => by simp at hn
  | n + 1, c :: r, hn, x, h => by
    simp only [List.length_cons] at hn
    by_cases hc : c = 39
    · subst hc
      match r, h, hn with
      | [], h, _ =>
        rw [textP_q0] at h
        injection h with h
        subst h
        exact textP_q1 (by decide) b
      | d :: r', h, hn =>
        simp only [List.length_cons] at hn
        by_cases hd : d = 39
        · subst hd
          rw [textP_q2] at h
          obtain ⟨y, hy, rfl⟩ := Option.map_eq_some_iff.mp h
          have := textP_ext b n r' (by omega) y hy
          simp only [List.cons_append]
          rw [textP_q2, this]
          rfl
        · rw [textP_q1 hd] at h
          injection h with h
          subst h
          exact textP_q1 hd _
    · rw [textP_c hc] at h
      obtain ⟨y, hy, rfl⟩ := Option.map_eq_some_iff.mp h
      have := textP_ext b n r (by omega) y hy
      simp only [List.cons_append]
      rw [textP_c hc, this]
      rfl
theorem takeW_ext {a : UInt8} (b : List UInt8) : ∀ l : List UInt8, a ∈ l → (l ++ b).takeWhile (· != a) = l.takeWhile (· != a) ∧ (l ++ b).dropWhile (· != a) = l.dropWhile (· != a) ++ b
  | [], h => by simp at h
  | c :: r, h => by
    simp only [List.cons_append, List.takeWhile_cons, List.dropWhile_cons]
    by_cases hc : c = a
    · subst hc; simp
    · have hm : a ∈ r := by
        rcases List.mem_cons.mp h with e | h
        · exact absurd e.symm hc
        · exact h
      have ih := takeW_ext b r hm
      have h1 : (c != a) = true := by simpa using hc
      rw [if_pos h1, if_pos h1, if_pos h1, if_pos h1, ih.1, ih.2]
      exact ⟨rfl, rfl⟩
theorem takeW_no {a : UInt8} (b : List UInt8) : ∀ l : List UInt8, ¬ a ∈ l → (l ++ a :: b).takeWhile (· != a) = l ∧ (l ++ a :: b).dropWhile (· != a) = a :: b
  | [], h => by simp
  | c :: r, h => by
    have hc : ¬ c = a := fun e => h (by simp [e])
    have hm : ¬ a ∈ r := fun e => h (by simp [e])
    have ih := takeW_no b r hm
    have h1 : (c != a) = true := by simpa using hc
    simp only [List.cons_append, List.takeWhile_cons, List.dropWhile_cons]
    rw [if_pos h1, if_pos h1, ih.1, ih.2]
    exact ⟨rfl, rfl⟩
theorem blobP_ext (b : List UInt8) {l : List UInt8} {x : List UInt8 × Nat} (h : blobP l = some x) : blobP (l ++ 10 :: b) = some x := by
  unfold blobP at h ⊢
  by_cases hm : 39 ∈ l
  · rw [if_pos hm] at h
    rw [if_pos (by simp [hm]), (takeW_ext (10 :: b) l hm).1]
    exact h
  · rw [if_neg hm] at h; cases h
theorem symP_ext (b : List UInt8) {l : List UInt8} (h : symP l ≠ 0) : symP (l ++ 10 :: b) = symP l := by
  match l with
  | [] => simp [symP] at h
  | [c] =>
    show symP (c :: 10 :: b) = symP [c]
    have e1 : symP (c :: 10 :: b) = if c ∈ [40, 41, 44, 46, 42, 61, 60, 62, 43, 45, 47, 37, 59] then 1 else 0 := by rw [symP, if_neg (by simp)]
    have e2 : symP [c] = if c ∈ [40, 41, 44, 46, 42, 61, 60, 62, 43, 45, 47, 37, 59] then 1 else 0 := by rw [symP, if_neg (by simp)]
    rw [e1, e2]
  | c :: d :: r => rfl
theorem tokP_ext (b : List UInt8) {l : List UInt8} {x : Tk × Nat} (h : tokP l = some x) : tokP (l ++ 10 :: b) = some x := by
  match l, h with
  | c :: r, h =>
    have hhead : r.head? = some 39 → (r ++ 10 :: b).head? = some 39 := fun h => by
      cases r with
      | nil => cases h
      | cons d r => exact h
    have hhead2 : (r ++ 10 :: b).head? = some 39 → r.head? = some 39 := fun h => by
      cases r with
      | nil => simp at h
      | cons d r => exact h
    by_cases h1 : (c = 120 ∨ c = 88) ∧ r.head? = some 39
    · rw [tokP_blob h1.1 h1.2] at h
      rw [List.cons_append, tokP_blob h1.1 (hhead h1.2)]
      obtain ⟨y, hy, rfl⟩ := Option.map_eq_some_iff.mp h
      have : (r ++ 10 :: b).tail = r.tail ++ 10 :: b := by
        cases r with
        | nil => simp at h1
        | cons d r => rfl
      rw [this, blobP_ext b hy]
      rfl
    · have h1' : ¬ ((c = 120 ∨ c = 88) ∧ (r ++ 10 :: b).head? = some 39) := fun h => h1 ⟨h.1, hhead2 h.2⟩
      cases hl : isLet c with
      | true =>
        rw [tokP_word h1 hl] at h
        rw [List.cons_append, tokP_word h1' hl, ← List.cons_append, runP_ext isWrd (by decide), take_ext _ _ _ (runP_le _ _)]
        exact h
      | false =>
        cases hd : isDig c with
        | true =>
          rw [tokP_num h1 hl hd] at h
          rw [List.cons_append, tokP_num h1' hl hd, ← List.cons_append, runP_ext isDig (by decide), take_ext _ _ _ (runP_le _ _)]
          exact h
        | false =>
          by_cases hq : c = 39
          · subst hq
            rw [tokP_text] at h
            rw [List.cons_append, tokP_text]
            obtain ⟨y, hy, rfl⟩ := Option.map_eq_some_iff.mp h
            rw [textP_ext b _ r (Nat.le_refl _) y hy]
            rfl
          · rw [tokP_sym h1 hl hd hq] at h
            rw [List.cons_append, tokP_sym h1' hl hd hq, ← List.cons_append]
            by_cases h0 : symP (c :: r) = 0
            · rw [if_pos h0] at h; cases h
            · rw [if_neg h0] at h
              rw [symP_ext b h0, if_neg h0, take_ext _ _ _ (symP_le _)]
              exact h

/-- Enough fuel is enough. -/
theorem toks_fuel : ∀ (f g k : Nat) (s : List UInt8), s.length ≤ f → s.length ≤ g → toksP f k s = toksP g k s
  | 0, 0, k, s, _, _ => rfl
  | 0, g + 1, k, s, h, _ => by
    have : s = [] := List.length_eq_zero_iff.mp (by omega)
    subst this
    simp [toksP]
  | f + 1, 0, k, s, _, h => by
    have : s = [] := List.length_eq_zero_iff.mp (by omega)
    subst this
    simp [toksP]
  | f + 1, g + 1, k, [], _, _ => by simp [toksP]
  | f + 1, g + 1, k, c :: r, hf, hg => by
    simp only [List.length_cons] at hf hg
    rw [toksP, toksP]
    try simp only
    split
    · exact toks_fuel f g _ _ (by omega) (by omega)
    · split
      · rename_i hc
        split
        · have h2 : ((c :: r).dropWhile (· != 10)).length ≤ r.length := by
            rw [List.dropWhile_cons, hc.1, if_pos (by decide)]
            have e : r.takeWhile (· != 10) ++ r.dropWhile (· != 10) = r := List.takeWhile_append_dropWhile
            have := congrArg List.length e
            rw [List.length_append] at this
            omega
          exact toks_fuel f g _ _ (by omega) (by omega)
        · rfl
      · cases ht : tokP (c :: r) with
        | none => rfl
        | some x =>
          obtain ⟨t, n⟩ := x
          have hn := tokP_le ht
          simp only [List.length_cons] at hn
          simp only
          rw [toks_fuel f g _ _ (by rw [List.length_drop]; simp only [List.length_cons]; omega) (by rw [List.length_drop]; simp only [List.length_cons]; omega)]
def shT (d : Nat) (l : List (Tk × Nat)) : List (Tk × Nat) := l.map fun x => (x.1, x.2 + d)
def shE (d : Nat) (x : Except Nat (List (Tk × Nat))) : Except Nat (List (Tk × Nat)) := match x with | .ok r => .ok (shT d r) | .error k => .error (k + d)
/-- Places are told from where the text begins. -/
theorem toks_shift (d : Nat) : ∀ (f k : Nat) (s : List UInt8), toksP f (k + d) s = shE d (toksP f k s)
  | 0, k, s => by simp [toksP, shE, shT]
  | f + 1, k, [] => by simp [toksP, shE, shT]
  | f + 1, k, c :: r => by
    rw [toksP, toksP]
    try simp only
    split
    · rw [show k + d + 1 = k + 1 + d by omega]
      exact toks_shift d f _ _
    · split
      · split
        · rw [show ∀ j, k + d + j = k + j + d from fun j => by omega]
          exact toks_shift d f _ _
        · simp [shE, shT]
      · cases ht : tokP (c :: r) with
        | none => rfl
        | some x =>
          obtain ⟨t, n⟩ := x
          simp only
          rw [show k + d + n = k + n + d by omega, toks_shift d f _ _]
          cases toksP f (k + n) ((c :: r).drop n) <;> simp [shE, shT, Except.map]
/-- The words of two texts with a line feed between. -/
theorem toks_cat (b : List UInt8) : ∀ (f g k : Nat) (s : List UInt8) (ts : List (Tk × Nat)), s.length ≤ f → s.length + 1 + b.length ≤ g → toksP f k s = .ok ts →
    toksP g k (s ++ 10 :: b) = addT ts (toksP b.length (k + s.length + 1) b)
  | f, g, k, [], ts, _, hg, h => by
    have hts : ts = [] := by cases f <;> simp [toksP] at h <;> first | exact h | exact h.symm
    subst hts
    cases g with
    | zero => simp at hg
    | succ g =>
      simp only [List.length_nil] at hg
      rw [List.nil_append, toksP]
      try simp only
      rw [if_pos (by decide), toks_fuel g b.length _ _ (by omega) (Nat.le_refl _)]
      simp only [List.length_nil, Nat.add_zero]
      cases toksP b.length (k + 1) b <;> simp [addT]
  | 0, g, k, c :: r, ts, hf, _, _ => by simp at hf
  | f + 1, 0, k, c :: r, ts, _, hg, _ => by simp at hg
  | f + 1, g + 1, k, c :: r, ts, hf, hg, h => by
    simp only [List.length_cons] at hf hg
    rw [toksP] at h
    rw [List.cons_append, toksP]
    try simp only at h
    try simp only
    by_cases h1 : c = 32 ∨ c = 9 ∨ c = 10 ∨ c = 13
    · rw [if_pos h1] at h ⊢
      rw [toks_cat b f g (k + 1) r ts (by omega) (by omega) h]
      simp only [List.length_cons]
      rw [show k + 1 + r.length + 1 = k + (r.length + 1) + 1 by omega]
    · rw [if_neg h1] at h ⊢
      by_cases h2 : c = 45 ∧ r.head? = some 45
      · have h2' : c = 45 ∧ (r ++ 10 :: b).head? = some 45 := ⟨h2.1, by
          cases r with
          | nil => simp at h2
          | cons d r => exact h2.2⟩
        rw [if_pos h2] at h
        rw [if_pos h2', if_pos (by simp), ← List.cons_append]
        by_cases hm : (10 : UInt8) ∈ c :: r
        · rw [if_pos hm] at h
          obtain ⟨e1, e2⟩ := takeW_ext (10 :: b) (c :: r) hm
          rw [e1, e2]
          have e : (c :: r).takeWhile (· != 10) ++ (c :: r).dropWhile (· != 10) = c :: r := List.takeWhile_append_dropWhile
          have el := congrArg List.length e
          rw [List.length_append] at el
          simp only [List.length_cons] at el
          have hpos : 1 ≤ ((c :: r).takeWhile (· != 10)).length := by
            rw [List.takeWhile_cons, h2.1, if_pos (by decide)]
            simp
          rw [toks_cat b f g _ _ ts (by omega) (by omega) h]
          simp only [List.length_cons]
          rw [show k + ((c :: r).takeWhile (· != 10)).length + ((c :: r).dropWhile (· != 10)).length + 1 = k + (r.length + 1) + 1 by omega]
        · rw [if_neg hm] at h
          injection h with h
          subst h
          obtain ⟨e1, e2⟩ := takeW_no b (c :: r) hm
          rw [e1, e2]
          cases g with
          | zero => omega
          | succ g =>
            rw [toksP]
            try simp only
            rw [if_pos (by decide), toks_fuel g b.length _ _ (by omega) (Nat.le_refl _)]
            cases toksP b.length (k + (c :: r).length + 1) b <;> simp [addT]
      · have h2' : ¬ (c = 45 ∧ (r ++ 10 :: b).head? = some 45) := fun hx => h2 ⟨hx.1, by
          cases r with
          | nil => simp at hx
          | cons d r => exact hx.2⟩
        rw [if_neg h2] at h
        rw [if_neg h2']
        cases ht : tokP (c :: r) with
        | none => rw [ht] at h; simp at h
        | some x =>
          obtain ⟨t, n⟩ := x
          rw [ht] at h
          simp only at h
          have hn := tokP_le ht
          simp only [List.length_cons] at hn
          rw [← List.cons_append, tokP_ext b ht]
          simp only
          have hd : ((c :: r) ++ 10 :: b).drop n = (c :: r).drop n ++ 10 :: b := by
            rw [List.drop_append_of_le_length (by simp only [List.length_cons]; omega)]
          rw [hd]
          cases hr : toksP f (k + n) ((c :: r).drop n) with
          | error j => rw [hr] at h; simp [Except.map] at h
          | ok ts' =>
            rw [hr] at h
            simp [Except.map] at h
            subst h
            have hdl : ((c :: r).drop n).length = r.length + 1 - n := by rw [List.length_drop]; simp
            rw [toks_cat b f g _ _ ts' (by omega) (by omega) hr]
            rw [show k + n + ((c :: r).drop n).length + 1 = k + (c :: r).length + 1 by rw [hdl]; simp only [List.length_cons]; omega]
            cases toksP b.length (k + (c :: r).length + 1) b <;> simp [addT, Except.map]
theorem lexT_cat {a b : List UInt8} {xs ys : List (Tk × Nat)} (ha : lexT a = .ok xs) (hb : lexT b = .ok ys) : lexT (a ++ 10 :: b) = .ok (xs ++ shT (a.length + 1) ys) := by
  unfold lexT at ha hb ⊢
  rw [toks_cat b a.length _ 0 a xs (Nat.le_refl _) (by simp; omega) ha]
  rw [show 0 + a.length + 1 = 0 + (a.length + 1) by omega, toks_shift, hb]
  rfl
end Go.Proofs.YtcefmhofidoloaaGreatDoor.Lex

/- What a word is written as is read as that word: plain laws. -/
set_option linter.unusedVariables false
set_option linter.unusedSimpArgs false
namespace Go.Proofs.YtcefmhofidoloaaGreatDoor.Lex
open Go.RowKit Go.Proofs.YtcefmhofidoloaaGreatDoor.Base

/-- What may stand behind a word. -/
def Sep (r : List UInt8) : Prop := r = [] ∨ ∃ c q, r = c :: q ∧ (c = 32 ∨ c = 40 ∨ c = 41 ∨ c = 44 ∨ c = 46)
theorem Sep.mk' {c : UInt8} (h : c = 32 ∨ c = 40 ∨ c = 41 ∨ c = 44 ∨ c = 46) (q : List UInt8) : Sep (c :: q) := .inr ⟨c, q, rfl, h⟩
theorem Sep.head {r : List UInt8} (h : Sep r) {d : UInt8} (hd : r.head? = some d) : d = 32 ∨ d = 40 ∨ d = 41 ∨ d = 44 ∨ d = 46 := by
  rcases h with rfl | ⟨c, q, rfl, h⟩
  · cases hd
  · simp only [List.head?_cons, Option.some.injEq] at hd
    subst hd
    exact h
theorem Sep.run {r : List UInt8} (h : Sep r) (p : UInt8 → Bool) (hp : p 32 = false ∧ p 40 = false ∧ p 41 = false ∧ p 44 = false ∧ p 46 = false) : runP p r = 0 := by
  rcases h with rfl | ⟨c, q, rfl, h⟩
  · rfl
  · rw [runP]
    rcases h with rfl | rfl | rfl | rfl | rfl
    · simp [hp.1]
    · simp [hp.2.1]
    · simp [hp.2.2.1]
    · simp [hp.2.2.2.1]
    · simp [hp.2.2.2.2]
theorem runP_app (p : UInt8 → Bool) {r : List UInt8} (hr : runP p r = 0) : ∀ l : List UInt8, (∀ c ∈ l, p c = true) → runP p (l ++ r) = l.length
  | [], _ => hr
  | c :: l, h => by
    rw [List.cons_append, runP, if_pos (h c (by simp)), runP_app p hr l (fun d hd => h d (by simp [hd]))]
    rfl
theorem wrd_ne {c : UInt8} (h : isWrd c = true) : c ≠ 39 := by rintro rfl; revert h; decide
theorem dig_ne {c : UInt8} (h : isDig c = true) : c ≠ 39 := by rintro rfl; revert h; decide
theorem tok_wrd {c : UInt8} {u r : List UInt8} (h0 : isLet c = true) (hall : ∀ d ∈ c :: u, isWrd d = true) (hr : Sep r) : tokP ((c :: u) ++ r) = some (⟨1, (c :: u).map lowB, 0⟩, (c :: u).length) := by
  have hx : ¬ ((c = 120 ∨ c = 88) ∧ (u ++ r).head? = some 39) := by
    rintro ⟨_, h⟩
    cases u with
    | nil => have := hr.head h; revert this; decide
    | cons d u =>
      simp only [List.cons_append, List.head?_cons, Option.some.injEq] at h
      exact wrd_ne (hall d (by simp)) h
  have hrun := runP_app isWrd (hr.run isWrd (by decide)) (c :: u) hall
  rw [List.cons_append, tokP_word hx h0, ← List.cons_append, hrun, List.take_left' rfl]
theorem dig_not {c : UInt8} (h : isDig c = true) : isLet c = false ∧ c ≠ 120 ∧ c ≠ 88 := by
  have := (isDig_iff c).mp h
  refine ⟨?_, ?_, ?_⟩
  · simp [isLet, letN]; omega
  · rintro rfl; revert h; decide
  · rintro rfl; revert h; decide
theorem tok_dig {u r : List UInt8} (hu : u ≠ []) (hall : ∀ d ∈ u, isDig d = true) (hr : Sep r) {v : Int} (hv : numP u = some v) : tokP (u ++ r) = some (⟨2, [], v⟩, u.length) := by
  match u, hu with
  | c :: u, _ =>
    obtain ⟨h1, h2, h3⟩ := dig_not (hall c (by simp))
    have hrun := runP_app isDig (hr.run isDig (by decide)) (c :: u) hall
    rw [List.cons_append, tokP_num (by rintro ⟨h | h, _⟩; exact h2 h; exact h3 h) h1 (hall c (by simp)), ← List.cons_append, hrun, List.take_left' rfl, hv]
    rfl
theorem quotes_read {r : List UInt8} (hr : Sep r) : ∀ x : List UInt8, textP (quotes x ++ 39 :: r) = some (x, (quotes x).length + 1)
  | [] => by
    show textP (39 :: r) = _
    cases r with
    | nil => rw [textP_q0]; rfl
    | cons d r =>
      rw [textP_q1 (by have := hr.head (d := d) rfl; rintro rfl; revert this; decide)]
      rfl
  | c :: x => by
    have ih := quotes_read hr x
    rw [quotes_cons]
    by_cases hc : c = 39
    · subst hc
      show textP (39 :: 39 :: (quotes x ++ 39 :: r)) = _
      rw [textP_q2, ih]
      simp [quote1]
    · have e : quote1 c = [c] := by simp [quote1, hc]
      rw [e]
      show textP (c :: (quotes x ++ 39 :: r)) = _
      rw [textP_c hc, ih]
      simp
theorem tok_txt (x : List UInt8) {r : List UInt8} (hr : Sep r) : tokP (litText x ++ r) = some (⟨3, x, 0⟩, (litText x).length) := by
  show tokP (39 :: ((quotes x ++ [39]) ++ r)) = _
  rw [tokP_text, List.append_assoc, List.singleton_append, quotes_read hr]
  simp [litText]
theorem hexB_val {n : Nat} (h : n < 16) : hexV (hexB n) = some n ∧ hexB n ≠ 39 := by
  have : ∀ m : Fin 16, hexV (hexB m.val) = some m.val ∧ hexB m.val ≠ 39 := by decide
  exact this ⟨n, h⟩
theorem unhex_hexs : ∀ x : List UInt8, unhex (hexs x) = some x
  | [] => rfl
  | c :: x => by
    have ih := unhex_hexs x
    have hc := c.toNat_lt
    show unhex (hexB (c.toNat / 16) :: hexB (c.toNat % 16) :: hexs x) = _
    rw [unhex_cons, ih, hexPair, (hexB_val (show c.toNat / 16 < 16 by omega)).1, (hexB_val (show c.toNat % 16 < 16 by omega)).1]
    simp only [Option.bind_some, Option.map_some]
    rw [show 16 * (c.toNat / 16) + c.toNat % 16 = c.toNat by omega]
    simp
theorem hexs_no : ∀ x : List UInt8, ¬ 39 ∈ hexs x
  | [] => by simp [hexs]
  | c :: x => by
    have ih := hexs_no x
    have hc := c.toNat_lt
    show ¬ 39 ∈ hexB (c.toNat / 16) :: hexB (c.toNat % 16) :: hexs x
    have h1 := (hexB_val (show c.toNat / 16 < 16 by omega)).2
    have h2 := (hexB_val (show c.toNat % 16 < 16 by omega)).2
    simp only [List.mem_cons, not_or]
    exact ⟨fun e => h1 e.symm, fun e => h2 e.symm, ih⟩
theorem tok_blb (x r : List UInt8) : tokP (litBlob x ++ r) = some (⟨4, x, 0⟩, (litBlob x).length) := by
  show tokP (88 :: 39 :: ((hexs x ++ [39]) ++ r)) = _
  rw [tokP_blob (.inr rfl) rfl]
  simp only [List.tail_cons]
  rw [List.append_assoc, List.singleton_append]
  have e := (takeW_no (a := 39) r (hexs x) (hexs_no x)).1
  have hb : blobP (hexs x ++ 39 :: r) = some (x, (hexs x).length + 2) := by
    unfold blobP
    rw [if_pos (by simp), e, unhex_hexs]
    rfl
  rw [hb]
  simp [litBlob]
theorem sym_not {c : UInt8} (h : c ∈ symBytes) : isLet c = false ∧ isDig c = false ∧ c ≠ 39 ∧ c ≠ 120 ∧ c ≠ 88 := by
  have : ∀ d ∈ symBytes, isLet d = false ∧ isDig d = false ∧ d ≠ 39 ∧ d ≠ 120 ∧ d ≠ 88 := by decide
  exact this c h
theorem tok_sym1 {c : UInt8} (h : c ∈ symBytes) {r : List UInt8} (hr : Sep r) : tokP (c :: r) = some (⟨5, [c], 0⟩, 1) := by
  obtain ⟨h1, h2, h3, h4, h5⟩ := sym_not h
  have hs : symP (c :: r) = 1 := by
    rw [symP, if_neg, if_pos (by exact h)]
    rintro (h | h | h | h)
    · have := hr.head h.2; revert this; decide
    · have := hr.head h.2; revert this; decide
    · have := hr.head h.2; revert this; decide
    · have := hr.head h.2; revert this; decide
  rw [tokP_sym (by rintro ⟨h | h, _⟩; exact h4 h; exact h5 h) h1 h2 h3, hs]
  rfl
theorem tok_sym2 {a b : UInt8} (h : (a, b) ∈ [((60 : UInt8), (62 : UInt8)), (60, 61), (62, 61), (124, 124)]) (r : List UInt8) : tokP (a :: b :: r) = some (⟨5, [a, b], 0⟩, 2) := by
  have hs : symP (a :: b :: r) = 2 := by
    simp only [List.mem_cons, List.not_mem_nil, or_false, Prod.mk.injEq] at h
    rw [symP, if_pos]
    simp only [List.head?_cons, Option.some.injEq]
    exact h
  have hn : isLet a = false ∧ isDig a = false ∧ a ≠ 39 ∧ a ≠ 120 ∧ a ≠ 88 := by
    have : ∀ x ∈ [((60 : UInt8), (62 : UInt8)), (60, 61), (62, 61), (124, 124)], isLet x.1 = false ∧ isDig x.1 = false ∧ x.1 ≠ 39 ∧ x.1 ≠ 120 ∧ x.1 ≠ 88 := by decide
    exact this _ h
  rw [tokP_sym (by rintro ⟨h | h, _⟩; exact hn.2.2.2.1 h; exact hn.2.2.2.2 h) hn.1 hn.2.1 hn.2.2.1, hs]
  rfl

/-- How a word is written. -/
def prT (t : Tk) : List UInt8 := if t.kind = 1 ∨ t.kind = 5 then t.text else if t.kind = 2 then Lib.itoa t.num else if t.kind = 3 then litText t.text else if t.kind = 4 then litBlob t.text else []
/-- A word that is read as itself from what it is written as. -/
structure GoodT (t : Tk) : Prop where
  again : ∀ r, Sep r → tokP (prT t ++ r) = some (t, (prT t).length)
  first : ∃ c u, prT t = c :: u ∧ ¬ (c = 32 ∨ c = 9 ∨ c = 10 ∨ c = 13) ∧ ∀ r, Sep r → ¬ (c = 45 ∧ (u ++ r).head? = some 45)
  num : 0 ≤ t.num ∧ t.num ≤ 9223372036854775807
set_option maxRecDepth 100000 in
theorem low_wrd {c : UInt8} (h : isWrd c = true) : isWrd (lowB c) = true ∧ lowB (lowB c) = lowB c := by
  have : ∀ m : Fin 256, isWrd (UInt8.ofNat m.val) = true → isWrd (lowB (UInt8.ofNat m.val)) = true ∧ lowB (lowB (UInt8.ofNat m.val)) = lowB (UInt8.ofNat m.val) := by decide
  have h2 := this ⟨c.toNat, c.toNat_lt⟩
  simp only [UInt8.ofNat_toNat] at h2
  exact h2 h
set_option maxRecDepth 100000 in
theorem low_let {c : UInt8} (h : isLet c = true) : isLet (lowB c) = true := by
  have : ∀ m : Fin 256, isLet (UInt8.ofNat m.val) = true → isLet (lowB (UInt8.ofNat m.val)) = true := by decide
  have h2 := this ⟨c.toNat, c.toNat_lt⟩
  simp only [UInt8.ofNat_toNat] at h2
  exact h2 h
theorem let_not {c : UInt8} (h : isLet c = true) : ¬ (c = 32 ∨ c = 9 ∨ c = 10 ∨ c = 13) ∧ c ≠ 45 := by
  constructor
  · rintro (rfl | rfl | rfl | rfl) <;> revert h <;> decide
  · rintro rfl; revert h; decide
theorem dig_blank {c : UInt8} (h : isDig c = true) : ¬ (c = 32 ∨ c = 9 ∨ c = 10 ∨ c = 13) ∧ c ≠ 45 := by
  constructor
  · rintro (rfl | rfl | rfl | rfl) <;> revert h <;> decide
  · rintro rfl; revert h; decide
theorem good_word {c : UInt8} {u : List UInt8} (h0 : isLet c = true) (hall : ∀ d ∈ c :: u, isWrd d = true) (hlow : (c :: u).map lowB = c :: u) : GoodT ⟨1, c :: u, 0⟩ := by
  have e : prT ⟨1, c :: u, 0⟩ = c :: u := by simp [prT]
  refine ⟨fun r hr => ?_, ⟨c, u, e, (let_not h0).1, fun r _ h => (let_not h0).2 h.1⟩, by simp⟩
  rw [e, tok_wrd h0 hall hr, hlow]
theorem good_num {v : Int} (h0 : 0 ≤ v) (h1 : v ≤ 9223372036854775807) : GoodT ⟨2, [], v⟩ := by
  obtain ⟨n, rfl⟩ : ∃ n : Nat, v = n := ⟨v.toNat, by omega⟩
  have e : prT ⟨2, [], (n : Int)⟩ = Lib.decDigits n := by simp [prT, Lib.itoa_nonneg]
  have hn := numP_itoa h0 h1
  rw [Lib.itoa_nonneg] at hn
  refine ⟨fun r hr => ?_, ?_, ⟨h0, h1⟩⟩
  · rw [e]; exact tok_dig (decDigits_ne n) (decDigits_dig n) hr hn
  · rw [e]
    have hne := decDigits_ne n
    have hd := decDigits_dig n
    generalize Lib.decDigits n = l at hne hd
    match l, hne with
    | c :: u, _ => exact ⟨c, u, rfl, (dig_blank (hd c (by simp))).1, fun r _ h => (dig_blank (hd c (by simp))).2 h.1⟩
theorem good_text (x : List UInt8) : GoodT ⟨3, x, 0⟩ := by
  have e : prT ⟨3, x, 0⟩ = litText x := by simp [prT]
  refine ⟨fun r hr => ?_, ⟨39, quotes x ++ [39], e, by decide, fun r _ h => absurd h.1 (by decide)⟩, by simp⟩
  rw [e]; exact tok_txt x hr
theorem good_blob (x : List UInt8) : GoodT ⟨4, x, 0⟩ := by
  have e : prT ⟨4, x, 0⟩ = litBlob x := by simp [prT]
  refine ⟨fun r hr => ?_, ⟨88, 39 :: (hexs x ++ [39]), e, by decide, fun r _ h => absurd h.1 (by decide)⟩, by simp⟩
  rw [e]; exact tok_blb x r
theorem good_sym1 {c : UInt8} (h : c ∈ symBytes) : GoodT ⟨5, [c], 0⟩ := by
  have e : prT ⟨5, [c], 0⟩ = [c] := by simp [prT]
  refine ⟨fun r hr => ?_, ⟨c, [], e, ?_, fun r hr h => ?_⟩, by simp⟩
  · rw [e]; exact tok_sym1 h hr
  · have : ∀ d ∈ symBytes, ¬ (d = 32 ∨ d = 9 ∨ d = 10 ∨ d = 13) := by decide
    exact this c h
  · have := hr.head h.2; revert this; decide
theorem good_sym2 {a b : UInt8} (h : (a, b) ∈ [((60 : UInt8), (62 : UInt8)), (60, 61), (62, 61), (124, 124)]) : GoodT ⟨5, [a, b], 0⟩ := by
  have e : prT ⟨5, [a, b], 0⟩ = [a, b] := by simp [prT]
  have hn : ¬ (a = 32 ∨ a = 9 ∨ a = 10 ∨ a = 13) ∧ a ≠ 45 := by
    have : ∀ x ∈ [((60 : UInt8), (62 : UInt8)), (60, 61), (62, 61), (124, 124)], ¬ (x.1 = 32 ∨ x.1 = 9 ∨ x.1 = 10 ∨ x.1 = 13) ∧ x.1 ≠ 45 := by decide
    exact this _ h
  refine ⟨fun r hr => ?_, ⟨a, [b], e, hn.1, fun r hr h => hn.2 h.1⟩, by simp⟩
  rw [e]; exact tok_sym2 h r
theorem numP_dig_bound {l : List UInt8} (hl : l ≠ []) (hd : ∀ c ∈ l, isDig c = true) {v : Int} (h : numP l = some v) : 0 ≤ v ∧ v ≤ 9223372036854775807 := by
  rw [numP_digits hl hd] at h
  split at h
  · injection h with h; omega
  · cases h
/-- Every word of a text is read again from what it is written as. -/
theorem tokP_good {l : List UInt8} {t : Tk} {n : Nat} (h : tokP l = some (t, n)) : GoodT t := by
  match l, h with
  | c :: r, h =>
    by_cases h1 : (c = 120 ∨ c = 88) ∧ r.head? = some 39
    · rw [tokP_blob h1.1 h1.2] at h
      obtain ⟨y, hy, e⟩ := Option.map_eq_some_iff.mp h
      injection e with e _
      subst e
      exact good_blob _
    · cases hl : isLet c with
      | true =>
        rw [tokP_word h1 hl] at h
        injection h with h
        injection h with h _
        subst h
        have hall := run_all isWrd (c :: r)
        have hpos : 1 ≤ runP isWrd (c :: r) := run_pos isWrd (by simp [isWrd, hl])
        obtain ⟨m, hm⟩ : ∃ m, runP isWrd (c :: r) = m + 1 := ⟨runP isWrd (c :: r) - 1, by omega⟩
        rw [hm] at hall ⊢
        rw [List.take_succ_cons] at hall ⊢
        rw [List.map_cons]
        refine good_word (low_let hl) ?_ ?_
        · intro d hd
          rw [← List.map_cons] at hd
          obtain ⟨d', hd', rfl⟩ := List.mem_map.mp hd
          exact (low_wrd (hall d' hd')).1
        · rw [← List.map_cons, List.map_map]
          apply List.map_congr_left
          intro d hd
          exact (low_wrd (hall d hd)).2
      | false =>
        cases hd : isDig c with
        | true =>
          rw [tokP_num h1 hl hd] at h
          obtain ⟨v, hv, e⟩ := Option.map_eq_some_iff.mp h
          injection e with e _
          subst e
          have hpos : 1 ≤ runP isDig (c :: r) := run_pos isDig hd
          have hne : (c :: r).take (runP isDig (c :: r)) ≠ [] := by
            intro e
            have := congrArg List.length e
            rw [List.length_take] at this
            simp only [List.length_cons, List.length_nil] at this
            omega
          obtain ⟨b0, b1⟩ := numP_dig_bound hne (run_all isDig (c :: r)) hv
          exact good_num b0 b1
        | false =>
          by_cases hq : c = 39
          · subst hq
            rw [tokP_text] at h
            obtain ⟨y, hy, e⟩ := Option.map_eq_some_iff.mp h
            injection e with e _
            subst e
            exact good_text _
          · rw [tokP_sym h1 hl hd hq] at h
            by_cases h0 : symP (c :: r) = 0
            · rw [if_pos h0] at h; cases h
            · rw [if_neg h0] at h
              injection h with h
              injection h with h _
              subst h
              by_cases h2 : (c = 60 ∧ r.head? = some 62) ∨ (c = 60 ∧ r.head? = some 61) ∨ (c = 62 ∧ r.head? = some 61) ∨ (c = 124 ∧ r.head? = some 124)
              · have hs : symP (c :: r) = 2 := by rw [symP, if_pos h2]
                rw [hs]
                cases r with
                | nil => simp at h2
                | cons d r =>
                  simp only [List.head?_cons, Option.some.injEq] at h2
                  exact good_sym2 (by simp only [List.mem_cons, List.not_mem_nil, or_false, Prod.mk.injEq]; exact h2)
              · by_cases hm : c ∈ symBytes
                · have hs : symP (c :: r) = 1 := by rw [symP, if_neg h2, if_pos (by exact hm)]
                  rw [hs]
                  exact good_sym1 hm
                · exfalso
                  apply h0
                  rw [symP, if_neg h2, if_neg (by exact hm)]
theorem unhex_len : ∀ (n : Nat) (l x : List UInt8), l.length ≤ n → unhex l = some x → x.length ≤ l.length
  | _, [], x, _, h => by simp [unhex] at h; subst h; simp
  | _, [a], x, _, h => by simp [unhex] at h
  | 0, a :: b :: r, x, hn, h => by simp at hn
  | n + 1, a :: b :: r, x, hn, h => by
    rw [unhex_cons] at h
    cases hp : hexPair a b with
    | none => rw [hp] at h; simp at h
    | some v =>
      rw [hp] at h
      simp only [Option.bind_some] at h
      obtain ⟨y, hy, rfl⟩ := Option.map_eq_some_iff.mp h
      simp only [List.length_cons] at hn ⊢
      have := unhex_len n r y (by omega) hy
      omega
theorem textP_len : ∀ (n : Nat) (l : List UInt8), l.length ≤ n → ∀ x, textP l = some x → x.1.length ≤ l.length
  | _, [], _, x, h => by rw [textP_nil] at h; cases h
  | 0, c :: r, hn, x, h => by simp at hn
  | n + 1, c :: r, hn, x, h => by
    simp only [List.length_cons] at hn ⊢
    by_cases hc : c = 39
    · subst hc
      match r, h, hn with
      | [], h, _ => rw [textP_q0] at h; injection h with h; subst h; simp
      | d :: r', h, hn =>
        simp only [List.length_cons] at hn ⊢
        by_cases hd : d = 39
        · subst hd
          rw [textP_q2] at h
          obtain ⟨y, hy, rfl⟩ := Option.map_eq_some_iff.mp h
          have := textP_len n r' (by omega) y hy
          simp only [List.length_cons]
          omega
        · rw [textP_q1 hd] at h; injection h with h; subst h; simp
    · rw [textP_c hc] at h
      obtain ⟨y, hy, rfl⟩ := Option.map_eq_some_iff.mp h
      have := textP_len n r (by omega) y hy
      simp only [List.length_cons]
      omega
theorem tokP_textlen {l : List UInt8} {t : Tk} {n : Nat} (h : tokP l = some (t, n)) : t.text.length ≤ l.length := by
  match l, h with
  | c :: r, h =>
    by_cases h1 : (c = 120 ∨ c = 88) ∧ r.head? = some 39
    · rw [tokP_blob h1.1 h1.2] at h
      obtain ⟨y, hy, e⟩ := Option.map_eq_some_iff.mp h
      injection e with e _
      subst e
      unfold blobP at hy
      split at hy
      · obtain ⟨z, hz, rfl⟩ := Option.map_eq_some_iff.mp hy
        have := unhex_len _ _ _ (Nat.le_refl _) hz
        have h2 := takeW_le (· != 39) r.tail
        simp only [List.length_tail] at h2
        simp only [List.length_cons]
        omega
      · cases hy
    · cases hl : isLet c with
      | true =>
        rw [tokP_word h1 hl] at h
        injection h with h
        injection h with h _
        subst h
        simp only [List.length_map, List.length_take]
        omega
      | false =>
        cases hd : isDig c with
        | true =>
          rw [tokP_num h1 hl hd] at h
          obtain ⟨v, hv, e⟩ := Option.map_eq_some_iff.mp h
          injection e with e _
          subst e
          simp
        | false =>
          by_cases hq : c = 39
          · subst hq
            rw [tokP_text] at h
            obtain ⟨y, hy, e⟩ := Option.map_eq_some_iff.mp h
            injection e with e _
            subst e
            have := textP_len _ r (Nat.le_refl _) y hy
            simp only [List.length_cons]
            omega
          · rw [tokP_sym h1 hl hd hq] at h
            by_cases h0 : symP (c :: r) = 0
            · rw [if_pos h0] at h; cases h
            · rw [if_neg h0] at h
              injection h with h
              injection h with h _
              subst h
              simp only [List.length_take]
              omega
theorem toks_good : ∀ (f k : Nat) (s : List UInt8) (ts : List (Tk × Nat)), toksP f k s = .ok ts → ∀ x ∈ ts, GoodT x.1 ∧ x.1.text.length ≤ s.length
  | 0, k, s, ts, h, x, hx => by simp [toksP] at h; subst h; simp at hx
  | f + 1, k, [], ts, h, x, hx => by simp [toksP] at h; subst h; simp at hx
  | f + 1, k, c :: r, ts, h, x, hx => by
    rw [toksP] at h
    try simp only at h
    split at h
    · have := toks_good f _ _ _ h x hx
      exact ⟨this.1, by simp only [List.length_cons]; omega⟩
    · split at h
      · split at h
        · have h1 := toks_good f _ _ _ h x hx
          have h2 : ((c :: r).takeWhile (· != 10)).length + ((c :: r).dropWhile (· != 10)).length = (c :: r).length := by
            have e : (c :: r).takeWhile (· != 10) ++ (c :: r).dropWhile (· != 10) = c :: r := List.takeWhile_append_dropWhile
            have := congrArg List.length e
            rw [List.length_append] at this
            exact this
          exact ⟨h1.1, by omega⟩
        · simp at h; subst h; simp at hx
      · cases ht : tokP (c :: r) with
        | none => rw [ht] at h; simp at h
        | some y =>
          obtain ⟨t, n⟩ := y
          rw [ht] at h
          simp only at h
          cases hr : toksP f (k + n) ((c :: r).drop n) with
          | error j => rw [hr] at h; simp [Except.map] at h
          | ok ts' =>
            rw [hr] at h
            simp [Except.map] at h
            subst h
            rcases List.mem_cons.mp hx with rfl | hx
            · exact ⟨tokP_good ht, tokP_textlen ht⟩
            · have := toks_good f _ _ _ hr x hx
              rw [List.length_drop] at this
              exact ⟨this.1, by omega⟩
/-- The words with a blank behind each. -/
def spaced (ts : List Tk) : List UInt8 := ts.flatMap fun t => prT t ++ [32]
theorem spaced_cons (t : Tk) (ts : List Tk) : spaced (t :: ts) = prT t ++ 32 :: spaced ts := by simp [spaced]
theorem toks_word {c : UInt8} {r : List UInt8} {t : Tk} {n : Nat} (hb : ¬ (c = 32 ∨ c = 9 ∨ c = 10 ∨ c = 13)) (hn : ¬ (c = 45 ∧ r.head? = some 45)) (ht : tokP (c :: r) = some (t, n)) (f k : Nat) : toksP (f + 1) k (c :: r) = (toksP f (k + n) ((c :: r).drop n)).map ((t, k) :: ·) := by
  rw [toksP]
  try simp only
  rw [if_neg hb, if_neg hn, ht]
theorem spaced_read : ∀ (ts : List Tk), (∀ t ∈ ts, GoodT t) → ∀ (f k : Nat), (spaced ts).length ≤ f → ∃ xs, toksP f k (spaced ts) = .ok xs ∧ xs.map (·.1) = ts
  | [], _, f, k, _ => ⟨[], by cases f <;> simp [toksP, spaced], rfl⟩
  | t :: ts, h, f, k, hf => by
    have hg := h t (by simp)
    obtain ⟨c, u, hp, hb, hn⟩ := hg.first
    have hs : Sep (32 :: spaced ts) := Sep.mk' (.inl rfl) _
    have ha := hg.again _ hs
    rw [spaced_cons] at hf ⊢
    rw [hp] at ha hf ⊢
    simp only [List.cons_append, List.length_cons, List.length_append] at hf
    obtain ⟨g, rfl⟩ : ∃ g, f = g + 2 := ⟨f - 2, by omega⟩
    obtain ⟨xs, hx, hm⟩ := spaced_read ts (fun d hd => h d (by simp [hd])) g (k + (c :: u).length + 1) (by omega)
    refine ⟨(t, k) :: xs, ?_, by simp [hm]⟩
    have e := toks_word (f := g + 1) (k := k) hb (hn _ hs) ha
    rw [List.cons_append, e, ← List.cons_append, List.drop_left' rfl]
    have e2 : toksP (g + 1) (k + (c :: u).length) (32 :: spaced ts) = toksP g (k + (c :: u).length + 1) (spaced ts) := by
      rw [toksP]
      try simp only
      rw [if_pos (by simp)]
    rw [e2, hx]
    rfl
theorem lexT_spaced {l : List UInt8} {ts : List (Tk × Nat)} (h : lexT l = .ok ts) : ∃ xs, lexT (spaced (ts.map (·.1))) = .ok xs ∧ xs.map (·.1) = ts.map (·.1) := by
  refine spaced_read _ ?_ _ 0 (Nat.le_refl _)
  intro t ht
  obtain ⟨x, hx, rfl⟩ := List.mem_map.mp ht
  exact (toks_good _ _ _ _ h x hx).1
theorem lexT_good {l : List UInt8} {ts : List (Tk × Nat)} (h : lexT l = .ok ts) (i : Nat) (hi : i < ts.length) : GoodT ts[i].1 ∧ ts[i].1.text.length ≤ l.length := toks_good _ _ _ _ h _ (List.getElem_mem hi)
end Go.Proofs.YtcefmhofidoloaaGreatDoor.Lex

/- Where words stand. -/
set_option linter.unusedVariables false
set_option linter.unusedSimpArgs false
namespace Go.Proofs.YtcefmhofidoloaaGreatDoor.Lex
open Go.RowKit Go.Proofs.YtcefmhofidoloaaGreatDoor.Base

theorem toks_place : ∀ (f k : Nat) (s : List UInt8) (ts : List (Tk × Nat)), toksP f k s = .ok ts → ∀ x ∈ ts, x.2 ≤ k + s.length
  | 0, k, s, ts, h, x, hx => by simp [toksP] at h; subst h; simp at hx
  | f + 1, k, [], ts, h, x, hx => by simp [toksP] at h; subst h; simp at hx
  | f + 1, k, c :: r, ts, h, x, hx => by
    rw [toksP] at h
    try simp only at h
    split at h
    · have := toks_place f _ _ _ h x hx
      simp only [List.length_cons]; omega
    · split at h
      · split at h
        · have h1 := toks_place f _ _ _ h x hx
          have h2 : ((c :: r).takeWhile (· != 10)).length + ((c :: r).dropWhile (· != 10)).length = (c :: r).length := by
            have e : (c :: r).takeWhile (· != 10) ++ (c :: r).dropWhile (· != 10) = c :: r := List.takeWhile_append_dropWhile
            have := congrArg List.length e
            rw [List.length_append] at this
            exact this
          omega
        · simp at h; subst h; simp at hx
      · cases ht : tokP (c :: r) with
        | none => rw [ht] at h; simp at h
        | some y =>
          obtain ⟨t, n⟩ := y
          rw [ht] at h
          simp only at h
          have hn := tokP_le ht
          simp only at hn
          cases hr : toksP f (k + n) ((c :: r).drop n) with
          | error j => rw [hr] at h; simp [Except.map] at h
          | ok ts' =>
            rw [hr] at h
            simp [Except.map] at h
            subst h
            rcases List.mem_cons.mp hx with rfl | hx
            · simp
            · have := toks_place f _ _ _ hr x hx
              rw [List.length_drop] at this
              omega
theorem lexT_place {l : List UInt8} {ts : List (Tk × Nat)} (h : lexT l = .ok ts) (i : Nat) (hi : i < ts.length) : ts[i].2 ≤ l.length := by
  have := toks_place _ _ _ _ h ts[i] (List.getElem_mem hi)
  omega
end Go.Proofs.YtcefmhofidoloaaGreatDoor.Lex

/- The words of a text as quarrylaw13 takes them; an expression read from a text. -/
set_option linter.unusedVariables false
set_option linter.unusedSimpArgs false
namespace Go.Proofs.YtcefmhofidoloaaGreatDoor.Exp
open Go.RowKit Go.Proofs.YtcefmhofidoloaaGreatDoor.Base Go.Proofs.YtcefmhofidoloaaGreatDoor.App Go.Proofs.YtcefmhofidoloaaGreatDoor.Byt Go.Proofs.YtcefmhofidoloaaGreatDoor.Lex

/-- The words of a text; none where it is refused. -/
def lexE (l : List UInt8) : Toks := if 16384 < l.length then [] else match lexT l with
  | .ok ts => ts
  | .error _ => []
theorem lexE_ok {l : List UInt8} {ts : Toks} (h : l.length ≤ 16384) (hl : lexT l = .ok ts) : lexE l = ts := by
  unfold lexE
  rw [if_neg (by omega), hl]
theorem near_lexE (l : List UInt8) : Near (lexE l) := by
  unfold lexE
  split
  · intro x hx; cases hx
  · rename_i hlen
    cases hl : lexT l with
    | error k => intro x hx; cases hx
    | ok ts =>
      intro x hx
      obtain ⟨i, hi, rfl⟩ := List.getElem_of_mem hx
      have h1 := lexT_place hl i hi
      have h2 := (lexT_good hl i hi).2
      exact ⟨Nat.le_trans h1 (by omega), Nat.le_trans h2 (by omega)⟩
/-- How tokens ends. -/
def TokR (l : List UInt8) (w : World) (e : Ending) (w' : World) : Prop :=
  Below w.heap.size w w' ∧ ∃ A m c, e = .returned (.slice A m c) ∧ TokSl w' A m (lexE l)
theorem tokr_bad {l : List UInt8} {w w' : World} (hb : Below w.heap.size w w') (h : lexE l = []) : TokR l w (.returned (.slice none 0 0)) w' :=
  ⟨hb, none, 0, 0, rfl, by rw [h]; exact ⟨rfl, by omega, fun h0 => by omega⟩⟩

set_option maxRecDepth 100000 in
set_option maxHeartbeats 1600000 in
theorem words_calls (s : ByteArray) (w : World) (hw : LexW w) :
    Calls Tryz.prog 22 #[.string s] w (TokR s.data.toList w) := by
  have HW := Asd.mk hw
  clear hw
  go_enter Tryz.func22, Tryz.ntmps22
  go_wp2_with fail
  refine (tokens_reads s w HW.out).mono ?_
  rintro e w' ⟨hb, hm⟩
  have HB := Asd.mk hb
  clear hb
  by_cases hlen : 16384 < s.data.toList.length
  · rw [if_pos hlen] at hm
    obtain ⟨N, rfl, hN, hN2⟩ := hm
    have HE : Asd (lexE s.data.toList = []) := Asd.mk (by unfold lexE; rw [if_pos hlen])
    clear hlen hN hN2
    go_wp2
    go_ret
    exact tokr_bad HB.out HE.out
  · rw [if_neg hlen] at hm
    cases hl : lexT s.data.toList with
    | error k =>
      rw [hl] at hm
      obtain ⟨N, rfl, hN, hN2⟩ := hm
      have HE : Asd (lexE s.data.toList = []) := Asd.mk (by unfold lexE; rw [if_neg hlen, hl])
      clear hlen hN hN2 hl
      go_wp2
      go_ret
      exact tokr_bad HB.out HE.out
    | ok ts =>
      rw [hl] at hm
      obtain ⟨A, m, c, rfl, ht⟩ := hm
      have HE : Asd (TokSl w' A m (lexE s.data.toList)) := Asd.mk (by rw [lexE_ok (by omega) hl]; exact ht)
      clear hlen hl ht
      go_wp2
      go_ret
      exact ⟨HB.out, A, m, c, rfl, HE.out⟩
/-- An expression is read from the words of a text. -/
theorem read_words (A : Option Addr) (m c : Nat) (l : List UInt8) (w : World) (hsh : w.ShapedOpen Tryz.prog) (htok : TokSl w A m (lexE l)) :
    Calls Tryz.prog 21 #[.slice A m c, .int .i64 0] w (ReadR w ((readF nmOk (lexE l) 32).or 0)) :=
  read_calls A m c (lexE l) 0 w hsh htok (near_lexE l) (Nat.zero_le _)
end Go.Proofs.YtcefmhofidoloaaGreatDoor.Exp

/- quarryErr: is an error one of a text that is nested too deep? -/
set_option linter.unusedVariables false
set_option linter.unusedSimpArgs false
namespace Go.Proofs.YtcefmhofidoloaaGreatDoor.Exp
open Go.RowKit Go.Proofs.YtcefmhofidoloaaGreatDoor.Base Go.Proofs.YtcefmhofidoloaaGreatDoor.App Go.Proofs.YtcefmhofidoloaaGreatDoor.Byt Go.Proofs.YtcefmhofidoloaaGreatDoor.Lex

set_option maxRecDepth 100000 in
set_option maxHeartbeats 3200000 in
theorem err_nil (w : World) : Calls Tryz.prog 25 #[.nilIface] w fun e w' => e = .returned (.bool false) ∧ w' = w := by
  have ta : ∀ w, (Instr.typeAssert .nilIface 42 93 true).run Tryz.prog w = .ok (.tuple #[.pointer none, .bool false]) w := fun _ => by kernel_rfl
  go_enter Tryz.func25, Tryz.ntmps25
  go_wp2
  go_ret
  exact ⟨rfl, rfl⟩
set_option maxRecDepth 100000 in
set_option maxHeartbeats 3200000 in
theorem err_fault (N : Nat) (k n : Int) (w : World) (hN : w.heap[N]? = some (.cells #[.int .i64 k, .iface 33 (.int .i64 n)] 95 (0, 0))) (b : Bool) (hb : (n == 21) = b) :
    Calls Tryz.prog 25 #[.iface 93 (.pointer (some ⟨N, 0, none⟩))] w fun e w' => e = .returned (.bool b) ∧ w' = w := by
  have n0 := (blk_cell hN 0).trans rfl
  have n1 := (blk_cell hN 1).trans rfl
  have ta : ∀ w, (Instr.typeAssert (.iface 93 (.pointer (some ⟨N, 0, none⟩))) 42 93 true).run Tryz.prog w = .ok (.tuple #[.pointer (some ⟨N, 0, none⟩), .bool true]) w := fun _ => by kernel_rfl
  have te : ∀ w, (binOp .eql 42 (.iface 33 (.int .i64 n)) (.iface 33 (.int .i64 21))).run Tryz.prog w = .ok (.bool b) w := fun w => by
    rw [← hb]
    first | kernel_rfl | (exact Eqs.op_eql fun d => by go_simp) | (simp [binOp, go_sem])
  clear hN hb
  cases b
  all_goals
    go_enter Tryz.func25, Tryz.ntmps25
    go_wp2
    go_ret
    exact ⟨rfl, rfl⟩
end Go.Proofs.YtcefmhofidoloaaGreatDoor.Exp

/- works. -/
set_option linter.unusedVariables false
set_option linter.unusedSimpArgs false
namespace Go.Proofs.YtcefmhofidoloaaGreatDoor.Lex
open Go.RowKit Go.Proofs.YtcefmhofidoloaaGreatDoor.Base Go.Proofs.YtcefmhofidoloaaGreatDoor.App Go.Proofs.YtcefmhofidoloaaGreatDoor.Byt

theorem tok_in (d : Nat) (w : World) (x0 y0 x2 y2 x3 y3 : Int) (x1 y1 : ByteArray) :
    (Op.equalIn (d + 2) 52 (.agg #[.int .i64 x0, .string x1, .int .i64 x2, .int .i64 x3]) (.agg #[.int .i64 y0, .string y1, .int .i64 y2, .int .i64 y3])).run Tryz.prog w = .ok (x0 == y0 && (x1.toList == y1.toList && (x2 == y2 && (x3 == y3)))) w := by
  refine Eqs.s_of Tryz.underlying52 (by kernel_rfl) ?_
  refine Eqs.f_cons (by rfl) (by go_simp; rfl) (by go_simp; rfl) (by go_simp) ?_
  refine Eqs.f_cons (by rfl) (by go_simp; rfl) (by go_simp; rfl) (by go_simp) ?_
  refine Eqs.f_cons (by rfl) (by go_simp; rfl) (by go_simp; rfl) (by go_simp) ?_
  exact Eqs.f_last (by rfl) (by go_simp; rfl) (by go_simp; rfl) (by go_simp)
theorem tok_neq (w : World) (x0 y0 x2 y2 x3 y3 : Int) (x1 y1 : ByteArray) :
    (binOp .neq 52 (.agg #[.int .i64 x0, .string x1, .int .i64 x2, .int .i64 x3]) (.agg #[.int .i64 y0, .string y1, .int .i64 y2, .int .i64 y3])).run Tryz.prog w = .ok (.bool (!(x0 == y0 && (x1.toList == y1.toList && (x2 == y2 && (x3 == y3)))))) w := Eqs.op_neq fun d => tok_in d w x0 y0 x2 y2 x3 y3 x1 y1
theorem tok_eql (w : World) (x0 y0 x2 y2 x3 y3 : Int) (x1 y1 : ByteArray) :
    (binOp .eql 52 (.agg #[.int .i64 x0, .string x1, .int .i64 x2, .int .i64 x3]) (.agg #[.int .i64 y0, .string y1, .int .i64 y2, .int .i64 y3])).run Tryz.prog w = .ok (.bool (x0 == y0 && (x1.toList == y1.toList && (x2 == y2 && (x3 == y3))))) w := Eqs.op_eql fun d => tok_in d w x0 y0 x2 y2 x3 y3 x1 y1
theorem flt_in (d : Nat) (w : World) (x0 y0 x1 y1 : Int) :
    (Op.equalIn (d + 2) 35 (.agg #[.int .i64 x0, .int .i64 x1]) (.agg #[.int .i64 y0, .int .i64 y1])).run Tryz.prog w = .ok (x0 == y0 && (x1 == y1)) w := by
  refine Eqs.s_of Tryz.underlying35 (by kernel_rfl) ?_
  refine Eqs.f_cons (by rfl) (by go_simp; rfl) (by go_simp; rfl) (by go_simp) ?_
  exact Eqs.f_last (by rfl) (by go_simp; rfl) (by go_simp; rfl) (by go_simp)
theorem flt_eql (w : World) (x0 y0 x1 y1 : Int) :
    (binOp .eql 35 (.agg #[.int .i64 x0, .int .i64 x1]) (.agg #[.int .i64 y0, .int .i64 y1])).run Tryz.prog w = .ok (.bool (x0 == y0 && (x1 == y1))) w := Eqs.op_eql fun d => flt_in d w x0 y0 x1 y1

def wordsA : List UInt8 := [83, 69, 76, 69, 67, 84, 32, 97, 49, 44, 32, 39, 105, 116, 39, 39, 115, 39, 32, 45, 45, 32, 120]
def wordsB : List UInt8 := [57, 50, 50, 51, 51, 55, 50, 48, 51, 54, 56, 53, 52, 55, 55, 53, 56, 48, 56]
set_option maxRecDepth 100000 in
theorem lex_wordsA : lexT wordsA = .ok [(⟨1, [115, 101, 108, 101, 99, 116], 0⟩, 0), (⟨1, [97, 49], 0⟩, 7), (⟨5, [44], 0⟩, 9), (⟨3, [105, 116, 39, 115], 0⟩, 11)] := by kernel_rfl
set_option maxRecDepth 100000 in
theorem lex_wordsB : lexT wordsB = .error 0 := by kernel_rfl

set_option maxRecDepth 100000 in
set_option maxHeartbeats 3200000 in
theorem works_calls (w : World) (hw : LexW w) (hg : EtyW w) :
    Calls Tryz.prog 18 #[] w fun e w' => e = .returned (.bool true) ∧ Below w.heap.size w w' := by
  have HW := Asd.mk hw
  have HG := Asd.mk hg
  clear hw hg
  go_enter Tryz.func18, Tryz.ntmps18
  go_wp2_with fail
  refine (tokens_reads ⟨#[83, 69, 76, 69, 67, 84, 32, 97, 49, 44, 32, 39, 105, 116, 39, 39, 115, 39, 32, 45, 45, 32, 120]⟩ _ HW.out).mono ?_
  rintro e w1 ⟨hb1, he⟩
  rw [if_neg (by decide), show (⟨#[83, 69, 76, 69, 67, 84, 32, 97, 49, 44, 32, 39, 105, 116, 39, 39, 115, 39, 32, 45, 45, 32, 120]⟩ : ByteArray).data.toList = wordsA from rfl, lex_wordsA] at he
  obtain ⟨A, m, c, rfl, ht⟩ := he
  obtain rfl : m = 4 := ht.1
  obtain ⟨g, rfl, hc⟩ := ht.2.2 (by omega)
  have HC0 := Asd.mk (hc 0 (by simp))
  have HC3 := Asd.mk (hc 3 (by simp))
  have HB1 := Asd.mk hb1
  have HW1 := Asd.mk (HW.out.below hb1)
  clear hb1 ht hc
  go_wp2_with fail
  refine (tokens_reads ⟨#[57, 50, 50, 51, 51, 55, 50, 48, 51, 54, 56, 53, 52, 55, 55, 53, 56, 48, 56]⟩ _ HW1.out).mono ?_
  rintro e w2 ⟨hb2, he⟩
  rw [if_neg (by decide), show (⟨#[57, 50, 50, 51, 51, 55, 50, 48, 51, 54, 56, 53, 52, 55, 55, 53, 56, 48, 56]⟩ : ByteArray).data.toList = wordsB from rfl, lex_wordsB] at he
  obtain ⟨N, rfl, _, hN⟩ := he
  have HN := Asd.mk hN
  have HB2 : Asd (Below w.heap.size w w2) := Asd.mk (HB1.out.trans (hb2.mono HB1.out.size))
  have HW2 := Asd.mk (HW.out.below HB2.out)
  have HG2 := Asd.mk (HG.out.below HB2.out)
  obtain ⟨_, p1, _, _⟩ := HC0.out
  obtain ⟨q0, q1, q2, q3⟩ := HC3.out
  have x1 := (hb2.cell (World.block_lt_of_cell? w1 _ p1)).trans p1
  have y0 := (hb2.cell (World.block_lt_of_cell? w1 _ q0)).trans q0
  have y1 := (hb2.cell (World.block_lt_of_cell? w1 _ q1)).trans q1
  have y2 := (hb2.cell (World.block_lt_of_cell? w1 _ q2)).trans q2
  have y3 := (hb2.cell (World.block_lt_of_cell? w1 _ q3)).trans q3
  simp only [List.getElem_cons_zero, List.getElem_cons_succ, Nat.zero_mul, Nat.zero_add, Nat.reduceMul, Nat.reduceAdd] at x1 y0 y1 y2 y3
  clear p1 q0 q1 q2 q3 hb2 hN
  have te : ∀ w, (binOp .eql 52 (.agg #[.int .i64 3, .string ⟨#[105, 116, 39, 115]⟩, .int .i64 11, .int .i64 0]) (.agg #[.int .i64 3, .string ⟨#[105, 116, 39, 115]⟩, .int .i64 11, .int .i64 0])).run Tryz.prog w = .ok (.bool true) w := fun w => by rw [tok_eql]; simp
  have fe : ∀ w, (binOp .eql 35 (.agg #[.int .i64 0, .int .i64 20]) (.agg #[.int .i64 0, .int .i64 20])).run Tryz.prog w = .ok (.bool true) w := fun w => by rw [flt_eql]; simp
  go_wp2_with fail
  refine (seen_fault N 0 20 w2 HG2.out HN.out).mono ?_
  rintro e w3 ⟨rfl, hb3⟩
  have HB3 : Asd (Below w.heap.size w w3) := Asd.mk (HB2.out.trans (hb3.mono HB2.out.size))
  have HW3 := Asd.mk (HW.out.below HB3.out)
  clear hb3
  go_wp2_with fail
  refine (keyword_calls ⟨#[102, 114, 111, 109]⟩ _ (by decide) HW3.out.shaped).mono ?_
  rintro e w4 ⟨rfl, rfl⟩
  have HK : Asd (kwList.contains (⟨#[102, 114, 111, 109]⟩ : ByteArray).toList = true) := Asd.mk (by rw [Lib.toList_data]; decide)
  rw [HK.out]
  go_wp2
  go_ret
  exact ⟨ret_eq rfl, HB3.out⟩
end Go.Proofs.YtcefmhofidoloaaGreatDoor.Lex

/- expr.Same: two expressions are the same. -/
set_option linter.unusedVariables false
set_option linter.unusedSimpArgs false
namespace Go.Proofs.YtcefmhofidoloaaGreatDoor.Exp
open Go.RowKit Go.Proofs.YtcefmhofidoloaaGreatDoor.Base Go.Proofs.YtcefmhofidoloaaGreatDoor.App Go.Proofs.YtcefmhofidoloaaGreatDoor.Byt Go.Proofs.YtcefmhofidoloaaGreatDoor.Lex

mutual
/-- Are two expressions the same? -/
def sameE : Ex → Ex → Bool
  | .mk k o v t n _ _ a, .mk k' o' v' t' n' _ _ a' => k == k' && o == o' && (v.kind == v'.kind && (v.int == v'.int && v.text == v'.text)) && t == t' && n == n' && sameL a a'
def sameL : List Ex → List Ex → Bool
  | [], [] => true
  | x :: xs, y :: ys => sameE x y && sameL xs ys
  | [], _ :: _ => false
  | _ :: _, [] => false
end
mutual
/-- No expression within has too many operands. -/
def fewE : Ex → Prop
  | .mk _ _ _ _ _ _ _ a => a.length ≤ 1048576 ∧ fewL a
def fewL : List Ex → Prop
  | [] => True
  | x :: xs => fewE x ∧ fewL xs
end
theorem fewL_mem : ∀ {l : List Ex}, fewL l → ∀ x ∈ l, fewE x
  | [], _, x, hx => by cases hx
  | y :: r, h, x, hx => by
    rw [fewL] at h
    rcases List.mem_cons.mp hx with rfl | hx
    · exact h.1
    · exact fewL_mem h.2 x hx
theorem fewE_args {x : Ex} (h : fewE x) : x.args.length ≤ 1048576 ∧ fewL x.args := by
  cases x; rw [fewE] at h; exact h
theorem sameE_eq (x y : Ex) : sameE x y = (x.kind == y.kind && x.op == y.op && (x.v.kind == y.v.kind && (x.v.int == y.v.int && x.v.text == y.v.text)) && x.table == y.table && x.name == y.name && sameL x.args y.args) := by
  cases x; cases y; rw [sameE]; rfl
theorem sameL_len : ∀ {xs ys : List Ex}, xs.length ≠ ys.length → sameL xs ys = false
  | [], [], h => absurd rfl h
  | x :: xs, y :: ys, h => by rw [sameL, sameL_len (by simpa using h)]; simp
  | [], _ :: _, h => by rw [sameL]
  | _ :: _, [], h => by rw [sameL]
theorem sameL_all : ∀ {xs ys : List Ex}, xs.length = ys.length → (∀ i (h : i < xs.length) (h' : i < ys.length), sameE xs[i] ys[i] = true) → sameL xs ys = true
  | [], [], _, _ => by rw [sameL]
  | x :: xs, y :: ys, h, ha => by
    rw [sameL, show sameE x y = true from ha 0 (by simp) (by simp), sameL_all (by simpa using h) (fun i h1 h2 => ha (i + 1) (by simpa using h1) (by simpa using h2))]
    rfl
theorem sameL_not : ∀ {xs ys : List Ex} (i : Nat) (h : i < xs.length) (h' : i < ys.length), sameE xs[i] ys[i] = false → sameL xs ys = false
  | x :: xs, y :: ys, 0, h, h', hn => by rw [sameL, show sameE x y = false from hn]; rfl
  | x :: xs, y :: ys, i + 1, h, h', hn => by rw [sameL, sameL_not i (by simpa using h) (by simpa using h') (by simpa using hn)]; simp

theorem held_len {P : Nat → Prop} {W : World} {xs : List Ex} {s : Value} (h : Held P W xs s) : ∃ A c, s = .slice A xs.length c := by
  cases h with
  | nil A c => exact ⟨_, _, rfl⟩
  | cons g o c xs ss hg hl hrow hsub => exact ⟨_, _, rfl⟩
theorem held_at {P : Nat → Prop} {W : World} {xs : List Ex} {A : Option Addr} {n c : Nat} (h : Held P W xs (.slice A n c)) (i : Nat) (hi : i < xs.length) : ∃ g o A' n' c', A = some ⟨g, o, none⟩ ∧ RowC W g (o + i * 10) xs[i] (.slice A' n' c') ∧ Held P W xs[i].args (.slice A' n' c') := by
  cases h with
  | nil A c => exact absurd hi (by simp)
  | cons g o c xs ss hg hl hrow hsub =>
    have h1 := hrow i hi
    have h2 := hsub i hi
    obtain ⟨A', n', c', he⟩ := held_slice h2
    rw [he] at h1 h2
    exact ⟨g, o, A', n', c', rfl, h1, h2⟩
/-- What expr.Same answers. -/
def SameR (x y : Ex) (w : World) (e : Ending) (w' : World) : Prop := e = .returned (.bool (sameE x y)) ∧ Below w.heap.size w w'
def SameOK (x y : Ex) : Prop := ∀ (P Q : Nat → Prop) (sx sy : Value) (w : World), Held P w x.args sx → Held Q w y.args sy → Calls Tryz.prog 24 #[exV x sx, exV y sy] w (SameR x y w)

set_option maxRecDepth 100000 in
set_option maxHeartbeats 6400000 in
theorem equal_calls (P Q : Nat → Prop) (xs ys : List Ex) (sx sy : Value) (w : World) (hx : Held P w xs sx) (hy : Held Q w ys sy) (hn : xs.length ≤ 1048576)
    (hf : ∀ i (h : i < xs.length) (h' : i < ys.length), SameOK xs[i] ys[i]) :
    Calls Tryz.prog 63 #[sx, sy, .func (.func 24) #[] #[]] w fun e w' => e = .returned (.bool (sameL xs ys)) ∧ Below w.heap.size w w' := by
  have hcf : ∀ (args : Array Value) (w : World), (callFunc 24 args).run Tryz.prog w = .ok (.enter 24 args) w := isGo_of Tryz.func24 (by decide) rfl
  obtain ⟨A, ca, rfl⟩ := held_len hx
  obtain ⟨B, cb, rfl⟩ := held_len hy
  have HX := Asd.mk hx
  have HY := Asd.mk hy
  have HF := Asd.mk hf
  generalize hm : xs.length = m at hn ⊢
  generalize hm' : ys.length = m' 
  have HM := Asd.mk hm
  have HM' := Asd.mk hm'
  clear hx hy hf hm hm'
  go_enter Tryz.func63, Tryz.ntmps63
  by_cases hmm : m = m'
  · subst hmm
    go_wp2
    go_loopw [17] (fun i wr => ∃ (k : Nat), k ≤ m ∧ i = .int .i64 (k : Int) ∧ Asd (Below w.heap.size w wr) ∧ Asd (∀ j (h : j < xs.length) (h' : j < ys.length), j < k → sameE xs[j] ys[j] = true)) (fun i _ => m - (intOf i).toNat)
    case atStart => exact ⟨0, by omega, rfl, ⟨Below.refl _ _⟩, ⟨fun j _ _ h => absurd h (by omega)⟩⟩
    case round =>
      obtain ⟨k, hk, rfl, HB, HQ⟩ := hrel
      by_cases hlt : k < m
      · have hkx : k < xs.length := by rw [HM.out]; exact hlt
        have hky : k < ys.length := by rw [HM'.out]; exact hlt
        obtain ⟨g, o, A1, n1, c1, rfl, hr1, hh1⟩ := held_at (held_below HX.out HB.out) k hkx
        obtain ⟨h, q, A2, n2, c2, rfl, hr2, hh2⟩ := held_at (held_below HY.out HB.out) k hky
        have HFK := Asd.mk (HF.out k hkx hky)
        have HSK : Asd (sameE xs[k] ys[k] = true → ∀ j (h : j < xs.length) (h' : j < ys.length), j < k + 1 → sameE xs[j] ys[j] = true) := Asd.mk fun he j h h' hj => by
          rcases Nat.lt_succ_iff_lt_or_eq.mp hj with hj | rfl
          · exact HQ.out j h h' hj
          · exact he
        have HNK : Asd (sameE xs[k] ys[k] = false → sameL xs ys = false) := Asd.mk fun he => sameL_not k hkx hky he
        generalize xs[k] = x at HFK HSK HNK hr1 hh1
        generalize ys[k] = y at HFK HSK HNK hr2 hh2
        have HR2 := Asd.mk hr2
        have HH1 := Asd.mk hh1
        have HH2 := Asd.mk hh2
        have hgl := World.block_lt_of_cell? wr _ (hr1 0 (by omega))
        have hk0 : (0 : Int) ≤ (k : Int) := by omega
        have hk1 : k < m := hlt
        have x0 : wr.cell? ⟨g, o + k * 10, none⟩ = some (.int .i64 x.kind) := hr1 0 (by omega)
        have x1 : wr.cell? ⟨g, o + k * 10 + 1, none⟩ = some (.int .i64 x.op) := hr1 1 (by omega)
        have x2 : wr.cell? ⟨g, o + k * 10 + 2, none⟩ = some (.int .i64 x.v.kind) := hr1 2 (by omega)
        have x3 : wr.cell? ⟨g, o + k * 10 + 3, none⟩ = some (.int .i64 x.v.int) := hr1 3 (by omega)
        have x4 : wr.cell? ⟨g, o + k * 10 + 4, none⟩ = some (.string ⟨x.v.text.toArray⟩) := hr1 4 (by omega)
        have x5 : wr.cell? ⟨g, o + k * 10 + 5, none⟩ = some (.string ⟨x.table.toArray⟩) := hr1 5 (by omega)
        have x6 : wr.cell? ⟨g, o + k * 10 + 6, none⟩ = some (.string ⟨x.name.toArray⟩) := hr1 6 (by omega)
        have x7 : wr.cell? ⟨g, o + k * 10 + 7, none⟩ = some (.int .i64 x.col) := hr1 7 (by omega)
        have x8 : wr.cell? ⟨g, o + k * 10 + 8, none⟩ = some (.int .i64 x.ty) := hr1 8 (by omega)
        have x9 : wr.cell? ⟨g, o + k * 10 + 9, none⟩ = some (.slice A1 n1 c1) := hr1 9 (by omega)
        clear hr1 hr2 hh1 hh2 hkx hky
        have HA1 := Asd.mk (blk_new wr (.cells #[.int .i64 x.kind, .int .i64 x.op, .int .i64 x.v.kind, .int .i64 x.v.int, .string ⟨x.v.text.toArray⟩, .string ⟨x.table.toArray⟩, .string ⟨x.name.toArray⟩, .int .i64 x.col, .int .i64 x.ty, .slice A1 n1 c1] 58 (0, 0)))
        have HB1 : Asd (Below wr.heap.size wr _) := Asd.mk (below_alloc (Below.refl _ wr) (.cells #[.int .i64 x.kind, .int .i64 x.op, .int .i64 x.v.kind, .int .i64 x.v.int, .string ⟨x.v.text.toArray⟩, .string ⟨x.table.toArray⟩, .string ⟨x.name.toArray⟩, .int .i64 x.col, .int .i64 x.ty, .slice A1 n1 c1] 58 (0, 0)))
        go_upto_region 6 with fail
        generalize wr.alloc (.cells #[.int .i64 x.kind, .int .i64 x.op, .int .i64 x.v.kind, .int .i64 x.v.int, .string ⟨x.v.text.toArray⟩, .string ⟨x.table.toArray⟩, .string ⟨x.name.toArray⟩, .int .i64 x.col, .int .i64 x.ty, .slice A1 n1 c1] 58 (0, 0)) = w1 at HA1 HB1 ⊢
        have hr2 := HR2.out.below HB1.out
        clear x0 x1 x2 x3 x4 x5 x6 x7 x8 x9
        have HP1 : Asd (wr.heap.size < w1.heap.size) := Asd.mk (blk_lt HA1.out)
        have y0 : w1.cell? ⟨h, q + k * 10, none⟩ = some (.int .i64 y.kind) := hr2 0 (by omega)
        have y1 : w1.cell? ⟨h, q + k * 10 + 1, none⟩ = some (.int .i64 y.op) := hr2 1 (by omega)
        have y2 : w1.cell? ⟨h, q + k * 10 + 2, none⟩ = some (.int .i64 y.v.kind) := hr2 2 (by omega)
        have y3 : w1.cell? ⟨h, q + k * 10 + 3, none⟩ = some (.int .i64 y.v.int) := hr2 3 (by omega)
        have y4 : w1.cell? ⟨h, q + k * 10 + 4, none⟩ = some (.string ⟨y.v.text.toArray⟩) := hr2 4 (by omega)
        have y5 : w1.cell? ⟨h, q + k * 10 + 5, none⟩ = some (.string ⟨y.table.toArray⟩) := hr2 5 (by omega)
        have y6 : w1.cell? ⟨h, q + k * 10 + 6, none⟩ = some (.string ⟨y.name.toArray⟩) := hr2 6 (by omega)
        have y7 : w1.cell? ⟨h, q + k * 10 + 7, none⟩ = some (.int .i64 y.col) := hr2 7 (by omega)
        have y8 : w1.cell? ⟨h, q + k * 10 + 8, none⟩ = some (.int .i64 y.ty) := hr2 8 (by omega)
        have y9 : w1.cell? ⟨h, q + k * 10 + 9, none⟩ = some (.slice A2 n2 c2) := hr2 9 (by omega)
        clear hr2
        have HA2 := Asd.mk (blk_new w1 (.cells #[.int .i64 y.kind, .int .i64 y.op, .int .i64 y.v.kind, .int .i64 y.v.int, .string ⟨y.v.text.toArray⟩, .string ⟨y.table.toArray⟩, .string ⟨y.name.toArray⟩, .int .i64 y.col, .int .i64 y.ty, .slice A2 n2 c2] 58 (0, 0)))
        have HB2 : Asd (Below w1.heap.size w1 _) := Asd.mk (below_alloc (Below.refl _ w1) (.cells #[.int .i64 y.kind, .int .i64 y.op, .int .i64 y.v.kind, .int .i64 y.v.int, .string ⟨y.v.text.toArray⟩, .string ⟨y.table.toArray⟩, .string ⟨y.name.toArray⟩, .int .i64 y.col, .int .i64 y.ty, .slice A2 n2 c2] 58 (0, 0)))
        go_upto_region 7 with fail
        generalize w1.alloc (.cells #[.int .i64 y.kind, .int .i64 y.op, .int .i64 y.v.kind, .int .i64 y.v.int, .string ⟨y.v.text.toArray⟩, .string ⟨y.table.toArray⟩, .string ⟨y.name.toArray⟩, .int .i64 y.col, .int .i64 y.ty, .slice A2 n2 c2] 58 (0, 0)) = w2 at HA2 HB2 ⊢
        clear y0 y1 y2 y3 y4 y5 y6 y7 y8 y9
        have HB12 : Asd (Below wr.heap.size wr w2) := Asd.mk (HB1.out.trans (HB2.out.mono HB1.out.size))
        have HA12 := Asd.mk (blk_below HB2.out HA1.out)
        have u0 := (blk_cell HA12.out 0).trans rfl
        have u1 := (blk_cell HA12.out 1).trans rfl
        have u2 := (blk_cell HA12.out 2).trans rfl
        have u3 := (blk_cell HA12.out 3).trans rfl
        have u4 := (blk_cell HA12.out 4).trans rfl
        have u5 := (blk_cell HA12.out 5).trans rfl
        have u6 := (blk_cell HA12.out 6).trans rfl
        have u7 := (blk_cell HA12.out 7).trans rfl
        have u8 := (blk_cell HA12.out 8).trans rfl
        have u9 := (blk_cell HA12.out 9).trans rfl
        have v0 := (blk_cell HA2.out 0).trans rfl
        have v1 := (blk_cell HA2.out 1).trans rfl
        have v2 := (blk_cell HA2.out 2).trans rfl
        have v3 := (blk_cell HA2.out 3).trans rfl
        have v4 := (blk_cell HA2.out 4).trans rfl
        have v5 := (blk_cell HA2.out 5).trans rfl
        have v6 := (blk_cell HA2.out 6).trans rfl
        have v7 := (blk_cell HA2.out 7).trans rfl
        have v8 := (blk_cell HA2.out 8).trans rfl
        have v9 := (blk_cell HA2.out 9).trans rfl
        go_wp2_with fail
        refine (HFK.out P Q (.slice A1 n1 c1) (.slice A2 n2 c2) w2 (held_below HH1.out HB12.out) (held_below HH2.out HB12.out)).mono ?_
        rintro e w3 ⟨rfl, hb3⟩
        have HB3 : Asd (Below w.heap.size w w3) := Asd.mk (HB.out.trans ((HB12.out.trans (hb3.mono HB12.out.size)).mono HB.out.size))
        clear hb3 u0 v0 u1 v1 u2 v2 u3 v3 u4 v4 u5 v5 u6 v6 u7 v7 u8 v8 u9 v9
        cases hs : sameE x y with
        | true =>
          have HS := Asd.mk (HSK.out hs)
          clear hs
          go_wp2
          go_roundw
          case rel => exact ⟨k + 1, by omega, by go_num, HB3, HS⟩
          case measure => simp [intOf]; omega
        | false =>
          have HS := Asd.mk (HNK.out hs)
          clear hs
          go_wp2
          go_ret
          exact ⟨ret_eq (by rw [HS.out]; rfl), HB3.out⟩
      · have HS : Asd (sameL xs ys = true) := Asd.mk (sameL_all (HM.out.trans HM'.out.symm) fun i h h' => HQ.out i h h' (by have := HM.out; omega))
        have hge : ¬ (k : Int) < (m : Int) := by omega
        clear HQ
        go_wp2
        go_ret
        exact ⟨ret_eq (by rw [HS.out]; rfl), HB.out⟩
  · have HS : Asd (sameL xs ys = false) := Asd.mk (sameL_len (by rw [HM.out, HM'.out]; exact hmm))
    have hne : ((m : Int) != (m' : Int)) = true := by rw [bne_iff_ne]; omega
    clear hmm
    go_wp2
    go_ret
    exact ⟨ret_eq (by rw [HS.out]; rfl), Below.refl _ _⟩
theorem val_in (d : Nat) (w : World) (x0 y0 x1 y1 : Int) (x2 y2 : ByteArray) :
    (Op.equalIn (d + 2) 56 (.agg #[.int .i64 x0, .int .i64 x1, .string x2]) (.agg #[.int .i64 y0, .int .i64 y1, .string y2])).run Tryz.prog w = .ok (x0 == y0 && (x1 == y1 && (x2.toList == y2.toList))) w := by
  refine Eqs.s_of Tryz.underlying56 (by kernel_rfl) ?_
  refine Eqs.f_cons (by rfl) (by go_simp; rfl) (by go_simp; rfl) (by go_simp) ?_
  refine Eqs.f_cons (by rfl) (by go_simp; rfl) (by go_simp; rfl) (by go_simp) ?_
  exact Eqs.f_last (by rfl) (by go_simp; rfl) (by go_simp; rfl) (by go_simp)
theorem val_eql (w : World) (x0 y0 x1 y1 : Int) (x2 y2 : ByteArray) :
    (binOp .eql 56 (.agg #[.int .i64 x0, .int .i64 x1, .string x2]) (.agg #[.int .i64 y0, .int .i64 y1, .string y2])).run Tryz.prog w = .ok (.bool (x0 == y0 && (x1 == y1 && (x2.toList == y2.toList)))) w := Eqs.op_eql fun d => val_in d w x0 y0 x1 y1 x2 y2
theorem tl_eq (a b : List UInt8) : ((⟨a.toArray⟩ : ByteArray).toList == (⟨b.toArray⟩ : ByteArray).toList) = (a == b) := by rw [Lib.toList_data, Lib.toList_data]

set_option maxRecDepth 100000 in
set_option maxHeartbeats 6400000 in
theorem same_step (x y : Ex) (hx : fewE x) (hsub : ∀ i (h : i < x.args.length) (h' : i < y.args.length), SameOK x.args[i] y.args[i]) : SameOK x y := by
  intro P Q sx sy w hhx hhy
  obtain ⟨A1, n1, c1, rfl⟩ := held_slice hhx
  obtain ⟨A2, n2, c2, rfl⟩ := held_slice hhy
  have HS := Asd.mk (fun (W : World) (hb : Below w.heap.size w W) => equal_calls P Q x.args y.args (.slice A1 n1 c1) (.slice A2 n2 c2) W (held_below hhx hb) (held_below hhy hb) (fewE_args hx).1 hsub)
  have HE := Asd.mk (sameE_eq x y)
  have HB : Asd (Below w.heap.size w ((w.alloc (.cells #[.int .i64 x.kind, .int .i64 x.op, .int .i64 x.v.kind, .int .i64 x.v.int, .string ⟨x.v.text.toArray⟩, .string ⟨x.table.toArray⟩, .string ⟨x.name.toArray⟩, .int .i64 x.col, .int .i64 x.ty, .slice A1 n1 c1] 58 (0, 0))).alloc (.cells #[.int .i64 y.kind, .int .i64 y.op, .int .i64 y.v.kind, .int .i64 y.v.int, .string ⟨y.v.text.toArray⟩, .string ⟨y.table.toArray⟩, .string ⟨y.name.toArray⟩, .int .i64 y.col, .int .i64 y.ty, .slice A2 n2 c2] 58 (0, 0)))) := Asd.mk (below_alloc (below_alloc (Below.refl _ w) _) _)
  clear hhx hhy hx hsub
  unfold exV
  go_enter Tryz.func24, Tryz.ntmps24
  cases h1 : (x.kind == y.kind) with
  | false =>
    have HR : Asd (sameE x y = false) := Asd.mk (by rw [HE.out, h1]; simp)
    go_wp2
    go_ret
    exact ⟨ret_eq (by rw [HR.out]; rfl), HB.out⟩
  | true =>
    cases h2 : (x.op == y.op) with
    | false =>
      have HR : Asd (sameE x y = false) := Asd.mk (by rw [HE.out, h1, h2]; simp)
      go_wp2
      go_ret
      exact ⟨ret_eq (by rw [HR.out]; rfl), HB.out⟩
    | true =>
      cases h3 : (x.v.kind == y.v.kind && (x.v.int == y.v.int && x.v.text == y.v.text)) with
      | false =>
        have HR : Asd (sameE x y = false) := Asd.mk (by rw [HE.out, h1, h2, h3]; simp)
        have hve : ∀ W, (binOp .eql 56 (.agg #[.int .i64 x.v.kind, .int .i64 x.v.int, .string ⟨x.v.text.toArray⟩]) (.agg #[.int .i64 y.v.kind, .int .i64 y.v.int, .string ⟨y.v.text.toArray⟩])).run Tryz.prog W = .ok (.bool false) W := fun W => by rw [val_eql, tl_eq, h3]
        clear h3
        go_wp2
        go_ret
        exact ⟨ret_eq (by rw [HR.out]; rfl), HB.out⟩
      | true =>
        cases h4 : (x.table == y.table) with
        | false =>
          have HR : Asd (sameE x y = false) := Asd.mk (by rw [HE.out, h1, h2, h3, h4]; simp)
          have hve : ∀ W, (binOp .eql 56 (.agg #[.int .i64 x.v.kind, .int .i64 x.v.int, .string ⟨x.v.text.toArray⟩]) (.agg #[.int .i64 y.v.kind, .int .i64 y.v.int, .string ⟨y.v.text.toArray⟩])).run Tryz.prog W = .ok (.bool true) W := fun W => by rw [val_eql, tl_eq, h3]
          clear h3
          go_wp2
          go_ret
          exact ⟨ret_eq (by rw [HR.out]; rfl), HB.out⟩
        | true =>
          cases h5 : (x.name == y.name) with
          | false =>
            have HR : Asd (sameE x y = false) := Asd.mk (by rw [HE.out, h1, h2, h3, h4, h5]; simp)
            have hve : ∀ W, (binOp .eql 56 (.agg #[.int .i64 x.v.kind, .int .i64 x.v.int, .string ⟨x.v.text.toArray⟩]) (.agg #[.int .i64 y.v.kind, .int .i64 y.v.int, .string ⟨y.v.text.toArray⟩])).run Tryz.prog W = .ok (.bool true) W := fun W => by rw [val_eql, tl_eq, h3]
            clear h3
            go_wp2
            go_ret
            exact ⟨ret_eq (by rw [HR.out]; rfl), HB.out⟩
          | true =>
            have HR : Asd (sameE x y = sameL x.args y.args) := Asd.mk (by rw [HE.out, h1, h2, h3, h4, h5]; simp)
            have hve : ∀ W, (binOp .eql 56 (.agg #[.int .i64 x.v.kind, .int .i64 x.v.int, .string ⟨x.v.text.toArray⟩]) (.agg #[.int .i64 y.v.kind, .int .i64 y.v.int, .string ⟨y.v.text.toArray⟩])).run Tryz.prog W = .ok (.bool true) W := fun W => by rw [val_eql, tl_eq, h3]
            clear h3
            go_wp2_with fail
            refine (HS.out _ HB.out).mono ?_
            rintro e w2 ⟨rfl, hb2⟩
            have HB2 := Asd.mk (HB.out.trans (hb2.mono HB.out.size))
            clear hb2
            cases hl : sameL x.args y.args with
            | true =>
              have HR2 : Asd (sameE x y = true) := Asd.mk (HR.out.trans hl)
              clear hl
              go_wp2
              go_ret
              exact ⟨ret_eq (by rw [HR2.out]; rfl), HB2.out⟩
            | false =>
              have HR2 : Asd (sameE x y = false) := Asd.mk (HR.out.trans hl)
              clear hl
              go_wp2
              go_ret
              exact ⟨ret_eq (by rw [HR2.out]; rfl), HB2.out⟩
end Go.Proofs.YtcefmhofidoloaaGreatDoor.Exp

/- expr.Same, whole; no expression that is read has too many operands; quarryErr; small. -/
set_option linter.unusedVariables false
set_option linter.unusedSimpArgs false
namespace Go.Proofs.YtcefmhofidoloaaGreatDoor.Exp
open Go.RowKit Go.Proofs.YtcefmhofidoloaaGreatDoor.Base Go.Proofs.YtcefmhofidoloaaGreatDoor.App Go.Proofs.YtcefmhofidoloaaGreatDoor.Byt Go.Proofs.YtcefmhofidoloaaGreatDoor.Lex

theorem args_lt (x : Ex) (i : Nat) (h : i < x.args.length) : SizeOf.sizeOf x.args[i] < SizeOf.sizeOf x := by
  cases x with
  | mk k o v t n c ty a =>
    have h1 := List.sizeOf_lt_of_mem (List.getElem_mem (l := a) h)
    have h2 : SizeOf.sizeOf a < SizeOf.sizeOf (Ex.mk k o v t n c ty a) := by simp; omega
    exact Nat.lt_trans h1 h2
theorem same_ok (x y : Ex) (hx : fewE x) : SameOK x y :=
  same_step x y hx fun i h h' => same_ok x.args[i] y.args[i] (fewL_mem (fewE_args hx).2 _ (List.getElem_mem h))
termination_by SizeOf.sizeOf x
decreasing_by exact args_lt x i h
/-- expr.Same. -/
theorem same_calls (P Q : Nat → Prop) (x y : Ex) (sx sy : Value) (w : World) (hx : fewE x) (hhx : Held P w x.args sx) (hhy : Held Q w y.args sy) :
    Calls Tryz.prog 24 #[exV x sx, exV y sy] w (SameR x y w) := same_ok x y hx P Q sx sy w hhx hhy

/-- A part of the reader reads only what has few operands. -/
def FewP (f : Nat → Res Ex) : Prop := ∀ i e j, f i = .ok (e, j) → fewE e
structure Fews (p : PF) : Prop where
  or : FewP p.or
  not : FewP p.not
  sign : FewP p.sign
theorem few_lit (v : Vl) : fewE (litE v) := by rw [litE, fewE]; exact ⟨by simp, by rw [fewL]; trivial⟩
theorem few_col (t n : List UInt8) : fewE (colE t n) := by rw [colE, fewE]; exact ⟨by simp, by rw [fewL]; trivial⟩
theorem few_un (o : Int) (a : Ex) (h : fewE a) : fewE (unE o a) := by rw [unE, fewE]; exact ⟨by simp, by rw [fewL, fewL]; exact ⟨h, trivial⟩⟩
theorem few_null (o : Int) (a : Ex) (h : fewE a) : fewE (nullE o a) := by rw [nullE, fewE]; exact ⟨by simp, by rw [fewL, fewL]; exact ⟨h, trivial⟩⟩
theorem few_pair (o : Int) (a b : Ex) (h : fewE a) (h' : fewE b) : fewE (pairE o a b) := by rw [pairE, fewE]; exact ⟨by simp, by rw [fewL, fewL, fewL]; exact ⟨h, h', trivial⟩⟩
theorem few_call (k o : Int) (l : List Ex) (hl : l.length ≤ 1048576) (h : fewL l) : fewE (callE k o l) := by rw [callE, fewE]; exact ⟨hl, h⟩
theorem fewL_snoc : ∀ {l : List Ex} {x : Ex}, fewL l → fewE x → fewL (l ++ [x])
  | [], x, _, h => by rw [List.nil_append, fewL, fewL]; exact ⟨h, trivial⟩
  | y :: r, x, h, hx => by
    rw [fewL] at h
    rw [List.cons_append, fewL]
    exact ⟨h.1, fewL_snoc h.2 hx⟩
theorem chainL_few {ops : List Sg} {f : Nat → Res Ex} {l : Toks} (hf : FewP f) : ∀ (n : Nat) (e : Ex) (i : Nat) (x : Ex) (j : Nat), fewE e → chainL ops f l n e i = .ok (x, j) → fewE x
  | 0, e, i, x, j, he, h => by rw [chainL] at h; injection h with h; injection h with h _; rw [← h]; exact he
  | n + 1, e, i, x, j, he, h => by
    rw [chainL] at h
    split at h
    · injection h with h; injection h with h _; rw [← h]; exact he
    · split at h
      · cases h
      · rename_i y k hk
        exact chainL_few hf n _ _ _ _ (few_pair _ _ _ he (hf _ _ _ hk)) h
theorem chainP_few {ops : List Sg} {f : Nat → Res Ex} {l : Toks} (hf : FewP f) : FewP (chainP ops f l) := by
  intro i e j h
  unfold chainP at h
  split at h
  · cases h
  · rename_i y k hk
    exact chainL_few hf _ _ _ _ _ (hf _ _ _ hk) h
theorem argsL_few {l : Toks} {p : PF} (hp : Fews p) : ∀ (n : Nat) (es : List Ex) (i : Nat) (x : List Ex) (j : Nat), fewL es → argsL l p n es i = .ok (x, j) → fewL x ∧ x.length = es.length + n
  | 0, es, i, x, j, he, h => by rw [argsL] at h; injection h with h; injection h with h _; rw [← h]; exact ⟨he, rfl⟩
  | n + 1, es, i, x, j, he, h => by
    rw [argsL] at h
    split at h
    · cases h
    · split at h
      · cases h
      · rename_i y k hk
        have h2 := argsL_few hp n _ _ _ _ (fewL_snoc he (hp.or _ _ _ hk)) h
        exact ⟨h2.1, by rw [h2.2]; simp; omega⟩
section
variable {nm : List UInt8 → Bool} {l : Toks} {sub : Option PF}
theorem callP_few (hs : ∀ p, sub = some p → Fews p) (f : Int × Int × Nat) (hf : f.2.2 ≤ 1000) : FewP (callP l sub f) := by
  intro i e j h
  unfold callP at h
  split at h
  · cases h
  · rename_i p
    have hp := hs p rfl
    split at h
    · split at h
      · cases h
      · injection h with h; injection h with h _; rw [← h]
        exact few_call _ _ _ (by simp) (by rw [fewL]; trivial)
    · split at h
      · cases h
      · rename_i es k hk
        split at h
        · cases h
        · injection h with h; injection h with h _; rw [← h]
          unfold argsP at hk
          split at hk
          · cases hk
          · rename_i y m hm
            have h2 := argsL_few hp _ _ _ _ _ (by rw [fewL, fewL]; exact ⟨hp.or _ _ _ hm, trivial⟩) hk
            exact few_call _ _ _ (by rw [h2.2]; simp; omega) h2.1
theorem colP_few : FewP (colP nm l) := by
  intro i e j h
  unfold colP at h
  split at h
  · cases h
  · split at h
    · split at h
      · cases h
      · injection h with h; injection h with h _; rw [← h]; exact few_col _ _
    · injection h with h; injection h with h _; rw [← h]; exact few_col _ _
theorem wordP_few (hs : ∀ p, sub = some p → Fews p) (s : List UInt8) : FewP (wordP nm l sub s) := by
  intro i e j h
  unfold wordP at h
  split at h
  · injection h with h; injection h with h _; rw [← h]; exact few_lit _
  · split at h
    · injection h with h; injection h with h _; rw [← h]; exact few_lit _
    · split at h
      · injection h with h; injection h with h _; rw [← h]; exact few_lit _
      · split at h
        · rename_i f hf
          split at h
          · exact callP_few hs _ (by have := funT_bound hf; omega) _ _ _ h
          · exact colP_few _ _ _ h
        · exact colP_few _ _ _ h
theorem itemP_few (hs : ∀ p, sub = some p → Fews p) : FewP (itemP nm l sub) := by
  intro i e j h
  unfold itemP at h
  split at h
  · cases h
  · split at h
    · injection h with h; injection h with h _; rw [← h]; exact few_lit _
    · split at h
      · injection h with h; injection h with h _; rw [← h]; exact few_lit _
      · split at h
        · injection h with h; injection h with h _; rw [← h]; exact few_lit _
        · split at h
          · exact wordP_few hs _ _ _ _ h
          · split at h
            · unfold brackP at h
              split at h
              · cases h
              · rename_i p
                split at h
                · cases h
                · rename_i y k hk
                  split at h
                  · cases h
                  · injection h with h; injection h with h _; rw [← h]; exact (hs p rfl).or _ _ _ hk
            · cases h
theorem signP_few (hs : ∀ p, sub = some p → Fews p) : FewP (signP nm l sub) := by
  intro i e j h
  unfold signP at h
  split at h
  · split at h
    · cases h
    · rename_i p
      split at h
      · cases h
      · rename_i y k hk
        injection h with h; injection h with h _; rw [← h]; exact few_un _ _ ((hs p rfl).sign _ _ _ hk)
  · exact itemP_few hs _ _ _ h
theorem prodP_few (hs : ∀ p, sub = some p → Fews p) : FewP (prodP nm l sub) := chainP_few (signP_few hs)
theorem sumP_few (hs : ∀ p, sub = some p → Fews p) : FewP (sumP nm l sub) := chainP_few (prodP_few hs)
theorem catP_few (hs : ∀ p, sub = some p → Fews p) : FewP (catP nm l sub) := chainP_few (sumP_few hs)
theorem testP_few (hs : ∀ p, sub = some p → Fews p) : FewP (testP nm l sub) := by
  intro i e j h
  unfold testP at h
  split at h
  · cases h
  · rename_i y k hk
    have h1 := catP_few hs _ _ _ hk
    split at h
    · split at h
      · cases h
      · injection h with h; injection h with h _; rw [← h]; exact few_null _ _ h1
    · split at h
      · injection h with h; injection h with h _; rw [← h]; exact h1
      · split at h
        · cases h
        · rename_i z m hm
          injection h with h; injection h with h _; rw [← h]; exact few_pair _ _ _ h1 (catP_few hs _ _ _ hm)
theorem notP_few (hs : ∀ p, sub = some p → Fews p) : FewP (notP nm l sub) := by
  intro i e j h
  unfold notP at h
  split at h
  · split at h
    · cases h
    · rename_i p
      split at h
      · cases h
      · rename_i y k hk
        injection h with h; injection h with h _; rw [← h]; exact few_un _ _ ((hs p rfl).not _ _ _ hk)
  · exact testP_few hs _ _ _ h
theorem andP_few (hs : ∀ p, sub = some p → Fews p) : FewP (andP nm l sub) := chainP_few (notP_few hs)
theorem orP_few (hs : ∀ p, sub = some p → Fews p) : FewP (orP nm l sub) := chainP_few (andP_few hs)
end
theorem readF_few (nm : List UInt8 → Bool) (l : Toks) : ∀ k, Fews (readF nm l k)
  | 0 => ⟨orP_few (fun p h => by cases h), notP_few (fun p h => by cases h), signP_few (fun p h => by cases h)⟩
  | k + 1 => ⟨orP_few (fun p h => by cases h; exact readF_few nm l k), notP_few (fun p h => by cases h; exact readF_few nm l k), signP_few (fun p h => by cases h; exact readF_few nm l k)⟩
end Go.Proofs.YtcefmhofidoloaaGreatDoor.Exp

/- expr.line: how tightly an expression binds. -/
set_option linter.unusedVariables false
set_option linter.unusedSimpArgs false
namespace Go.Proofs.YtcefmhofidoloaaGreatDoor.Exp
open Go.RowKit Go.Proofs.YtcefmhofidoloaaGreatDoor.Base Go.Proofs.YtcefmhofidoloaaGreatDoor.App Go.Proofs.YtcefmhofidoloaaGreatDoor.Byt Go.Proofs.YtcefmhofidoloaaGreatDoor.Lex

/-- Kind, operator and number of operands of what is read, but for calls of functions and pairs; the line. -/
def lineTab : List (Int × Int × Nat × Int) := [(1, 0, 0, 9), (2, 0, 0, 9), (6, 1, 0, 9), (6, 1, 1, 9), (6, 2, 1, 9), (6, 3, 1, 9), (6, 4, 1, 9), (3, 2, 1, 3), (3, 1, 1, 8), (7, 0, 1, 4), (7, 1, 1, 4)]
/-- The line of a pair's operator. -/
def pairLn (o : Nat) : Int := [0, 0, 0, 1, 2, 4, 4, 4, 4, 4, 4, 6, 6, 7, 7, 7, 5].getD o 0
/-- What line answers. -/
def LineR (L : Int) (w : World) (e : Ending) (w' : World) : Prop := e = .returned (.int .i64 L) ∧ Below w.heap.size w w'
set_option maxRecDepth 100000 in
set_option maxHeartbeats 12800000 in
theorem line_tab (a2 a3 a7 a8 : Int) (s4 s5 s6 : ByteArray) (A : Option Addr) (c : Nat) (w : World) (q : Int × Int × Nat × Int) (h : q ∈ lineTab) :
    Calls Tryz.prog 60 #[.agg #[.int .i64 q.1, .int .i64 q.2.1, .int .i64 a2, .int .i64 a3, .string s4, .string s5, .string s6, .int .i64 a7, .int .i64 a8, .slice A q.2.2.1 c]] w (LineR q.2.2.2 w) := by
  simp only [lineTab, List.mem_cons, List.not_mem_nil, or_false] at h
  rcases h with rfl | rfl | rfl | rfl | rfl | rfl | rfl | rfl | rfl | rfl | rfl
  all_goals
    go_enter Tryz.func60, Tryz.ntmps60
    go_wp2
    go_ret
    exact ⟨rfl, below_alloc (Below.refl _ w) _⟩
set_option maxRecDepth 100000 in
theorem line_index (o : Nat) (h : 3 ≤ o) (h' : o ≤ 16) (W : World) : (Instr.index 189 (.agg #[.int .i64 0, .int .i64 0, .int .i64 0, .int .i64 1, .int .i64 2, .int .i64 4, .int .i64 4, .int .i64 4, .int .i64 4, .int .i64 4, .int .i64 4, .int .i64 6, .int .i64 6, .int .i64 7, .int .i64 7, .int .i64 7, .int .i64 5]) (.int .i64 (o : Nat))).run Tryz.prog W = .ok (.int .i64 (pairLn o)) W := by
  have hc : o = 3 ∨ o = 4 ∨ o = 5 ∨ o = 6 ∨ o = 7 ∨ o = 8 ∨ o = 9 ∨ o = 10 ∨ o = 11 ∨ o = 12 ∨ o = 13 ∨ o = 14 ∨ o = 15 ∨ o = 16 := by omega
  clear h h'
  rcases hc with rfl | rfl | rfl | rfl | rfl | rfl | rfl | rfl | rfl | rfl | rfl | rfl | rfl | rfl
  all_goals
    first | rfl | (show _ = _; kernel_rfl)
set_option maxRecDepth 100000 in
set_option maxHeartbeats 12800000 in
theorem line_pair (a2 a3 a7 a8 : Int) (s4 s5 s6 : ByteArray) (A : Option Addr) (c : Nat) (o : Nat) (h : 3 ≤ o) (h' : o ≤ 16) (w : World) :
    Calls Tryz.prog 60 #[.agg #[.int .i64 4, .int .i64 (o : Nat), .int .i64 a2, .int .i64 a3, .string s4, .string s5, .string s6, .int .i64 a7, .int .i64 a8, .slice A 2 c]] w (LineR (pairLn o) w) := by
  have hix := line_index o h h'
  have h1 : (3 : Int) ≤ (o : Int) := by omega
  have h2 : (o : Int) ≤ 16 := by omega
  clear h h'
  go_enter Tryz.func60, Tryz.ntmps60
  go_wp2
  go_ret
  exact ⟨rfl, below_alloc (Below.refl _ w) _⟩
set_option maxRecDepth 100000 in
set_option maxHeartbeats 12800000 in
theorem line_call (a2 a3 a7 a8 : Int) (s4 s5 s6 : ByteArray) (A : Option Addr) (c : Nat) (k : Nat) (h : 1 ≤ k) (h' : k ≤ 6) (w : World) :
    Calls Tryz.prog 60 #[.agg #[.int .i64 5, .int .i64 (k : Nat), .int .i64 a2, .int .i64 a3, .string s4, .string s5, .string s6, .int .i64 a7, .int .i64 a8, .slice A (opn k) c]] w (LineR 9 w) := by
  have h1 : (1 : Int) ≤ (k : Int) := by omega
  have h2 : (k : Int) ≤ 6 := by omega
  have HO := Asd.mk (operands_calls k)
  clear h h'
  generalize opn k = n at HO ⊢
  go_enter Tryz.func60, Tryz.ntmps60
  go_wp2_with fail
  refine (HO.out _).mono ?_
  rintro e w2 ⟨rfl, rfl⟩
  go_wp2
  go_ret
  exact ⟨rfl, below_alloc (Below.refl _ w) _⟩
end Go.Proofs.YtcefmhofidoloaaGreatDoor.Exp

/- What is read is of a right kind, operator and number of operands. -/
set_option linter.unusedVariables false
set_option linter.unusedSimpArgs false
namespace Go.Proofs.YtcefmhofidoloaaGreatDoor.Exp
open Go.RowKit Go.Proofs.YtcefmhofidoloaaGreatDoor.Base Go.Proofs.YtcefmhofidoloaaGreatDoor.App Go.Proofs.YtcefmhofidoloaaGreatDoor.Byt Go.Proofs.YtcefmhofidoloaaGreatDoor.Lex

/-- A right kind, operator and number of operands. -/
def Shp (k o : Int) (n : Nat) : Prop := (∃ L, (k, o, n, L) ∈ lineTab) ∨ (∃ j : Nat, 3 ≤ j ∧ j ≤ 16 ∧ k = 4 ∧ o = (j : Int) ∧ n = 2) ∨ (∃ j : Nat, 1 ≤ j ∧ j ≤ 6 ∧ k = 5 ∧ o = (j : Int) ∧ n = opn j)
mutual
/-- All that is within is of a right kind, operator and number of operands. -/
def okE : Ex → Prop
  | .mk k o _ _ _ _ _ a => Shp k o a.length ∧ okL a
def okL : List Ex → Prop
  | [] => True
  | x :: xs => okE x ∧ okL xs
end
theorem okL_mem : ∀ {l : List Ex}, okL l → ∀ x ∈ l, okE x
  | [], _, x, hx => by cases hx
  | y :: r, h, x, hx => by
    rw [okL] at h
    rcases List.mem_cons.mp hx with rfl | hx
    · exact h.1
    · exact okL_mem h.2 x hx
theorem okE_args {x : Ex} (h : okE x) : Shp x.kind x.op x.args.length ∧ okL x.args := by
  cases x; rw [okE] at h; exact h
def OkP (f : Nat → Res Ex) : Prop := ∀ i e j, f i = .ok (e, j) → okE e
structure Oks (p : PF) : Prop where
  or : OkP p.or
  not : OkP p.not
  sign : OkP p.sign
theorem ok_lit (v : Vl) : okE (litE v) := by rw [litE, okE]; exact ⟨.inl ⟨9, by simp [lineTab]⟩, by rw [okL]; trivial⟩
theorem ok_col (t n : List UInt8) : okE (colE t n) := by rw [colE, okE]; exact ⟨.inl ⟨9, by simp [lineTab]⟩, by rw [okL]; trivial⟩
theorem ok_un (o : Int) (a : Ex) (ho : o = 1 ∨ o = 2) (h : okE a) : okE (unE o a) := by
  rw [unE, okE]
  refine ⟨?_, by rw [okL, okL]; exact ⟨h, trivial⟩⟩
  rcases ho with rfl | rfl
  · exact .inl ⟨8, by simp [lineTab]⟩
  · exact .inl ⟨3, by simp [lineTab]⟩
theorem ok_null (o : Int) (a : Ex) (ho : o = 0 ∨ o = 1) (h : okE a) : okE (nullE o a) := by
  rw [nullE, okE]
  refine ⟨?_, by rw [okL, okL]; exact ⟨h, trivial⟩⟩
  rcases ho with rfl | rfl <;> exact .inl ⟨4, by simp [lineTab]⟩
theorem ok_pair (o : Int) (a b : Ex) (ho : 3 ≤ o ∧ o ≤ 16) (h : okE a) (h' : okE b) : okE (pairE o a b) := by
  rw [pairE, okE]
  exact ⟨.inr (.inl ⟨o.toNat, by omega, by omega, rfl, by omega, rfl⟩), by rw [okL, okL, okL]; exact ⟨h, h', trivial⟩⟩
theorem ok_call (k o : Int) (l : List Ex) (hl : Shp k o l.length) (h : okL l) : okE (callE k o l) := by rw [callE, okE]; exact ⟨hl, h⟩
theorem okL_snoc : ∀ {l : List Ex} {x : Ex}, okL l → okE x → okL (l ++ [x])
  | [], x, _, h => by rw [List.nil_append, okL, okL]; exact ⟨h, trivial⟩
  | y :: r, x, h, hx => by
    rw [okL] at h
    rw [List.cons_append, okL]
    exact ⟨h.1, okL_snoc h.2 hx⟩
/-- The operators of a line are pairs' operators. -/
structure OpsOK (ops : List Sg) : Prop where
  of : ∀ {l : Toks} {i : Nat} {o : Int}, operT ops l i = some o → 3 ≤ o ∧ o ≤ 16
theorem opT_mem {l : Toks} {i : Nat} : ∀ {ops : List Sg} {o : Int}, operT ops l i = some o → ∃ x ∈ ops, x.2.2 = o
  | [], o, h => by cases h
  | x :: r, o, h => by
    rw [operT] at h
    split at h
    · injection h with h; exact ⟨x, by simp, h⟩
    · obtain ⟨y, hy, he⟩ := opT_mem h
      exact ⟨y, by simp [hy], he⟩
theorem ops_of {ops : List Sg} (h : ∀ x ∈ ops, 3 ≤ x.2.2 ∧ x.2.2 ≤ 16) : OpsOK ops := ⟨fun hh => by
  obtain ⟨x, hx, rfl⟩ := opT_mem hh
  exact h x hx⟩
theorem ops_or : OpsOK sgOr := ops_of (by decide)
theorem ops_and : OpsOK sgAnd := ops_of (by decide)
theorem ops_test : OpsOK sgTest := ops_of (by decide)
theorem ops_cat : OpsOK sgCat := ops_of (by decide)
theorem ops_sum : OpsOK sgSum := ops_of (by decide)
theorem ops_prod : OpsOK sgProd := ops_of (by decide)
theorem chainL_okE {ops : List Sg} {f : Nat → Res Ex} {l : Toks} (ho : OpsOK ops) (hf : OkP f) : ∀ (n : Nat) (e : Ex) (i : Nat) (x : Ex) (j : Nat), okE e → chainL ops f l n e i = .ok (x, j) → okE x
  | 0, e, i, x, j, he, h => by rw [chainL] at h; injection h with h; injection h with h _; rw [← h]; exact he
  | n + 1, e, i, x, j, he, h => by
    rw [chainL] at h
    split at h
    · injection h with h; injection h with h _; rw [← h]; exact he
    · rename_i o hop
      split at h
      · cases h
      · rename_i y k hk
        exact chainL_okE ho hf n _ _ _ _ (ok_pair _ _ _ (ho.of hop) he (hf _ _ _ hk)) h
theorem chainP_okE {ops : List Sg} {f : Nat → Res Ex} {l : Toks} (ho : OpsOK ops) (hf : OkP f) : OkP (chainP ops f l) := by
  intro i e j h
  unfold chainP at h
  split at h
  · cases h
  · rename_i y k hk
    exact chainL_okE ho hf _ _ _ _ _ (hf _ _ _ hk) h
/-- What funT tells of a function. -/
def FnOK (f : Int × Int × Nat) : Prop := 1 ≤ f.2.2 ∧ Shp f.1 f.2.1 (1 + (f.2.2 - 1))
theorem funT_ok {s : List UInt8} {f : Int × Int × Nat} (h : funT s = some f) : FnOK f := by
  unfold funT at h
  repeat' split at h
  all_goals first
    | (injection h with h; subst h; exact ⟨by decide, .inr (.inr ⟨1, by decide, by decide, rfl, rfl, rfl⟩)⟩)
    | (injection h with h; subst h; exact ⟨by decide, .inr (.inr ⟨2, by decide, by decide, rfl, rfl, rfl⟩)⟩)
    | (injection h with h; subst h; exact ⟨by decide, .inr (.inr ⟨3, by decide, by decide, rfl, rfl, rfl⟩)⟩)
    | (injection h with h; subst h; exact ⟨by decide, .inr (.inr ⟨4, by decide, by decide, rfl, rfl, rfl⟩)⟩)
    | (injection h with h; subst h; exact ⟨by decide, .inr (.inr ⟨5, by decide, by decide, rfl, rfl, rfl⟩)⟩)
    | (injection h with h; subst h; exact ⟨by decide, .inr (.inr ⟨6, by decide, by decide, rfl, rfl, rfl⟩)⟩)
    | (cases h; done)
    | (injection h with h; subst h; exact ⟨by decide, .inl ⟨9, by simp [lineTab]⟩⟩)
theorem argsL_okE {l : Toks} {p : PF} (hp : Oks p) : ∀ (n : Nat) (es : List Ex) (i : Nat) (x : List Ex) (j : Nat), okL es → argsL l p n es i = .ok (x, j) → okL x ∧ x.length = es.length + n
  | 0, es, i, x, j, he, h => by rw [argsL] at h; injection h with h; injection h with h _; rw [← h]; exact ⟨he, rfl⟩
  | n + 1, es, i, x, j, he, h => by
    rw [argsL] at h
    split at h
    · cases h
    · split at h
      · cases h
      · rename_i y k hk
        have h2 := argsL_okE hp n _ _ _ _ (okL_snoc he (hp.or _ _ _ hk)) h
        exact ⟨h2.1, by rw [h2.2]; simp; omega⟩
section
variable {nm : List UInt8 → Bool} {l : Toks} {sub : Option PF}
theorem callP_okE (hs : ∀ p, sub = some p → Oks p) (f : Int × Int × Nat) (hf : FnOK f) : OkP (callP l sub f) := by
  intro i e j h
  unfold callP at h
  split at h
  · cases h
  · rename_i p
    have hp := hs p rfl
    split at h
    · rename_i hz
      split at h
      · cases h
      · injection h with h; injection h with h _; rw [← h]
        rw [hz.1, hz.2.1]
        exact ok_call _ _ _ (Or.inl ⟨9, by simp [lineTab]⟩) (by rw [okL]; trivial)
    · split at h
      · cases h
      · rename_i es k hk
        split at h
        · cases h
        · injection h with h; injection h with h _; rw [← h]
          unfold argsP at hk
          split at hk
          · cases hk
          · rename_i y m hm
            have h2 := argsL_okE hp _ _ _ _ _ (by rw [okL, okL]; exact ⟨hp.or _ _ _ hm, trivial⟩) hk
            exact ok_call _ _ _ (by rw [h2.2]; exact hf.2) h2.1
theorem colP_okE : OkP (colP nm l) := by
  intro i e j h
  unfold colP at h
  split at h
  · cases h
  · split at h
    · split at h
      · cases h
      · injection h with h; injection h with h _; rw [← h]; exact ok_col _ _
    · injection h with h; injection h with h _; rw [← h]; exact ok_col _ _
theorem wordP_okE (hs : ∀ p, sub = some p → Oks p) (s : List UInt8) : OkP (wordP nm l sub s) := by
  intro i e j h
  unfold wordP at h
  split at h
  · injection h with h; injection h with h _; rw [← h]; exact ok_lit _
  · split at h
    · injection h with h; injection h with h _; rw [← h]; exact ok_lit _
    · split at h
      · injection h with h; injection h with h _; rw [← h]; exact ok_lit _
      · split at h
        · rename_i f hf
          split at h
          · exact callP_okE hs _ (funT_ok hf) _ _ _ h
          · exact colP_okE _ _ _ h
        · exact colP_okE _ _ _ h
theorem itemP_okE (hs : ∀ p, sub = some p → Oks p) : OkP (itemP nm l sub) := by
  intro i e j h
  unfold itemP at h
  split at h
  · cases h
  · split at h
    · injection h with h; injection h with h _; rw [← h]; exact ok_lit _
    · split at h
      · injection h with h; injection h with h _; rw [← h]; exact ok_lit _
      · split at h
        · injection h with h; injection h with h _; rw [← h]; exact ok_lit _
        · split at h
          · exact wordP_okE hs _ _ _ _ h
          · split at h
            · unfold brackP at h
              split at h
              · cases h
              · rename_i p
                split at h
                · cases h
                · rename_i y k hk
                  split at h
                  · cases h
                  · injection h with h; injection h with h _; rw [← h]; exact (hs p rfl).or _ _ _ hk
            · cases h
theorem signP_okE (hs : ∀ p, sub = some p → Oks p) : OkP (signP nm l sub) := by
  intro i e j h
  unfold signP at h
  split at h
  · split at h
    · cases h
    · rename_i p
      split at h
      · cases h
      · rename_i y k hk
        injection h with h; injection h with h _; rw [← h]; exact ok_un _ _ (.inl rfl) ((hs p rfl).sign _ _ _ hk)
  · exact itemP_okE hs _ _ _ h
theorem prodP_okE (hs : ∀ p, sub = some p → Oks p) : OkP (prodP nm l sub) := chainP_okE ops_prod (signP_okE hs)
theorem sumP_okE (hs : ∀ p, sub = some p → Oks p) : OkP (sumP nm l sub) := chainP_okE ops_sum (prodP_okE hs)
theorem catP_okE (hs : ∀ p, sub = some p → Oks p) : OkP (catP nm l sub) := chainP_okE ops_cat (sumP_okE hs)
theorem testP_okE (hs : ∀ p, sub = some p → Oks p) : OkP (testP nm l sub) := by
  intro i e j h
  unfold testP at h
  split at h
  · cases h
  · rename_i y k hk
    have h1 := catP_okE hs _ _ _ hk
    split at h
    · split at h
      · cases h
      · injection h with h; injection h with h _; rw [← h]; exact ok_null _ _ (by split <;> simp) h1
    · split at h
      · injection h with h; injection h with h _; rw [← h]; exact h1
      · split at h
        · cases h
        · rename_i z m hm
          injection h with h; injection h with h _; rw [← h]; exact ok_pair _ _ _ (ops_test.of (by assumption)) h1 (catP_okE hs _ _ _ hm)
theorem notP_okE (hs : ∀ p, sub = some p → Oks p) : OkP (notP nm l sub) := by
  intro i e j h
  unfold notP at h
  split at h
  · split at h
    · cases h
    · rename_i p
      split at h
      · cases h
      · rename_i y k hk
        injection h with h; injection h with h _; rw [← h]; exact ok_un _ _ (.inr rfl) ((hs p rfl).not _ _ _ hk)
  · exact testP_okE hs _ _ _ h
theorem andP_okE (hs : ∀ p, sub = some p → Oks p) : OkP (andP nm l sub) := chainP_okE ops_and (notP_okE hs)
theorem orP_okE (hs : ∀ p, sub = some p → Oks p) : OkP (orP nm l sub) := chainP_okE ops_or (andP_okE hs)
end
theorem readF_okE (nm : List UInt8 → Bool) (l : Toks) : ∀ k, Oks (readF nm l k)
  | 0 => ⟨orP_okE (fun p h => by cases h), notP_okE (fun p h => by cases h), signP_okE (fun p h => by cases h)⟩
  | k + 1 => ⟨orP_okE (fun p h => by cases h; exact readF_okE nm l k), notP_okE (fun p h => by cases h; exact readF_okE nm l k), signP_okE (fun p h => by cases h; exact readF_okE nm l k)⟩
end Go.Proofs.YtcefmhofidoloaaGreatDoor.Exp

/- expr.line of what is read. -/
set_option linter.unusedVariables false
set_option linter.unusedSimpArgs false
namespace Go.Proofs.YtcefmhofidoloaaGreatDoor.Exp
open Go.RowKit Go.Proofs.YtcefmhofidoloaaGreatDoor.Base Go.Proofs.YtcefmhofidoloaaGreatDoor.App Go.Proofs.YtcefmhofidoloaaGreatDoor.Byt Go.Proofs.YtcefmhofidoloaaGreatDoor.Lex

/-- The line of an expression of a kind, with an operator and so many operands. -/
def lnN (k o : Int) (n : Nat) : Int := if k = 4 then pairLn o.toNat else if k = 5 then 9 else ((lineTab.find? fun q => q.1 == k && q.2.1 == o && q.2.2.1 == n).map (·.2.2.2)).getD 0
def lnE (x : Ex) : Int := lnN x.kind x.op x.args.length
theorem lnN_tab {k o : Int} {n : Nat} {L : Int} (h : (k, o, n, L) ∈ lineTab) : lnN k o n = L := by
  simp only [lineTab, List.mem_cons, List.not_mem_nil, or_false, Prod.mk.injEq] at h
  rcases h with ⟨rfl, rfl, rfl, rfl⟩ | ⟨rfl, rfl, rfl, rfl⟩ | ⟨rfl, rfl, rfl, rfl⟩ | ⟨rfl, rfl, rfl, rfl⟩ | ⟨rfl, rfl, rfl, rfl⟩ | ⟨rfl, rfl, rfl, rfl⟩ | ⟨rfl, rfl, rfl, rfl⟩ | ⟨rfl, rfl, rfl, rfl⟩ | ⟨rfl, rfl, rfl, rfl⟩ | ⟨rfl, rfl, rfl, rfl⟩ | ⟨rfl, rfl, rfl, rfl⟩ <;> decide
/-- expr.line. -/
theorem line_calls (x : Ex) (A : Option Addr) (c : Nat) (w : World) (h : okE x) :
    Calls Tryz.prog 60 #[exV x (.slice A x.args.length c)] w (LineR (lnE x) w) := by
  have hs := (okE_args h).1
  unfold lnE exV
  generalize x.kind = k at hs ⊢
  generalize x.op = o at hs ⊢
  generalize x.args.length = n at hs ⊢
  rcases hs with ⟨L, hL⟩ | ⟨j, h3, h16, rfl, rfl, rfl⟩ | ⟨j, h1, h6, rfl, rfl, rfl⟩
  · rw [lnN_tab hL]
    exact line_tab _ _ _ _ _ _ _ A c w (k, o, n, L) hL
  · rw [show lnN 4 (j : Int) 2 = pairLn j by unfold lnN; rw [if_pos rfl]; rfl]
    exact line_pair _ _ _ _ _ _ _ A c j h3 h16 w
  · rw [show lnN 5 (j : Int) (opn j) = 9 by unfold lnN; rw [if_neg (by decide), if_pos rfl]]
    exact line_call _ _ _ _ _ _ _ A c j h1 h6 w
end Go.Proofs.YtcefmhofidoloaaGreatDoor.Exp

/- What expr.Print writes, as a plain function over how values are written. -/
set_option linter.unusedVariables false
namespace Go.Proofs.YtcefmhofidoloaaGreatDoor.Exp
open Go.Proofs.YtcefmhofidoloaaGreatDoor.Lex

def fnT : List (List UInt8) := [[], [76, 69, 78, 71, 84, 72], [65, 66, 83], [85, 80, 80, 69, 82], [76, 79, 87, 69, 82], [83, 85, 66, 83, 84, 82], [67, 79, 65, 76, 69, 83, 67, 69]]
def agT : List (List UInt8) := [[], [67, 79, 85, 78, 84], [83, 85, 77], [77, 73, 78], [77, 65, 88]]
def opT : List (List UInt8) := [[], [], [], [79, 82], [65, 78, 68], [61], [60, 62], [60], [60, 61], [62], [62, 61], [43], [45], [42], [47], [37], [124, 124]]
/-- An operand's text, in brackets if it needs them. -/
def brT (least : Int) (p : Int × List UInt8) : List UInt8 := if p.1 ≠ 0 ∧ p.1 < least then [40] ++ p.2 ++ [41] else p.2
/-- The operands of a call. -/
def allT (ps : List (Int × List UInt8)) : List UInt8 := [40] ++ Lib.join (ps.map (·.2)) [44, 32] ++ [41]
/-- An expression's text out of its operands' lines and texts. -/
def prK (lit : Vl → List UInt8) (k o : Int) (v : Vl) (t n : List UInt8) (ps : List (Int × List UInt8)) : List UInt8 :=
  let l := lnN k o ps.length
  let p0 := ps.getD 0 (0, [])
  let p1 := ps.getD 1 (0, [])
  if l = 0 then []
  else if k = 1 then lit v
  else if k = 2 then (if t = [] then n else t ++ [46] ++ n)
  else if k = 3 then (if o = 2 then [78, 79, 84, 32] ++ brT l p0 else [45, 32] ++ brT l p0)
  else if k = 7 then brT 5 p0 ++ (if o = 0 then [32, 73, 83, 32, 78, 85, 76, 76] else [32, 73, 83, 32, 78, 79, 84, 32, 78, 85, 76, 76])
  else if k = 5 then fnT.getD o.toNat [] ++ allT ps
  else if k = 6 then (if ps = [] then agT.getD o.toNat [] ++ [40, 42, 41] else agT.getD o.toNat [] ++ allT ps)
  else brT (if l = 4 then 5 else l) p0 ++ [32] ++ opT.getD o.toNat [] ++ [32] ++ brT (l + 1) p1
mutual
/-- An expression's text. -/
def prE (lit : Vl → List UInt8) : Ex → List UInt8
  | .mk k o v t n _ _ a => prK lit k o v t n (prL lit a)
/-- The lines and texts of some expressions. -/
def prL (lit : Vl → List UInt8) : List Ex → List (Int × List UInt8)
  | [] => []
  | x :: xs => (lnE x, prE lit x) :: prL lit xs
end
theorem prL_len (lit : Vl → List UInt8) : ∀ a : List Ex, (prL lit a).length = a.length
  | [] => by rw [prL]; rfl
  | x :: xs => by rw [prL, List.length_cons, prL_len lit xs, List.length_cons]
theorem prL_at (lit : Vl → List UInt8) : ∀ (a : List Ex) (i : Nat) (h : i < a.length), (prL lit a)[i]'(by rw [prL_len]; exact h) = (lnE a[i], prE lit a[i])
  | x :: xs, 0, h => by simp [prL]
  | x :: xs, i + 1, h => by simpa [prL] using prL_at lit xs i (by simpa using h)
theorem prE_eq (lit : Vl → List UInt8) (x : Ex) : prE lit x = prK lit x.kind x.op x.v x.table x.name (prL lit x.args) := by
  cases x; rw [prE]; rfl
end Go.Proofs.YtcefmhofidoloaaGreatDoor.Exp

/- How a word is written by the lexer. -/
set_option linter.unusedVariables false
set_option linter.unusedSimpArgs false
namespace Go.Proofs.YtcefmhofidoloaaGreatDoor.Lex
open Go.RowKit Go.Proofs.YtcefmhofidoloaaGreatDoor.Base Go.Proofs.YtcefmhofidoloaaGreatDoor.App Go.Proofs.YtcefmhofidoloaaGreatDoor.Byt

theorem tab_below {w w' : World} {n : String} {k : IntKind} {zs : List Int} (h : Lib.TabIs Tryz.prog w n k zs) (hb : Below w.heap.size w w') : Lib.TabIs Tryz.prog w' n k zs := by
  unfold Lib.TabIs World.var? at h ⊢
  cases hg : Tryz.prog.globalNamed n with
  | none => rw [hg] at h; cases h
  | some g =>
    rw [hg] at h
    simp only [Option.bind_some] at h ⊢
    cases ho : w.heap[g]? with
    | none => rw [ho] at h; cases h
    | some o =>
      rw [ho] at h
      rw [blk_below hb ho]
      exact h
/-- How a word is written. -/
def printB (k n : Int) (t : ByteArray) : ByteArray :=
  if k = 1 ∨ k = 5 then t else if k = 2 then ⟨(Lib.itoa n).toArray⟩ else if k = 3 then ⟨(litText t.data.toList).toArray⟩ else if k = 4 then ⟨(litBlob t.data.toList).toArray⟩ else ⟨#[]⟩
theorem kinds (k : Int) : k = 1 ∨ k = 5 ∨ k = 2 ∨ k = 3 ∨ k = 4 ∨ (¬ (k = 1 ∨ k = 5) ∧ k ≠ 2 ∧ k ≠ 3 ∧ k ≠ 4) := by omega

set_option maxRecDepth 100000 in
set_option maxHeartbeats 1600000 in
theorem print_calls (k a n : Int) (t : ByteArray) (w : World) (ht : t.size ≤ 1048576) (h0 : -9223372036854775808 ≤ n) (h1 : n ≤ 9223372036854775807) (hsh : w.ShapedOpen Tryz.prog) (htab : Lib.TabIs Tryz.prog w "internal/strconv.uint64pow10" .u64 Lib.pow10Tab) :
    Calls Tryz.prog 19 #[.agg #[.int .i64 k, .string t, .int .i64 a, .int .i64 n]] w fun e w' => e = .returned (.string (printB k n t)) ∧ Below w.heap.size w w' := by
  have HB := Asd.mk (below_alloc (Below.refl _ w) (.cells #[.int .i64 k, .string t, .int .i64 a, .int .i64 n] 52))
  have HSH := Asd.mk (shaped_below hsh HB.out)
  have HTB := Asd.mk (tab_below htab HB.out)
  clear hsh htab
  rcases kinds k with rfl | rfl | rfl | rfl | rfl | ⟨h15, h2, h3, h4⟩
  · go_enter Tryz.func19, Tryz.ntmps19
    go_wp2
    go_ret
    exact ⟨rfl, HB.out⟩
  · go_enter Tryz.func19, Tryz.ntmps19
    go_wp2
    go_ret
    exact ⟨rfl, HB.out⟩
  · go_enter Tryz.func19, Tryz.ntmps19
    go_wp2_with fail
    refine (Tryz.strconv_FormatInt_10 n h0 h1 _ HTB.out).mono ?_
    rintro e w1 ⟨rfl, kk, os, hw⟩
    have HBE : Asd (Below w.heap.size w w1) := Asd.mk (by rw [hw]; exact below_step HB.out (Lib.below_grow _ _ (Nat.le_refl _) kk os))
    clear hw
    generalize hit : (⟨(Lib.itoa n).toArray⟩ : ByteArray) = it
    have HIT := Asd.mk hit
    clear hit
    go_wp2
    go_ret
    exact ⟨ret_eq (by show Value.string it = _; rw [← HIT.out]; rfl), HBE.out⟩
  · go_enter Tryz.func19, Tryz.ntmps19
    go_wp2_with fail
    refine (lit_text t _ ht HSH.out).mono ?_
    rintro e w1 ⟨rfl, hb⟩
    have HBE := Asd.mk (below_step HB.out hb)
    clear hb
    go_wp2
    go_ret
    exact ⟨rfl, HBE.out⟩
  · go_enter Tryz.func19, Tryz.ntmps19
    go_wp2_with fail
    refine (lit_blob t _ ht).mono ?_
    rintro e w1 ⟨rfl, hb⟩
    have HBE := Asd.mk (below_step HB.out hb)
    clear hb
    go_wp2
    go_ret
    exact ⟨rfl, HBE.out⟩
  · have HP : Asd (printB k n t = ⟨#[]⟩) := Asd.mk (by unfold printB; rw [if_neg h15, if_neg h2, if_neg h3, if_neg h4])
    have b1 : (k == 1) = false := beq_eq_false_iff_ne.2 (fun e => h15 (.inl e))
    have b5 : (k == 5) = false := beq_eq_false_iff_ne.2 (fun e => h15 (.inr e))
    have b2 : (k == 2) = false := beq_eq_false_iff_ne.2 h2
    have b3 : (k == 3) = false := beq_eq_false_iff_ne.2 h3
    have b4 : (k == 4) = false := beq_eq_false_iff_ne.2 h4
    clear h15 h2 h3 h4
    go_enter Tryz.func19, Tryz.ntmps19
    go_wp2
    go_ret
    exact ⟨ret_eq (by rw [HP.out]; rfl), HB.out⟩

end Go.Proofs.YtcefmhofidoloaaGreatDoor.Lex

/- expr.bracketed. -/
set_option linter.unusedVariables false
set_option linter.unusedSimpArgs false
namespace Go.Proofs.YtcefmhofidoloaaGreatDoor.Exp
open Go.RowKit Go.Proofs.YtcefmhofidoloaaGreatDoor.Base Go.Proofs.YtcefmhofidoloaaGreatDoor.App Go.Proofs.YtcefmhofidoloaaGreatDoor.Byt Go.Proofs.YtcefmhofidoloaaGreatDoor.Lex

/-- What Print wants of a world. -/
structure PrW (w : World) : Prop where
  sh : w.ShapedOpen Tryz.prog
  pow : Lib.TabIs Tryz.prog w "internal/strconv.uint64pow10" .u64 Lib.pow10Tab
theorem prw_below {w w' : World} (h : PrW w) (hb : Below w.heap.size w w') : PrW w' := ⟨shaped_below h.sh hb, tab_below h.pow hb⟩
/-- What Print answers. -/
def PrintR (t : List UInt8) (w : World) (e : Ending) (w' : World) : Prop := e = .returned (.string ⟨t.toArray⟩) ∧ Below w.heap.size w w'
def PrintOK (lit : Vl → List UInt8) (x : Ex) : Prop := ∀ (P : Nat → Prop) (s : Value) (w : World), PrW w → Held P w x.args s → Calls Tryz.prog 23 #[exV x s] w (PrintR (prE lit x) w)
set_option maxRecDepth 100000 in
set_option maxHeartbeats 6400000 in
theorem brack_calls (lit : Vl → List UInt8) (x : Ex) (P : Nat → Prop) (s : Value) (least : Int) (w : World) (hok : okE x) (hp : PrintOK lit x) (hsz : (prE lit x).length ≤ 1099511627776) (hsh : PrW w) (hh : Held P w x.args s) :
    Calls Tryz.prog 62 #[exV x s, .int .i64 least] w (PrintR (brT least (lnE x, prE lit x)) w) := by
  obtain ⟨A, c, rfl⟩ := held_len hh
  have HB : Asd (Below w.heap.size w (w.alloc (.cells #[.int .i64 x.kind, .int .i64 x.op, .int .i64 x.v.kind, .int .i64 x.v.int, .string ⟨x.v.text.toArray⟩, .string ⟨x.table.toArray⟩, .string ⟨x.name.toArray⟩, .int .i64 x.col, .int .i64 x.ty, .slice A x.args.length c] 58 (0, 0)))) := Asd.mk (below_alloc (Below.refl _ w) _)
  have HN := Asd.mk (blk_new w (.cells #[.int .i64 x.kind, .int .i64 x.op, .int .i64 x.v.kind, .int .i64 x.v.int, .string ⟨x.v.text.toArray⟩, .string ⟨x.table.toArray⟩, .string ⟨x.name.toArray⟩, .int .i64 x.col, .int .i64 x.ty, .slice A x.args.length c] 58 (0, 0)))
  have HL := Asd.mk (fun W => line_calls x A c W hok)
  have HP := Asd.mk (fun W (hb : Below w.heap.size w W) => hp P (.slice A x.args.length c) W (prw_below hsh hb) (held_below hh hb))
  clear hok hp hsh hh
  generalize prE lit x = t at HP hsz ⊢
  generalize lnE x = ln at HL ⊢
  unfold exV at HL HP ⊢
  go_enter Tryz.func62, Tryz.ntmps62
  go_upto_region 1 with fail
  generalize (w.alloc (.cells #[.int .i64 x.kind, .int .i64 x.op, .int .i64 x.v.kind, .int .i64 x.v.int, .string ⟨x.v.text.toArray⟩, .string ⟨x.table.toArray⟩, .string ⟨x.name.toArray⟩, .int .i64 x.col, .int .i64 x.ty, .slice A x.args.length c] 58 (0, 0))) = w1 at HB HN ⊢
  have e0 := (blk_cell HN.out 0).trans rfl
  have e1 := (blk_cell HN.out 1).trans rfl
  have e2 := (blk_cell HN.out 2).trans rfl
  have e3 := (blk_cell HN.out 3).trans rfl
  have e4 := (blk_cell HN.out 4).trans rfl
  have e5 := (blk_cell HN.out 5).trans rfl
  have e6 := (blk_cell HN.out 6).trans rfl
  have e7 := (blk_cell HN.out 7).trans rfl
  have e8 := (blk_cell HN.out 8).trans rfl
  have e9 := (blk_cell HN.out 9).trans rfl
  go_wp2_with fail
  refine (HL.out w1).mono ?_
  rintro e w2 ⟨rfl, hb2⟩
  have HB2 := Asd.mk (HB.out.trans (hb2.mono HB.out.size))
  have HN2 := Asd.mk (blk_below hb2 HN.out)
  clear hb2 e0 e1 e2 e3 e4 e5 e6 e7 e8 e9
  have e0 := (blk_cell HN2.out 0).trans rfl
  have e1 := (blk_cell HN2.out 1).trans rfl
  have e2 := (blk_cell HN2.out 2).trans rfl
  have e3 := (blk_cell HN2.out 3).trans rfl
  have e4 := (blk_cell HN2.out 4).trans rfl
  have e5 := (blk_cell HN2.out 5).trans rfl
  have e6 := (blk_cell HN2.out 6).trans rfl
  have e7 := (blk_cell HN2.out 7).trans rfl
  have e8 := (blk_cell HN2.out 8).trans rfl
  have e9 := (blk_cell HN2.out 9).trans rfl
  have plain : Asd (¬ (ln ≠ 0 ∧ ln < least)) → ∀ w3, Below w2.heap.size w2 w3 → PrintR (brT least (ln, t)) w (.returned (.string ⟨t.toArray⟩)) w3 := fun h w3 hb => ⟨by rw [brT, if_neg h.out], HB2.out.trans (hb.mono HB2.out.size)⟩
  have HPL := Asd.mk plain
  clear plain
  by_cases hz : ln = 0
  · subst hz
    have HC : Asd (¬ ((0 : Int) ≠ 0 ∧ (0 : Int) < least)) := Asd.mk (fun h => h.1 rfl)
    go_wp2_with fail
    refine (HP.out w2 HB2.out).mono ?_
    rintro e w3 ⟨rfl, hb3⟩
    have HB3 := Asd.mk hb3
    clear hb3
    go_wp2
    go_ret
    exact HPL.out HC w3 HB3.out
  · have hne : (ln != 0) = true := by rw [bne_iff_ne]; exact hz
    by_cases hlt : ln < least
    · have HT : Asd (brT least (ln, t) = [40] ++ t ++ [41]) := Asd.mk (by rw [brT, if_pos ⟨hz, hlt⟩])
      clear hz
      go_wp2_with fail
      refine (HP.out w2 HB2.out).mono ?_
      rintro e w3 ⟨rfl, hb3⟩
      have HB3 := Asd.mk (HB2.out.trans (hb3.mono HB2.out.size))
      clear hb3
      have hs2 : (⟨t.toArray⟩ : ByteArray).size ≤ 1099511627776 := by show t.toArray.size ≤ _; simpa using hsz
      go_wp2
      go_ret
      refine ⟨ret_eq ?_, HB3.out⟩
      rw [HT.out]
      show Value.string _ = _
      congr 1
    · have HC : Asd (¬ (ln ≠ 0 ∧ ln < least)) := Asd.mk (fun h => hlt h.2)
      clear hz
      go_wp2_with fail
      refine (HP.out w2 HB2.out).mono ?_
      rintro e w3 ⟨rfl, hb3⟩
      have HB3 := Asd.mk hb3
      clear hb3
      go_wp2
      go_ret
      exact HPL.out HC w3 HB3.out
end Go.Proofs.YtcefmhofidoloaaGreatDoor.Exp
