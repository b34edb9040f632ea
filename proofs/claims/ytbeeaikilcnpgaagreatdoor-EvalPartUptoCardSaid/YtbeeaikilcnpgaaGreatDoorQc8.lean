/- Texts put together: Evd, Read, Opx, EvC, Lw1, Lw2, Lw3, Wr, Hst, Cst, W16, W16b, Row16, Laid, Laid2. -/
import Derived.Test.YtbeeaikilcnpgaaGreatDoorQc7
import Derived.Deep.Strs
import Derived.SizedLaws
import Derived.Test.YtbeeaikilcnpgaaGreatDoorRows
import Derived.WalkKit
import Derived.ProofKit
import Derived.OpenShut
import Derived.ShutString
import Derived.ChangeOld
import Derived.Below
import Derived.Deep.DeepHandedRow
import Derived.Lib.LaidTab
import Derived.Lib.ItoaNum
import Derived.LaidSub
import Derived.Stop.LaidErr
import Derived.LaidHandle
import Derived.LaidLaws
/- eval.Eval: what is known, empty, a literal, an aggregate, a column; the operands. -/
set_option linter.unusedVariables false
set_option linter.unusedSimpArgs false
namespace Go.Proofs.YtbeeaikilcnpgaaGreatDoor.Exp
open Go.RowKit Go.Proofs.YtbeeaikilcnpgaaGreatDoor.Base Go.Proofs.YtbeeaikilcnpgaaGreatDoor.App Go.Proofs.YtbeeaikilcnpgaaGreatDoor.Byt

/-- A row and what is known lie in memory, as Eval is handed them. -/
structure EnvW (P : Nat → Prop) (W : World) (RA : Option Addr) (KA : Option Addr) (row : List Vl) (ks : List (Ex × Vl)) : Prop where
  vals : ValSl W RA row
  rlen : row.length ≤ 1048576
  rrv : ∀ v ∈ row, RV v
  kn : KnSl P W KA ks
  klen : ks.length ≤ 1048576
  krv : ∀ q ∈ ks, RV q.2
  few : ∀ q ∈ ks, fewE q.1
theorem EnvW.below {P : Nat → Prop} {W W' : World} {RA KA : Option Addr} {row : List Vl} {ks : List (Ex × Vl)} (h : EnvW P W RA KA row ks) (hb : Below W.heap.size W W') : EnvW P W' RA KA row ks := ⟨h.vals.below hb, h.rlen, h.rrv, h.kn.below hb, h.klen, h.krv, h.few⟩
/-- Eval of an expression is walked. -/
def EvalOK (row : List Vl) (ks : List (Ex × Vl)) (x : Ex) : Prop := ∀ (P Q : Nat → Prop) (A RA KA : Option Addr) (c rc kc : Nat) (w : World), EnvW P w RA KA row ks → Held Q w x.args (.slice A x.args.length c) →
  Calls Tryz.prog 11 #[exV x (.slice A x.args.length c), .slice RA row.length rc, .slice KA ks.length kc] w (Ev2 (evE row ks x) w)
/-- A result as Eval answers it, out of its cells. -/
theorem ev2_ok {r : Ev} {w w' : World} {v : Vl} (h : r = .ok v) (hb : Below w.heap.size w w') : Ev2 r w (.returned (.tuple #[vC v, .int .i64 0])) w' := ⟨hb, by rw [h]⟩
theorem ev2_err {r : Ev} {w w' : World} {n : Int} (h : r = .error n) (hb : Below w.heap.size w w') : Ev2 r w (.returned (.tuple #[vC vNull, .int .i64 n])) w' := ⟨hb, by rw [h]⟩

theorem one_empty {row : List Vl} {x : Ex} {r : EvL} (h : emptyE x = true) : oneE row x r = .error 5 := by unfold oneE; rw [h]; rfl
theorem one_lit {row : List Vl} {x : Ex} {r : EvL} (h : emptyE x = false) (hk : x.kind = 1) : oneE row x r = .ok x.v := by unfold oneE; rw [h, if_neg (by decide), if_pos hk]
theorem one_agg {row : List Vl} {x : Ex} {r : EvL} (h : emptyE x = false) (hk : x.kind = 6) : oneE row x r = .error 36 := by unfold oneE; rw [h, if_neg (by decide), if_neg (by omega), if_pos hk]
theorem one_col {row : List Vl} {x : Ex} {r : EvL} (h : emptyE x = false) (hk : x.kind = 2) : oneE row x r = colV row x.col := by unfold oneE; rw [h, if_neg (by decide), if_neg (by omega), if_neg (by omega), if_pos hk]
theorem one_rest {row : List Vl} {x : Ex} {r : EvL} (h : emptyE x = false) (h1 : ¬ x.kind = 1) (h6 : ¬ x.kind = 6) (h2 : ¬ x.kind = 2) : oneE row x r = resL x.kind x.op r := by unfold oneE; rw [h, if_neg (by decide), if_neg h1, if_neg h6, if_neg h2]
theorem shape_of {x : Ex} (h : emptyE x = false) (h1 : ¬ x.kind = 1) (h6 : ¬ x.kind = 6) (h2 : ¬ x.kind = 2) : (x.kind = 3 ∧ (x.op = 1 ∨ x.op = 2) ∧ x.args.length = 1) ∨ (x.kind = 7 ∧ (x.op = 0 ∨ x.op = 1) ∧ x.args.length = 1) ∨ (x.kind = 5 ∧ 1 ≤ x.op ∧ x.op ≤ 6 ∧ x.args.length = opn x.op.toNat) ∨ (x.kind = 4 ∧ 3 ≤ x.op ∧ x.op ≤ 16 ∧ x.args.length = 2) := by
  unfold emptyE at h
  rw [Bool.or_eq_false_iff] at h
  have hl := h.1
  unfold lnG at hl
  split at hl
  · rename_i hc; omega
  · split at hl
    · rename_i hc; exact .inr (.inr (.inl hc))
    · split at hl
      · rename_i hc; exact absurd hc.1 h6
      · split at hl
        · rename_i hc; exact .inl ⟨hc.1, .inr hc.2.1, hc.2.2⟩
        · split at hl
          · rename_i hc; exact .inl ⟨hc.1, .inl hc.2.1, hc.2.2⟩
          · split at hl
            · rename_i hc; exact .inr (.inl hc)
            · split at hl
              · rename_i hc; exact .inr (.inr (.inr hc))
              · simp at hl
theorem colV_at {row : List Vl} {c : Int} {j : Nat} (hc : c = (j : Int)) (h : j < row.length) : colV row c = .ok row[j] := by
  subst hc
  unfold colV
  rw [if_neg (by omega), Int.toNat_natCast, List.getElem?_eq_getElem h]
theorem evL_err {row : List Vl} {ks : List (Ex × Vl)} {k o : Int} {f : Bool} {a : Ex} {l : List Ex} {n : Int} (h : evE row ks a = .error n) : evL row ks k o f (a :: l) = .err n := by rw [evL, h]
theorem evL_dec {row : List Vl} {ks : List (Ex × Vl)} {k o : Int} {f : Bool} {a : Ex} {l : List Ex} {v : Vl} (h : evE row ks a = .ok v) (hd : (f && decP k o v) = true) : evL row ks k o f (a :: l) = .dec v := by rw [evL, h]; simp only; rw [if_pos hd]
theorem evL_go {row : List Vl} {ks : List (Ex × Vl)} {k o : Int} {f : Bool} {a : Ex} {l : List Ex} {v : Vl} (h : evE row ks a = .ok v) (hd : (f && decP k o v) = false) : evL row ks k o f (a :: l) = (evL row ks k o false l).cons v := by rw [evL, h]; simp only; rw [if_neg (by rw [hd]; decide)]
theorem infoV' : (Tryz.prog.info? 23).map (fun i => (i.zero, i.size, i.bytes)) = some (some (.agg #[.int .i64 0, .int .i64 0, .string ⟨#[]⟩]), 3, 32) := by kernel_rfl
theorem info_partsV : ∃ i, Tryz.prog.info? 23 = some i ∧ i.zero = some (.agg #[.int .i64 0, .int .i64 0, .string ⟨#[]⟩]) ∧ i.size = 3 ∧ i.bytes = 32 := by
  cases hi : Tryz.prog.info? 23 with
  | none => have := infoV'; rw [hi] at this; cases this
  | some i =>
    have := infoV'
    rw [hi] at this
    simp only [Option.map_some, Option.some.injEq, Prod.mk.injEq] at this
    exact ⟨i, rfl, this.1, this.2.1, this.2.2⟩
def resVal : Ev → Vl
  | .ok v => v
  | .error _ => vNull
def resNum : Ev → Int
  | .ok _ => 0
  | .error n => n
theorem ev2_form {r : Ev} {w w' : World} {e : Ending} (h : Ev2 r w e w') : e = .returned (.tuple #[vC (resVal r), .int .i64 (resNum r)]) ∧ Below w.heap.size w w' := by
  obtain ⟨hb, he⟩ := h
  cases r <;> exact ⟨he, hb⟩
theorem ev2_of {r r' : Ev} {w w' : World} {u : Vl} {n : Int} (h : r = r') (hu : resVal r' = u) (hn : resNum r' = n) (hb : Below w.heap.size w w') : Ev2 r w (.returned (.tuple #[vC u, .int .i64 n])) w' := by
  subst h; subst hu; subst hn
  refine ⟨hb, ?_⟩
  cases r <;> rfl
theorem finP_un {k o : Int} {a : Vl} (h : k = 3) : finP k o [a] = unP o a := by subst h; rfl
theorem finP_is {k o : Int} {a : Vl} (h : k = 7) : finP k o [a] = .ok (vTru ((a.kind == 0) == (o == 0))) := by subst h; rfl
theorem finP_bin {k o : Int} {a b : Vl} (h : k = 4) : finP k o [a, b] = binP o a b := by subst h; rfl
theorem finP_two {k o : Int} {a b : Vl} (h : k = 5) : finP k o [a, b] = .ok b := by subst h; rfl
theorem finP_call {k o : Int} {l : List Vl} (h : k = 5) (hl : l.length ≠ 2) : finP k o l = callV o l := by
  subst h
  match l, hl with
  | [], _ => rfl
  | [a], _ => rfl
  | [a, b], hl => exact absurd rfl hl
  | a :: b :: c :: r, _ => rfl
/-- What stands ahead is worth these. -/
def EvL.pre (vs : List Vl) (r : EvL) : EvL := vs.foldr EvL.cons r
theorem pre_err (vs : List Vl) (n : Int) : EvL.pre vs (.err n) = .err n := by
  induction vs with
  | nil => rfl
  | cons v r ih => show EvL.cons v (EvL.pre r (.err n)) = _; rw [ih]; rfl
theorem pre_snoc (vs : List Vl) (v : Vl) (r : EvL) : EvL.pre vs (r.cons v) = EvL.pre (vs ++ [v]) r := by
  unfold EvL.pre
  rw [List.foldr_append]
  rfl
theorem pre_all (vs : List Vl) : EvL.pre vs (.all []) = .all vs := by
  induction vs with
  | nil => rfl
  | cons v r ih => show EvL.cons v (EvL.pre r (.all [])) = _; rw [ih]; rfl
def valsC (vs : List Vl) : List Value := vs.flatMap fun v => [.int .i64 v.kind, .int .i64 v.int, .string ⟨v.text.toArray⟩]
theorem valsC_snoc (vs : List Vl) (v : Vl) : valsC (vs ++ [v]) = valsC vs ++ [.int .i64 v.kind, .int .i64 v.int, .string ⟨v.text.toArray⟩] := by simp [valsC]
theorem valsC_at : ∀ (vs : List Vl) (i : Nat) (hi : i < vs.length), (valsC vs)[i * 3]? = some (.int .i64 vs[i].kind) ∧ (valsC vs)[i * 3 + 1]? = some (.int .i64 vs[i].int) ∧ (valsC vs)[i * 3 + 2]? = some (.string ⟨vs[i].text.toArray⟩)
  | v :: r, 0, hi => ⟨rfl, rfl, rfl⟩
  | v :: r, i + 1, hi => by
    have ih := valsC_at r i (by simpa using hi)
    have e : valsC (v :: r) = [.int .i64 v.kind, .int .i64 v.int, .string ⟨v.text.toArray⟩] ++ valsC r := rfl
    refine ⟨?_, ?_, ?_⟩
    · rw [e, List.getElem?_append_right (by simp; omega)]
      rw [show (i + 1) * 3 - [Value.int .i64 v.kind, .int .i64 v.int, .string ⟨v.text.toArray⟩].length = i * 3 by simp; omega]
      exact ih.1
    · rw [e, List.getElem?_append_right (by simp; omega)]
      rw [show (i + 1) * 3 + 1 - [Value.int .i64 v.kind, .int .i64 v.int, .string ⟨v.text.toArray⟩].length = i * 3 + 1 by simp; omega]
      exact ih.2.1
    · rw [e, List.getElem?_append_right (by simp; omega)]
      rw [show (i + 1) * 3 + 2 - [Value.int .i64 v.kind, .int .i64 v.int, .string ⟨v.text.toArray⟩].length = i * 3 + 2 by simp; omega]
      exact ih.2.2
theorem own_vals {W : World} {B : Nat} {A : Option Addr} {m c : Nat} {vs : List Vl} (h : W.ownsRow B 23 3 (.slice A m c) m (valsC vs)) (hm : m = vs.length) : ValSl W A vs := by
  intro h0
  rcases h.2 with ⟨_, h00⟩ | ⟨g, cap, cur, he, hb, hh, _⟩
  · omega
  · have hc := h.cells (g := g)
    injection he with h1 h2 h3
    subst h1
    refine ⟨g, 0, rfl, fun i hi => ?_⟩
    have hg := hc (by simp [Value.ownBlock])
    obtain ⟨e0, e1, e2⟩ := valsC_at vs i hi
    have f0 := hg _ _ e0
    have f1 := hg _ _ e1
    have f2 := hg _ _ e2
    rw [addr_add] at f0 f1 f2
    refine ⟨f0, ?_, ?_⟩
    · rw [← f1]; congr 1
    · rw [← f2]; congr 1
theorem own_at {W : World} {B : Nat} {A : Option Addr} {m c : Nat} {vs : List Vl} (h : W.ownsRow B 23 3 (.slice A m c) m (valsC vs)) (hm : m = vs.length) (h0 : 0 < vs.length) : ∃ g, A = some ⟨g, 0, none⟩ ∧ B ≤ g ∧ ∀ i (h : i < vs.length), ValAt W g (i * 3) vs[i] := by
  obtain ⟨g, o, rfl, hv⟩ := own_vals h hm h0
  rcases h.2 with ⟨_, h00⟩ | ⟨g', cap, cur, he, hb, _⟩
  · omega
  · injection he with h1 h2 h3
    injection h1 with h1
    injection h1 with h1 h2 h3
    subst h1; subst h2
    exact ⟨g, rfl, hb, fun i hi => by have := hv i hi; rwa [Nat.zero_add] at this⟩
theorem own_keep {W W' : World} {B : Nat} {e : TypeId} {s : Nat} {v : Value} {n : Nat} {xs : List Value} (h : W.ownsRow B e s v n xs) (hb : Below W.heap.size W W') : W'.ownsRow B e s v n xs := by
  refine ⟨h.1, ?_⟩
  rcases h.2 with h0 | ⟨g, cap, cur, hv, hbg, hh, rest⟩
  · exact .inl h0
  · exact .inr ⟨g, cap, cur, hv, hbg, blk_below hb hh, rest⟩
theorem rowV : RowT Tryz.prog 27 23 3 32 := ⟨Tryz.underlying27, by
  cases hi : Tryz.prog.info? 23 with
  | none => have := infoV'; rw [hi] at this; cases this
  | some i =>
    have := infoV'
    rw [hi] at this
    simp only [Option.map_some, Option.some.injEq, Prod.mk.injEq] at this
    exact ⟨i, _, rfl, this.1, this.2.1, this.2.2, rfl⟩, by decide⟩
set_option maxRecDepth 100000 in
set_option maxHeartbeats 12800000 in
theorem eval_step (row : List Vl) (ks : List (Ex × Vl)) (x : Ex) (hx : rvX x) (hsub : ∀ i (h : i < x.args.length), EvalOK row ks x.args[i]) : EvalOK row ks x := by
  intro P Q A RA KA c rc kc w henv hheld
  have HEN := Asd.mk henv
  have HH := Asd.mk hheld
  have HSUB := Asd.mk hsub
  have HEV := Asd.mk (evE_eq row ks x)
  have HRX := Asd.mk hx
  have HRV := Asd.mk (evE_rv henv.rrv henv.krv x hx)
  clear henv hheld hsub hx
  have HX := Asd.mk (blk_alloc (blk_new w (xK x (.slice A x.args.length c))) zeroV)
  have HZ := Asd.mk (nb1 w (xK x (.slice A x.args.length c)) zeroV)
  have HB : Asd (Below w.heap.size w ((w.alloc (xK x (.slice A x.args.length c))).alloc zeroV)) := Asd.mk (below_alloc (below_alloc (Below.refl _ _) _) _)
  obtain ⟨i0, hi0, hz0, hz1, hz2⟩ := info_partsV
  have hmf := mk_func
  unfold exV
  go_enter Tryz.func11, Tryz.ntmps11
  go_upto_region 1 with fail
  generalize (w.alloc _).alloc _ = w1 at HX HZ HB ⊢
  have HEN1 := Asd.mk (HEN.out.below HB.out)
  have HH1 := Asd.mk (held_below HH.out HB.out)
  go_wp2_with fail
  refine (index_calls ks HEN.out.klen KA kc x A x.args.length c w.heap.size P Q _ HEN.out.few HEN1.out.kn HX.out HH1.out).mono ?_
  rintro e w2 ⟨hb2, hfound⟩
  have HB2 : Asd (Below w.heap.size w w2) := Asd.mk (HB.out.trans (hb2.mono HB.out.size))
  have HX2 := Asd.mk (blk_below hb2 HX.out)
  have HZ2 := Asd.mk (blk_below hb2 HZ.out)
  have HEN2 := Asd.mk (HEN1.out.below hb2)
  have HH2 := Asd.mk (held_below HH1.out hb2)
  have HSZ2 : Asd (w.heap.size + 2 ≤ w2.heap.size) := Asd.mk (blk_lt HZ2.out)
  clear hb2 HX HZ HEN1 HH1 HB
  obtain ⟨⟨z0, z1, z2⟩, y0, y1, y2⟩ := zero_cells HZ2.out
  rcases hfound with ⟨i, hi, rfl, hk⟩ | ⟨rfl, hk⟩
  · rw [hk] at HEV
    obtain ⟨g, o, rfl, hv⟩ := HEN2.out.kn (by omega)
    obtain ⟨_, _, _, hr, hh, k0, k1, k2⟩ := hv i hi
    clear hr hh
    generalize ks[i] = q at k0 k1 k2 HEV
    have k0 : w2.cell? ⟨g, o + i * 13 + 10, none⟩ = some (.int .i64 q.2.kind) := k0
    have k1 : w2.cell? ⟨g, o + i * 13 + 11, none⟩ = some (.int .i64 q.2.int) := k1
    have k2 : w2.cell? ⟨g, o + i * 13 + 12, none⟩ = some (.string ⟨q.2.text.toArray⟩) := k2
    have hgl := World.block_lt_of_cell? w2 _ k0
    clear hv hk
    have hi0 : (0 : Int) ≤ (i : Int) := by omega
    have hn := HEN.out.klen
    clear HEN HEN2
    generalize ks.length = n at hi hn ⊢
    go_wp2
    refine val_ret2 rfl (w.heap.size + 1) _ _ _ rfl (put3_blk HZ2.out _ _ _) rfl ?_
    exact ev2_ok HEV.out (below_put3 HB2.out (by omega) _ _ _)
  · rw [hk] at HEV
    clear hk
    obtain ⟨e0, e1, e2, e3, e4, e5, e6, e7, e8, e9⟩ := ex_cells (x := x) HX2.out
    go_wp2_with fail
    refine (empty_calls x (rvX_v HRX.out) A c _).mono ?_
    rintro e w3 ⟨rfl, hb3⟩
    have HB3 : Asd (Below w.heap.size w w3) := Asd.mk (HB2.out.trans (hb3.mono HB2.out.size))
    have HX3 := Asd.mk (blk_below hb3 HX2.out)
    have HZ3 := Asd.mk (blk_below hb3 HZ2.out)
    have HSZ3 : Asd (w.heap.size + 2 ≤ w3.heap.size) := Asd.mk (Nat.le_trans HSZ2.out hb3.size)
    clear e0 e1 e2 e3 e4 e5 e6 e7 e8 e9 z0 z1 z2 y0 y1 y2 hb3 HX2 HZ2 HSZ2 HB2 HEN2 HH2
    obtain ⟨e0, e1, e2, e3, e4, e5, e6, e7, e8, e9⟩ := ex_cells (x := x) HX3.out
    obtain ⟨⟨z0, z1, z2⟩, y0, y1, y2⟩ := zero_cells HZ3.out
    cases hem : emptyE x with
    | true =>
      have HR := Asd.mk (HEV.out.trans (one_empty hem))
      clear hem
      go_wp2
      refine val_ret2 rfl (w.heap.size + 1) _ _ _ rfl (put3_blk HZ3.out _ _ _) rfl ?_
      exact ev2_err HR.out (below_put3 HB3.out (by omega) _ _ _)
    | false =>
      have HEM := Asd.mk hem
      clear hem
      by_cases hk1 : x.kind = 1
      · have HR := Asd.mk (HEV.out.trans (one_lit HEM.out hk1))
        have hk1' : (x.kind == 1) = true := by rw [hk1]; rfl
        clear hk1
        go_wp2
        refine val_ret2 rfl (w.heap.size + 1) _ _ _ rfl (put3_blk HZ3.out _ _ _) rfl ?_
        exact ev2_ok HR.out (below_put3 HB3.out (by omega) _ _ _)
      have hk1' : (x.kind == 1) = false := by simpa using hk1
      by_cases hk6 : x.kind = 6
      · have HR := Asd.mk (HEV.out.trans (one_agg HEM.out hk6))
        have hk6' : (x.kind == 6) = true := by rw [hk6]; rfl
        clear hk6 hk1
        go_wp2
        refine val_ret2 rfl (w.heap.size + 1) _ _ _ rfl (put3_blk HZ3.out _ _ _) rfl ?_
        exact ev2_err HR.out (below_put3 HB3.out (by omega) _ _ _)
      have hk6' : (x.kind == 6) = false := by simpa using hk6
      by_cases hk2 : x.kind = 2
      · have HR := Asd.mk (HEV.out.trans (one_col HEM.out hk2))
        have hk2' : (x.kind == 2) = true := by rw [hk2]; rfl
        clear hk1 hk6 hk2
        have hrl := HEN.out.rlen
        by_cases hc0 : x.col < 0
        · have HR2 : Asd (evE row ks x = .error 2) := Asd.mk (by rw [HR.out]; unfold colV; rw [if_pos hc0])
          go_wp2
          refine val_ret2 rfl (w.heap.size + 1) _ _ _ rfl (put3_blk HZ3.out _ _ _) rfl ?_
          exact ev2_err HR2.out (below_put3 HB3.out (by omega) _ _ _)
        · by_cases hcr : (row.length : Int) ≤ x.col
          · have HR2 : Asd (evE row ks x = .error 2) := Asd.mk (by rw [HR.out]; unfold colV; rw [if_neg hc0, List.getElem?_eq_none (by omega)])
            go_wp2
            refine val_ret2 rfl (w.heap.size + 1) _ _ _ rfl (put3_blk HZ3.out _ _ _) rfl ?_
            exact ev2_err HR2.out (below_put3 HB3.out (by omega) _ _ _)
          · obtain ⟨j, hj⟩ := Int.eq_ofNat_of_zero_le (show 0 ≤ x.col by omega)
            have hjl : j < row.length := by omega
            obtain ⟨g, o, rfl, hv⟩ := (HEN.out.below HB3.out).vals (by omega)
            obtain ⟨r0, r1, r2⟩ := hv j hjl
            have HR2 : Asd (evE row ks x = .ok row[j]) := Asd.mk (by rw [HR.out]; exact colV_at hj hjl)
            generalize row[j] = u at r0 r1 r2 HR2
            rw [hj] at e7
            have hj0 : (0 : Int) ≤ (j : Int) := by omega
            clear hv hc0 hcr hj
            go_wp2
            refine val_ret2 rfl (w.heap.size + 1) _ _ _ rfl (put3_blk HZ3.out _ _ _) rfl ?_
            exact ev2_ok HR2.out (below_put3 HB3.out (by omega) _ _ _)
      have hk2' : (x.kind == 2) = false := by simpa using hk2
      have HR := Asd.mk (HEV.out.trans (one_rest HEM.out hk1 hk6 hk2))
      have HSH := Asd.mk (shape_of HEM.out hk1 hk6 hk2)
      clear hk1 hk6 hk2
      have hn3 : x.args.length ≤ 3 := by
        rcases HSH.out with ⟨_, _, h⟩ | ⟨_, _, h⟩ | ⟨_, _, _, h⟩ | ⟨_, _, _, h⟩
        · omega
        · omega
        · rw [h]; unfold opn; split
          · omega
          · split <;> omega
        · omega
      have HNX : Asd (x.args.length = x.args.length) := Asd.mk rfl
      generalize hm : x.args.length = m at e9 hn3 HNX ⊢
      have HM := Asd.mk hm
      clear hm HNX z0 z1 z2 y0 y1 y2
      have HB0 := HB3
      go_wp2
      go_loopw [57, 9] (fun i l wr => ∃ (k : Nat) (vs : List Vl) (A' : Option Addr) (c' : Nat), k ≤ m ∧ i = .int .i64 (k : Int) ∧ l = .slice A' k c' ∧ Asd (vs.length = k) ∧ Asd (∀ v ∈ vs, RV v) ∧ Asd (wr.ownsRow w3.heap.size 23 3 (.slice A' k c') k (valsC vs)) ∧ Asd (Below w.heap.size w wr) ∧ Asd (Below w3.heap.size w3 wr) ∧ Asd (evL row ks x.kind x.op true x.args = EvL.pre vs (evL row ks x.kind x.op (k == 0) (x.args.drop k)))) (fun i _ _ => m - (intOf i).toNat)
      case atStart => exact ⟨0, [], none, 0, by omega, rfl, rfl, ⟨rfl⟩, ⟨fun v hv => by cases hv⟩, ⟨World.ownsRow_nil _ _ _ _⟩, ⟨HB0.out⟩, ⟨Below.refl _ _⟩, ⟨rfl⟩⟩
      case round =>
        obtain ⟨k, vs, A', c', hk, rfl, rfl, HVL, HVR, HOW, HBR, HBR3, HEL⟩ := hrel
        clear e0 e1 e2 e3 e4 e5 e6 e7 e8 e9
        have HXR := Asd.mk (blk_below HBR3.out HX3.out)
        have HZR := Asd.mk (blk_below HBR3.out HZ3.out)
        have HSZR : Asd (w.heap.size + 2 ≤ wr.heap.size) := Asd.mk (Nat.le_trans HSZ3.out HBR3.out.size)
        by_cases hlt : k < m
        · have hkx : k < x.args.length := by rw [HM.out]; exact hlt
          obtain ⟨g, o, A1, n1, c1, he1, hr1, hh1⟩ := held_at (held_below HH.out HBR.out) k hkx
          subst he1
          obtain ⟨A1', c1', he2⟩ := held_len hh1
          have hn1 : n1 = x.args[k].args.length := by
            injection he2
          subst hn1
          clear he2
          have HSK := Asd.mk (HSUB.out k hkx)
          have HRK := Asd.mk (evE_rv HEN.out.rrv HEN.out.krv x.args[k] (rvXL_mem (rvX_args HRX.out) _ (List.getElem_mem hkx)))
          have HD : Asd (x.args.drop k = x.args[k] :: x.args.drop (k + 1)) := Asd.mk (List.drop_eq_getElem_cons hkx)
          rw [HD.out] at HEL
          generalize x.args[k] = a at hr1 hh1 HSK HRK HEL
          have HHA := Asd.mk hh1
          clear HD hkx
          have hgl := World.block_lt_of_cell? wr _ (hr1 0 (by omega))
          have hk0 : (0 : Int) ≤ (k : Int) := by omega
          have x0 : wr.cell? ⟨g, o + k * 10, none⟩ = some (.int .i64 a.kind) := hr1 0 (by omega)
          have x1 : wr.cell? ⟨g, o + k * 10 + 1, none⟩ = some (.int .i64 a.op) := hr1 1 (by omega)
          have x2 : wr.cell? ⟨g, o + k * 10 + 2, none⟩ = some (.int .i64 a.v.kind) := hr1 2 (by omega)
          have x3 : wr.cell? ⟨g, o + k * 10 + 3, none⟩ = some (.int .i64 a.v.int) := hr1 3 (by omega)
          have x4 : wr.cell? ⟨g, o + k * 10 + 4, none⟩ = some (.string ⟨a.v.text.toArray⟩) := hr1 4 (by omega)
          have x5 : wr.cell? ⟨g, o + k * 10 + 5, none⟩ = some (.string ⟨a.table.toArray⟩) := hr1 5 (by omega)
          have x6 : wr.cell? ⟨g, o + k * 10 + 6, none⟩ = some (.string ⟨a.name.toArray⟩) := hr1 6 (by omega)
          have x7 : wr.cell? ⟨g, o + k * 10 + 7, none⟩ = some (.int .i64 a.col) := hr1 7 (by omega)
          have x8 : wr.cell? ⟨g, o + k * 10 + 8, none⟩ = some (.int .i64 a.ty) := hr1 8 (by omega)
          have x9 : wr.cell? ⟨g, o + k * 10 + 9, none⟩ = some (.slice A1 a.args.length c1) := hr1 9 (by omega)
          clear hr1 hh1
          have HA1 := Asd.mk (blk_new wr (xK a (.slice A1 a.args.length c1)))
          have HB1 : Asd (Below wr.heap.size wr (wr.alloc (xK a (.slice A1 a.args.length c1)))) := Asd.mk (below_alloc (Below.refl _ wr) _)
          go_upto_region 19 with fail
          generalize wr.alloc _ = w4 at HA1 HB1 ⊢
          clear x0 x1 x2 x3 x4 x5 x6 x7 x8 x9
          have HB4 : Asd (Below w.heap.size w w4) := Asd.mk (HBR.out.trans (HB1.out.mono HBR.out.size))
          obtain ⟨e0, e1, e2, e3, e4, e5, e6, e7, e8, e9⟩ := ex_cells (x := a) HA1.out
          go_wp2_with fail
          refine (HSK.out P Q A1 RA KA c1 rc kc w4 (HEN.out.below HB4.out) (held_below HHA.out HB1.out)).mono ?_
          rintro e w5 ⟨hb5, rfl⟩
          have HBR5 : Asd (Below wr.heap.size wr w5) := Asd.mk (HB1.out.trans (hb5.mono HB1.out.size))
          have HB5 : Asd (Below w.heap.size w w5) := Asd.mk (HBR.out.trans (HBR5.out.mono HBR.out.size))
          clear e0 e1 e2 e3 e4 e5 e6 e7 e8 e9 hb5 HA1 HB1 HB4 HHA HSK
          have HZ5 := Asd.mk (blk_below HBR5.out HZR.out)
          have HX5 := Asd.mk (blk_below HBR5.out HXR.out)
          cases hr : evE row ks a with
          | error f =>
            have hfn : (f != 0) = true := by rw [bne_iff_ne]; exact evE_nz row ks a f hr
            have HF : Asd (evE row ks x = .error f) := Asd.mk (by rw [HR.out, HEL.out, evL_err hr, pre_err]; rfl)
            clear hr
            simp only [vC, vNull]
            have HZ6 := Asd.mk (blk_alloc HZ5.out zeroV)
            have HB6 : Asd (Below w.heap.size w (w5.alloc zeroV)) := Asd.mk (below_alloc HB5.out _)
            go_upto_region 20 with fail
            generalize w5.alloc _ = w6 at HZ6 HB6 ⊢
            obtain ⟨⟨z0, z1, z2⟩, y0, y1, y2⟩ := zero_cells HZ6.out
            go_wp2
            refine val_ret2 rfl (w.heap.size + 1) _ _ _ rfl (put3_blk HZ6.out _ _ _) rfl ?_
            exact ev2_err HF.out (below_put3 HB6.out (by omega) _ _ _)
          | ok v =>
            have HEQ := Asd.mk hr
            have HRV5 := Asd.mk (HRK.out v hr)
            clear hr
            simp only [vC]
            have HZ6 := Asd.mk (blk_alloc HZ5.out (vK v))
            have HX6 := Asd.mk (blk_alloc HX5.out (vK v))
            have HV6 := Asd.mk (blk_new w5 (vK v))
            have HB56 : Asd (Below w5.heap.size w5 (w5.alloc (vK v))) := Asd.mk (below_alloc (Below.refl _ _) _)
            go_upto_region 20 with fail
            generalize w5.alloc _ = w6 at HZ6 HX6 HV6 HB56 ⊢
            generalize w5.heap.size = b12 at HV6 ⊢
            have HBR6 : Asd (Below wr.heap.size wr w6) := Asd.mk (HBR5.out.trans (HB56.out.mono HBR5.out.size))
            obtain ⟨v0, v1, v2⟩ := val_cells HV6.out
            obtain ⟨e0, e1, e2, e3, e4, e5, e6, e7, e8, e9⟩ := ex_cells (x := x) HX6.out
            obtain ⟨⟨z0, z1, z2⟩, y0, y1, y2⟩ := zero_cells HZ6.out
            cases hkz : (k == 0) with
            | true =>
              have hkI : ((k : Int) == 0) = true := by rw [beq_iff_eq] at hkz ⊢; omega
              have HVN : Asd (vs = []) := Asd.mk (List.length_eq_zero_iff.mp (by rw [HVL.out]; exact beq_iff_eq.mp hkz))
              rw [hkz] at HEL
              go_wp2_with fail
              refine (decided_calls x _ v _).mono ?_
              rintro e w7 ⟨rfl, hb7⟩
              have HB7 : Asd (Below wr.heap.size wr w7) := Asd.mk (HBR6.out.trans (hb7.mono HBR6.out.size))
              have HZ7 := Asd.mk (blk_below hb7 HZ6.out)
              have HV7 := Asd.mk (blk_below hb7 HV6.out)
              clear e0 e1 e2 e3 e4 e5 e6 e7 e8 e9 z0 z1 z2 y0 y1 y2 v0 v1 v2 hb7
              obtain ⟨v0, v1, v2⟩ := val_cells HV7.out
              obtain ⟨⟨z0, z1, z2⟩, y0, y1, y2⟩ := zero_cells HZ7.out
              have HBT : Asd (Below w.heap.size w w7) := Asd.mk (HBR.out.trans (HB7.out.mono HBR.out.size))
              cases hd : decP x.kind x.op v with
              | true =>
                have HF : Asd (evE row ks x = .ok v) := Asd.mk (by rw [HR.out, HEL.out, evL_dec HEQ.out (by rw [hd]; rfl), HVN.out]; rfl)
                clear hd
                go_wp2
                refine val_ret2 rfl (w.heap.size + 1) _ _ _ rfl (put3_blk HZ7.out _ _ _) rfl ?_
                exact ev2_ok HF.out (below_put3 HBT.out (by omega) _ _ _)
              | false =>
                have HEL8 : Asd (evL row ks x.kind x.op true x.args = EvL.pre (vs ++ [v]) (evL row ks x.kind x.op (k + 1 == 0) (x.args.drop (k + 1)))) := Asd.mk (by rw [HEL.out, evL_go HEQ.out (by rw [hd]; rfl), pre_snoc]; rfl)
                clear hd
                have HBW := HB7
                have HB3T : Asd (Below w3.heap.size w3 w7) := Asd.mk (HBR3.out.trans (HB7.out.mono HBR3.out.size))
                have HSW : Asd (w3.heap.size ≤ w7.heap.size) := Asd.mk HB3T.out.size
                have HOWN : Asd ((w7.alloc (.cells #[.int .i64 v.kind, .int .i64 v.int, .string ⟨v.text.toArray⟩] 23 (0, 0))).ownsRow w3.heap.size 23 3 (.slice A' k c') k (valsC vs)) := Asd.mk (own_keep HOW.out (below_alloc HBW.out _))
                go_wp2_with (at_builtin; refine wpList_append_own _ rfl (.tmp 81) (.tmp 83) 27 rfl w3.heap.size 23 i0 (.agg #[.int .i64 0, .int .i64 0, .string ⟨#[]⟩]) 3 32 Tryz.underlying27 hi0 hz0 hz1 hz2 rfl (by decide) _ _ _ rfl HOWN.out ⟨w7.heap.size, 0, none⟩ 1 1 [.int .i64 v.kind, .int .i64 v.int, .string ⟨v.text.toArray⟩] rfl rfl ?c0 ?c00 ?c1 ?c2 ?c3 ?_)
                case c0 => exact World.news_of_block (blk_new w7 (.cells #[.int .i64 v.kind, .int .i64 v.int, .string ⟨v.text.toArray⟩] 23 (0, 0)))
                case c00 =>
                  intro u hu
                  simp only [List.mem_cons, List.not_mem_nil, or_false] at hu
                  rcases hu with rfl | rfl | rfl <;> rfl
                case c1 => unfold maxLen; omega
                case c2 => omega
                case c3 => have := HSW.out; simp; omega
                · intro v' w8 hown' hgr _
                  have HO8 : Asd (w8.ownsRow w3.heap.size 23 3 v' (k + 1) (valsC (vs ++ [v]))) := Asd.mk (by rw [valsC_snoc]; exact hown')
                  have HB8 : Asd (Below w.heap.size w w8) := Asd.mk (below_own (below_alloc HBT.out _) HOWN.out hgr (by have := HSZ3.out; omega))
                  have HB83 : Asd (Below w3.heap.size w3 w8) := Asd.mk (below_own (below_alloc HB3T.out _) HOWN.out hgr (Nat.le_refl _))
                  obtain ⟨A8, c8, rfl⟩ := own_form HO8.out
                  clear hown' hgr
                  go_wp2
                  go_roundw
                  case rel => exact ⟨k + 1, vs ++ [v], A8, c8, by omega, by go_num, rfl, ⟨by rw [List.length_append, HVL.out]; rfl⟩, ⟨fun u hu => by
                    rcases List.mem_append.mp hu with hu | hu
                    · exact HVR.out u hu
                    · rw [List.mem_singleton] at hu; rw [hu]; exact HRV5.out⟩, HO8, HB8, HB83, HEL8⟩
                  case measure => simp [intOf]; omega
            | false =>
              have hkI : ((k : Int) == 0) = false := by rw [beq_eq_false_iff_ne] at hkz ⊢; omega
              rw [hkz] at HEL
              have HEL8 : Asd (evL row ks x.kind x.op true x.args = EvL.pre (vs ++ [v]) (evL row ks x.kind x.op (k + 1 == 0) (x.args.drop (k + 1)))) := Asd.mk (by rw [HEL.out, evL_go HEQ.out rfl, pre_snoc]; rfl)
              have HBT : Asd (Below w.heap.size w w6) := Asd.mk (HBR.out.trans (HBR6.out.mono HBR.out.size))
              have HBW := HBR6
              have HB3T : Asd (Below w3.heap.size w3 w6) := Asd.mk (HBR3.out.trans (HBR6.out.mono HBR3.out.size))
              have HSW : Asd (w3.heap.size ≤ w6.heap.size) := Asd.mk HB3T.out.size
              have HOWN : Asd ((w6.alloc (.cells #[.int .i64 v.kind, .int .i64 v.int, .string ⟨v.text.toArray⟩] 23 (0, 0))).ownsRow w3.heap.size 23 3 (.slice A' k c') k (valsC vs)) := Asd.mk (own_keep HOW.out (below_alloc HBW.out _))
              go_wp2_with (at_builtin; refine wpList_append_own _ rfl (.tmp 81) (.tmp 83) 27 rfl w3.heap.size 23 i0 (.agg #[.int .i64 0, .int .i64 0, .string ⟨#[]⟩]) 3 32 Tryz.underlying27 hi0 hz0 hz1 hz2 rfl (by decide) _ _ _ rfl HOWN.out ⟨w6.heap.size, 0, none⟩ 1 1 [.int .i64 v.kind, .int .i64 v.int, .string ⟨v.text.toArray⟩] rfl rfl ?c0 ?c00 ?c1 ?c2 ?c3 ?_)
              case c0 => exact World.news_of_block (blk_new w6 (.cells #[.int .i64 v.kind, .int .i64 v.int, .string ⟨v.text.toArray⟩] 23 (0, 0)))
              case c00 =>
                intro u hu
                simp only [List.mem_cons, List.not_mem_nil, or_false] at hu
                rcases hu with rfl | rfl | rfl <;> rfl
              case c1 => unfold maxLen; omega
              case c2 => omega
              case c3 => have := HSW.out; simp; omega
              · intro v' w8 hown' hgr _
                have HO8 : Asd (w8.ownsRow w3.heap.size 23 3 v' (k + 1) (valsC (vs ++ [v]))) := Asd.mk (by rw [valsC_snoc]; exact hown')
                have HB8 : Asd (Below w.heap.size w w8) := Asd.mk (below_own (below_alloc HBT.out _) HOWN.out hgr (by have := HSZ3.out; omega))
                have HB83 : Asd (Below w3.heap.size w3 w8) := Asd.mk (below_own (below_alloc HB3T.out _) HOWN.out hgr (Nat.le_refl _))
                obtain ⟨A8, c8, rfl⟩ := own_form HO8.out
                clear hown' hgr
                go_wp2
                go_roundw
                case rel => exact ⟨k + 1, vs ++ [v], A8, c8, by omega, by go_num, rfl, ⟨by rw [List.length_append, HVL.out]; rfl⟩, ⟨fun u hu => by
                  rcases List.mem_append.mp hu with hu | hu
                  · exact HVR.out u hu
                  · rw [List.mem_singleton] at hu; rw [hu]; exact HRV5.out⟩, HO8, HB8, HB83, HEL8⟩
                case measure => simp [intOf]; omega
        · obtain rfl : k = m := by omega
          have HDN : Asd (x.args.drop k = []) := Asd.mk (List.drop_of_length_le (Nat.le_of_eq HM.out))
          have HF : Asd (evE row ks x = finP x.kind x.op vs) := Asd.mk (by rw [HR.out, HEL.out, HDN.out, evL, pre_all]; rfl)
          have HVS := Asd.mk (own_vals HOW.out HVL.out.symm)
          obtain ⟨e0, e1, e2, e3, e4, e5, e6, e7, e8, e9⟩ := ex_cells (x := x) HXR.out
          clear HEL HDN HSUB e2 e3 e4 e5 e6 e7 e8 e9 HVS
          rcases HSH.out with ⟨hk, ho, hl⟩ | ⟨hk, ho, hl⟩ | ⟨hk, ho1, ho6, hl⟩ | ⟨hk, ho3, ho16, hl⟩
          · -- a sign
            have hl1 : vs.length = 1 := by rw [HVL.out, ← HM.out]; exact hl
            obtain ⟨v, rfl⟩ := List.length_eq_one_iff.mp hl1
            obtain ⟨g, rfl, hgB, hv⟩ := own_at HOW.out HVL.out.symm (by simp)
            have hgz : Asd (¬ g = w.heap.size + 1) := Asd.mk (by have := HSZ3.out; omega)
            have hpz : Asd (¬ w.heap.size = w.heap.size + 1) := Asd.mk (by omega)
            obtain ⟨v0, v1, v2⟩ := hv 0 (by simp)
            simp only [List.getElem_cons_zero, Nat.zero_mul, Nat.zero_add] at v0 v1 v2
            have HV0 := Asd.mk v0
            have HV1 := Asd.mk v1
            have HV2 := Asd.mk v2
            have HE1 := Asd.mk e1
            have hkk : k = 1 := by rw [← HVL.out]; rfl
            have HF : Asd (evE row ks x = unP x.op v) := Asd.mk (HF.out.trans (finP_un hk))
            have HCU := Asd.mk (fun W => (unary_calls x.op ho v (HVR.out v (by simp)) W).mono fun e w' h => ev2_form h)
            generalize hu : resVal (unP x.op v) = u at HCU
            generalize hn : resNum (unP x.op v) = n at HCU
            have HU := Asd.mk hu
            have HN := Asd.mk hn
            clear hu hn
            have hk3 : (x.kind == 3) = true := by rw [hk]; rfl
            have hk4 : (x.kind == 4) = false := by rw [hk]; rfl
            have hk7 : (x.kind == 7) = false := by rw [hk]; rfl
            clear hk hl hl1 ho hv hlt
            subst hkk
            have HS : Asd (∀ w', Fr (fun k => k = w.heap.size + 1) wr w' → w'.cell? ⟨w.heap.size, 1, none⟩ = some (.int .i64 x.op) ∧ w'.cell? ⟨g, 0, none⟩ = some (.int .i64 v.kind) ∧ w'.cell? ⟨g, 1, none⟩ = some (.int .i64 v.int) ∧ w'.cell? ⟨g, 2, none⟩ = some (.string ⟨v.text.toArray⟩) ∧ Fr (fun k => k = w.heap.size + 1) wr w') := Asd.mk fun w' hf => ⟨cell_frS hf hpz.out HE1.out, cell_frS hf hgz.out HV0.out, cell_frS hf hgz.out HV1.out, cell_frS hf hgz.out HV2.out, hf⟩
            go_upto_region 28 with fail
            clear e0 e1 v0 v1 v2
            go_region_held3 (fun w' => w'.cell? ⟨w.heap.size, 1, none⟩ = some (.int .i64 x.op) ∧ w'.cell? ⟨g, 0, none⟩ = some (.int .i64 v.kind) ∧ w'.cell? ⟨g, 1, none⟩ = some (.int .i64 v.int) ∧ w'.cell? ⟨g, 2, none⟩ = some (.string ⟨v.text.toArray⟩) ∧ Fr (fun k => k = w.heap.size + 1) wr w')
              (first
                | exact HS.out _ (Fr.refl _ _)
                | exact HS.out _ (Fr.refl _ _).drew
                | exact HS.out _ HF5.out
                | exact HS.out _ (Fr.setCell (Fr.setCell (Fr.setCell HF5.out (p := ⟨w.heap.size + 1, 0, none⟩) rfl _) (p := ⟨w.heap.size + 1, 1, none⟩) rfl _) (p := ⟨w.heap.size + 1, 2, none⟩) rfl _)
                | (go_split_ands; exact HS.out _ (by assumption))
                | fail)
              (first
                | (go_at_call 21
                   refine (HCU.out _).mono ?_
                   rintro e w5 ⟨rfl, hb5⟩
                   have HF5 : Asd (Fr (fun k => k = w.heap.size + 1) wr w5) := Asd.mk ((Fr.refl _ wr).drew.trans (Fr.of_below hb5) (fun _ h _ => h) (fun _ h _ => h))
                   have HZ5 := Asd.mk (blk_below hb5 (drewb HZR.out))
                   have HB5 : Asd (Below w.heap.size w w5) := Asd.mk (HBR.out.drew.trans (hb5.mono HBR.out.drew.size))
                   obtain ⟨⟨z0, z1, z2⟩, y0, y1, y2⟩ := zero_cells HZ5.out
                   unfold vC)
                | fail)
            go_wp2
            refine val_ret2 rfl (w.heap.size + 1) _ _ _ rfl (put3_blk HZ5.out _ _ _) rfl ?_
            exact ev2_of HF.out HU.out HN.out (below_put3 HB5.out (by omega) _ _ _)
          · -- a look for NULL
            have hl1 : vs.length = 1 := by rw [HVL.out, ← HM.out]; exact hl
            obtain ⟨v, rfl⟩ := List.length_eq_one_iff.mp hl1
            obtain ⟨g, rfl, hgB, hv⟩ := own_at HOW.out HVL.out.symm (by simp)
            have hgz : Asd (¬ g = w.heap.size + 1) := Asd.mk (by have := HSZ3.out; omega)
            have hpz : Asd (¬ w.heap.size = w.heap.size + 1) := Asd.mk (by omega)
            obtain ⟨v0, v1, v2⟩ := hv 0 (by simp)
            simp only [List.getElem_cons_zero, Nat.zero_mul, Nat.zero_add] at v0 v1 v2
            have HV0 := Asd.mk v0
            have HV1 := Asd.mk v1
            have HV2 := Asd.mk v2
            have HE1 := Asd.mk e1
            have hkk : k = 1 := by rw [← HVL.out]; rfl
            have HF : Asd (evE row ks x = .ok (vTru ((v.kind == 0) == (x.op == 0)))) := Asd.mk (HF.out.trans (finP_is hk))
            have hk3 : (x.kind == 3) = false := by rw [hk]; rfl
            have hk4 : (x.kind == 4) = false := by rw [hk]; rfl
            have hk7 : (x.kind == 7) = true := by rw [hk]; rfl
            clear hk hl hl1 ho hv hlt
            subst hkk
            have HS : Asd (∀ w', Fr (fun k => k = w.heap.size + 1) wr w' → w'.cell? ⟨w.heap.size, 1, none⟩ = some (.int .i64 x.op) ∧ w'.cell? ⟨g, 0, none⟩ = some (.int .i64 v.kind) ∧ w'.cell? ⟨g, 1, none⟩ = some (.int .i64 v.int) ∧ w'.cell? ⟨g, 2, none⟩ = some (.string ⟨v.text.toArray⟩) ∧ Fr (fun k => k = w.heap.size + 1) wr w') := Asd.mk fun w' hf => ⟨cell_frS hf hpz.out HE1.out, cell_frS hf hgz.out HV0.out, cell_frS hf hgz.out HV1.out, cell_frS hf hgz.out HV2.out, hf⟩
            go_upto_region 32 with fail
            clear e0 e1 v0 v1 v2
            go_region_held3 (fun w' => w'.cell? ⟨w.heap.size, 1, none⟩ = some (.int .i64 x.op) ∧ w'.cell? ⟨g, 0, none⟩ = some (.int .i64 v.kind) ∧ w'.cell? ⟨g, 1, none⟩ = some (.int .i64 v.int) ∧ w'.cell? ⟨g, 2, none⟩ = some (.string ⟨v.text.toArray⟩) ∧ Fr (fun k => k = w.heap.size + 1) wr w')
              (first
                | exact HS.out _ (Fr.refl _ _)
                | exact HS.out _ (Fr.refl _ _).drew
                | exact HS.out _ HF5.out
                | exact HS.out _ (Fr.setCell (Fr.setCell (Fr.setCell HF5.out (p := ⟨w.heap.size + 1, 0, none⟩) rfl _) (p := ⟨w.heap.size + 1, 1, none⟩) rfl _) (p := ⟨w.heap.size + 1, 2, none⟩) rfl _)
                | (go_split_ands; exact HS.out _ (by assumption))
                | fail)
              (first
                | (go_at_call 23
                   refine (etruth_calls ((v.kind == 0) == (x.op == 0)) _).mono ?_
                   rintro e w5 ⟨rfl, hb5⟩
                   have HF5 : Asd (Fr (fun k => k = w.heap.size + 1) wr w5) := Asd.mk ((Fr.refl _ wr).drew.trans (Fr.of_below hb5) (fun _ h _ => h) (fun _ h _ => h))
                   have HZ5 := Asd.mk (blk_below hb5 (drewb HZR.out))
                   have HB5 : Asd (Below w.heap.size w w5) := Asd.mk (HBR.out.drew.trans (hb5.mono HBR.out.drew.size))
                   obtain ⟨⟨z0, z1, z2⟩, y0, y1, y2⟩ := zero_cells HZ5.out
                   unfold vC)
                | fail)
            go_wp2
            refine val_ret2 rfl (w.heap.size + 1) _ _ _ rfl (put3_blk HZ5.out _ _ _) rfl ?_
            exact ev2_ok HF.out (below_put3 HB5.out (by omega) _ _ _)
          · -- a call
            by_cases h6 : x.op = 6
            · -- coalesce
              have hl : x.args.length = 2 := by rw [hl, h6]; rfl
              have hl2 : vs.length = 2 := by rw [HVL.out, ← HM.out]; exact hl
              obtain ⟨v, u, rfl⟩ : ∃ a b, vs = [a, b] := by
                match vs, hl2 with
                | [a, b], _ => exact ⟨a, b, rfl⟩
              obtain ⟨g, rfl, hgB, hv⟩ := own_at HOW.out HVL.out.symm (by simp)
              have hgz : Asd (¬ g = w.heap.size + 1) := Asd.mk (by have := HSZ3.out; omega)
              have hpz : Asd (¬ w.heap.size = w.heap.size + 1) := Asd.mk (by omega)
              obtain ⟨v0, v1, v2⟩ := hv 0 (by simp)
              obtain ⟨u0, u1, u2⟩ := hv 1 (by simp)
              simp only [List.getElem_cons_zero, List.getElem_cons_succ, Nat.zero_mul, Nat.one_mul, Nat.zero_add, Nat.reduceAdd] at v0 v1 v2 u0 u1 u2
              have HV0 := Asd.mk v0
              have HV1 := Asd.mk v1
              have HV2 := Asd.mk v2
              have HU0 := Asd.mk u0
              have HU1 := Asd.mk u1
              have HU2 := Asd.mk u2
              have HE1 := Asd.mk e1
              have hkk : k = 2 := by rw [← HVL.out]; rfl
              have HF : Asd (evE row ks x = .ok u) := Asd.mk (HF.out.trans (finP_two hk))
              obtain ⟨⟨z0, z1, z2⟩, y0, y1, y2⟩ := zero_cells HZR.out
              have h6' : (x.op == 6) = true := by rw [h6]; rfl
              have hk3 : (x.kind == 3) = false := by rw [hk]; rfl
              have hk4 : (x.kind == 4) = false := by rw [hk]; rfl
              have hk7 : (x.kind == 7) = false := by rw [hk]; rfl
              clear hk hl hl2 ho1 ho6 hv hlt h6
              subst hkk
              go_wp2
              refine val_ret2 rfl (w.heap.size + 1) _ _ _ rfl (put3_blk HZR.out _ _ _) rfl ?_
              exact ev2_ok HF.out (below_put3 HBR.out (by omega) _ _ _)
            · -- another function
              have hne : x.args.length ≠ 2 := by
                rw [hl]
                unfold opn
                split
                · omega
                · split <;> omega
              have HF : Asd (evE row ks x = callV x.op vs) := Asd.mk (HF.out.trans (finP_call hk (by rw [HVL.out, ← HM.out]; exact hne)))
              have HCU := Asd.mk (fun W hv => (ecall_calls x.op vs ho1 (by omega) (by rw [HVL.out, ← HM.out]; exact hl) HVR.out A' c' W hv).mono fun e w' h => ev2_form h)
              rw [HVL.out] at HCU
              generalize hu : resVal (callV x.op vs) = u at HCU
              generalize hn : resNum (callV x.op vs) = n at HCU
              have HU := Asd.mk hu
              have HN := Asd.mk hn
              have HVS := Asd.mk (own_vals HOW.out HVL.out.symm)
              have h6' : (x.op == 6) = false := by simpa using h6
              clear hu hn
              have hk3 : (x.kind == 3) = false := by rw [hk]; rfl
              have hk4 : (x.kind == 4) = false := by rw [hk]; rfl
              have hk7 : (x.kind == 7) = false := by rw [hk]; rfl
              clear hk hl ho1 ho6 hlt h6 hne
              go_wp2_with fail
              refine (HCU.out _ HVS.out).mono ?_
              rintro e w5 ⟨rfl, hb5⟩
              have HZ5 := Asd.mk (blk_below hb5 HZR.out)
              have HB5 : Asd (Below w.heap.size w w5) := Asd.mk (HBR.out.trans (hb5.mono HBR.out.size))
              obtain ⟨⟨z0, z1, z2⟩, y0, y1, y2⟩ := zero_cells HZ5.out
              clear e0 e1 hb5
              unfold vC
              go_wp2
              refine val_ret2 rfl (w.heap.size + 1) _ _ _ rfl (put3_blk HZ5.out _ _ _) rfl ?_
              exact ev2_of HF.out HU.out HN.out (below_put3 HB5.out (by omega) _ _ _)
          · -- two operands
            have hl2 : vs.length = 2 := by rw [HVL.out, ← HM.out]; exact hl
            obtain ⟨v, u, rfl⟩ : ∃ a b, vs = [a, b] := by
              match vs, hl2 with
              | [a, b], _ => exact ⟨a, b, rfl⟩
            obtain ⟨g, rfl, hgB, hv⟩ := own_at HOW.out HVL.out.symm (by simp)
            have hgz : Asd (¬ g = w.heap.size + 1) := Asd.mk (by have := HSZ3.out; omega)
            have hpz : Asd (¬ w.heap.size = w.heap.size + 1) := Asd.mk (by omega)
            obtain ⟨v0, v1, v2⟩ := hv 0 (by simp)
            obtain ⟨u0, u1, u2⟩ := hv 1 (by simp)
            simp only [List.getElem_cons_zero, List.getElem_cons_succ, Nat.zero_mul, Nat.one_mul, Nat.zero_add, Nat.reduceAdd] at v0 v1 v2 u0 u1 u2
            have HV0 := Asd.mk v0
            have HV1 := Asd.mk v1
            have HV2 := Asd.mk v2
            have HU0 := Asd.mk u0
            have HU1 := Asd.mk u1
            have HU2 := Asd.mk u2
            have HE1 := Asd.mk e1
            have hkk : k = 2 := by rw [← HVL.out]; rfl
            have HF : Asd (evE row ks x = binP x.op v u) := Asd.mk (HF.out.trans (finP_bin hk))
            have HCU := Asd.mk (fun W => (binary_calls x.op ho3 ho16 v u (HVR.out v (by simp)) (HVR.out u (by simp)) W).mono fun e w' h => ev2_form h)
            generalize hu : resVal (binP x.op v u) = r at HCU
            generalize hn : resNum (binP x.op v u) = n at HCU
            have HU := Asd.mk hu
            have HN := Asd.mk hn
            clear hu hn
            have hk3 : (x.kind == 3) = false := by rw [hk]; rfl
            have hk4 : (x.kind == 4) = true := by rw [hk]; rfl
            have hk7 : (x.kind == 7) = false := by rw [hk]; rfl
            clear hk hl hl2 ho3 ho16 hv hlt
            subst hkk
            have HS : Asd (∀ w', Fr (fun k => k = w.heap.size + 1) wr w' → w'.cell? ⟨w.heap.size, 1, none⟩ = some (.int .i64 x.op) ∧ w'.cell? ⟨g, 0, none⟩ = some (.int .i64 v.kind) ∧ w'.cell? ⟨g, 1, none⟩ = some (.int .i64 v.int) ∧ w'.cell? ⟨g, 2, none⟩ = some (.string ⟨v.text.toArray⟩) ∧ w'.cell? ⟨g, 3, none⟩ = some (.int .i64 u.kind) ∧ w'.cell? ⟨g, 4, none⟩ = some (.int .i64 u.int) ∧ w'.cell? ⟨g, 5, none⟩ = some (.string ⟨u.text.toArray⟩) ∧ Fr (fun k => k = w.heap.size + 1) wr w') := Asd.mk fun w' hf => ⟨cell_frS hf hpz.out HE1.out, cell_frS hf hgz.out HV0.out, cell_frS hf hgz.out HV1.out, cell_frS hf hgz.out HV2.out, cell_frS hf hgz.out HU0.out, cell_frS hf hgz.out HU1.out, cell_frS hf hgz.out HU2.out, hf⟩
            go_upto_region 30 with fail
            clear e0 e1 v0 v1 v2 u0 u1 u2
            go_region_held3 (fun w' => w'.cell? ⟨w.heap.size, 1, none⟩ = some (.int .i64 x.op) ∧ w'.cell? ⟨g, 0, none⟩ = some (.int .i64 v.kind) ∧ w'.cell? ⟨g, 1, none⟩ = some (.int .i64 v.int) ∧ w'.cell? ⟨g, 2, none⟩ = some (.string ⟨v.text.toArray⟩) ∧ w'.cell? ⟨g, 3, none⟩ = some (.int .i64 u.kind) ∧ w'.cell? ⟨g, 4, none⟩ = some (.int .i64 u.int) ∧ w'.cell? ⟨g, 5, none⟩ = some (.string ⟨u.text.toArray⟩) ∧ Fr (fun k => k = w.heap.size + 1) wr w')
              (first
                | exact HS.out _ (Fr.refl _ _)
                | exact HS.out _ (Fr.refl _ _).drew
                | exact HS.out _ HF5.out
                | exact HS.out _ (Fr.setCell (Fr.setCell (Fr.setCell HF5.out (p := ⟨w.heap.size + 1, 0, none⟩) rfl _) (p := ⟨w.heap.size + 1, 1, none⟩) rfl _) (p := ⟨w.heap.size + 1, 2, none⟩) rfl _)
                | (go_split_ands; exact HS.out _ (by assumption))
                | fail)
              (first
                | (go_at_call 22
                   refine (HCU.out _).mono ?_
                   rintro e w5 ⟨rfl, hb5⟩
                   have HF5 : Asd (Fr (fun k => k = w.heap.size + 1) wr w5) := Asd.mk ((Fr.refl _ wr).drew.trans (Fr.of_below hb5) (fun _ h _ => h) (fun _ h _ => h))
                   have HZ5 := Asd.mk (blk_below hb5 (drewb HZR.out))
                   have HB5 : Asd (Below w.heap.size w w5) := Asd.mk (HBR.out.drew.trans (hb5.mono HBR.out.drew.size))
                   obtain ⟨⟨z0, z1, z2⟩, y0, y1, y2⟩ := zero_cells HZ5.out
                   unfold vC)
                | fail)
            go_wp2
            refine val_ret2 rfl (w.heap.size + 1) _ _ _ rfl (put3_blk HZ5.out _ _ _) rfl ?_
            exact ev2_of HF.out HU.out HN.out (below_put3 HB5.out (by omega) _ _ _)
/-- eval.Eval. -/
theorem eval_ok (row : List Vl) (ks : List (Ex × Vl)) (x : Ex) (hx : rvX x) : EvalOK row ks x :=
  eval_step row ks x hx fun i h => eval_ok row ks x.args[i] (rvXL_mem (rvX_args hx) _ (List.getElem_mem h))
termination_by SizeOf.sizeOf x
decreasing_by exact args_lt x i h
theorem eval_calls (row : List Vl) (ks : List (Ex × Vl)) (x : Ex) (hx : rvX x) (P Q : Nat → Prop) (A RA KA : Option Addr) (c rc kc : Nat) (w : World) (he : EnvW P w RA KA row ks) (hh : Held Q w x.args (.slice A x.args.length c)) :
    Calls Tryz.prog 11 #[exV x (.slice A x.args.length c), .slice RA row.length rc, .slice KA ks.length kc] w (Ev2 (evE row ks x) w) := eval_ok row ks x hx P Q A RA KA c rc kc w he hh
end Go.Proofs.YtbeeaikilcnpgaaGreatDoor.Exp

/- How data that came in is read: one relation a type, built up over slices and structs; what is read is still read where nothing old has turned. Any program. -/
set_option linter.unusedVariables false
namespace Go.Proofs.YtbeeaikilcnpgaaGreatDoor.Rd
open Go.RowKit Go.Proofs.YtbeeaikilcnpgaaGreatDoor.Base Go.Deep Go.ChangeShapes Go.WideShapes

/-- A reading of cells. -/
abbrev Rel (α : Type) := World → List Value → α → Prop

/-- Whatever reads as data of type t reads by r. -/
def Opens {α : Type} (P : Program) (t : TypeId) (r : Rel α) : Prop :=
  ∀ (H : Type) (enc : TypeId × Value → H) (W : World) (fuel : Nat) (cs : List Value) (d : DataW H) (p : List MemPlace),
    DataW.trod enc P W 0 (fun _ => true) true fuel t cs = some (d, p) → (∀ n ∈ d.weights P t, n ≤ reachBytes) → ∃ x, r W cs x

/-- The reading outlives what turns nothing old. -/
def Lasts {α : Type} (r : Rel α) : Prop := ∀ (W W' : World) (cs : List Value) (x : α), Below W.heap.size W W' → r W cs x → r W' cs x

def rInt (k : IntKind) : Rel Int := fun _ cs x => cs = [.int k x] ∧ (Lit.int k x).wf = true
def rBool : Rel Bool := fun _ cs x => cs = [.bool x]
def rStr : Rel ByteArray := fun _ cs s => cs = [.string s] ∧ s.size ≤ reachBytes

/-- The slice at A, n elements of sz cells each, reads as xs. -/
def IsSl {α : Type} (r : Rel α) (sz : Nat) (W : World) (A : Option Addr) (n : Nat) (xs : List α) : Prop :=
  xs.length = n ∧ (0 < n → ∃ b o, A = some ⟨b, o, none⟩ ∧ b < W.heap.size ∧ ∀ j (h : j < xs.length), ∃ es, es.length = sz ∧ (∀ i, i < sz → W.cell? ⟨b, o + (j * sz + i), none⟩ = es[i]?) ∧ r W es xs[j])
def rSl {α : Type} (r : Rel α) (sz bytes : Nat) : Rel (List α) := fun W cs xs =>
  ∃ A n c, cs = [.slice A n c] ∧ n * bytes ≤ reachBytes ∧ (A = none → c = 0) ∧ IsSl r sz W A n xs

theorem lasts_int (k : IntKind) : Lasts (rInt k) := fun _ _ _ _ _ h => h
theorem lasts_bool : Lasts rBool := fun _ _ _ _ _ h => h
theorem lasts_str : Lasts rStr := fun _ _ _ _ _ h => h
theorem IsSl.below {α : Type} {r : Rel α} (hr : Lasts r) {sz : Nat} {W W' : World} {A : Option Addr} {n : Nat} {xs : List α} (h : IsSl r sz W A n xs) (hb : Below W.heap.size W W') : IsSl r sz W' A n xs := by
  refine ⟨h.1, fun hn => ?_⟩
  obtain ⟨b, o, rfl, hlt, hc⟩ := h.2 hn
  refine ⟨b, o, rfl, Nat.lt_of_lt_of_le hlt hb.size, fun j hj => ?_⟩
  obtain ⟨es, h1, h2, h3⟩ := hc j hj
  exact ⟨es, h1, fun i hi => (hb.cell hlt).trans (h2 i hi), hr _ _ _ _ hb h3⟩
theorem lasts_sl {α : Type} {r : Rel α} (hr : Lasts r) (sz bytes : Nat) : Lasts (rSl r sz bytes) := fun W W' cs xs hb ⟨A, n, c, h1, h2, h3, h4⟩ => ⟨A, n, c, h1, h2, h3, h4.below hr hb⟩

section
variable {P : Program}
theorem opens_int {t : TypeId} {k : IntKind} (ht : P.underlying t = some (.int k)) : Opens P t (rInt k) := by
  intro H enc W fuel cs d p h _
  obtain ⟨n, rfl, _, hw⟩ := DataW.trod_int ht h
  exact ⟨n, rfl, hw⟩
theorem opens_bool {t : TypeId} (ht : P.underlying t = some .bool) : Opens P t rBool := by
  intro H enc W fuel cs d p h _
  obtain ⟨b, rfl, _⟩ := DataW.trod_bool ht h
  exact ⟨b, rfl⟩
theorem opens_str {t : TypeId} (ht : P.underlying t = some .string) : Opens P t rStr := by
  intro H enc W fuel cs d p h hw
  obtain ⟨s, rfl, hx, _⟩ := DataW.trod_string ht h
  obtain ⟨rfl, _⟩ := Prod.mk.inj hx
  refine ⟨s, rfl, ?_⟩
  have := hw s.data.toList.length (by simp [DataW.weights])
  simpa using this

theorem weightsAll_mem {H : Type} {e : TypeId} : ∀ {ds : List (DataW H)} {j : Nat} {d : DataW H}, ds[j]? = some d → ∀ n ∈ d.weights P e, n ∈ DataW.weightsAll P e ds
  | [], _, _, h, _, _ => by simp at h
  | d0 :: ds, 0, d, h, n, hn => by
    simp only [List.getElem?_cons_zero, Option.some.injEq] at h
    subst h
    simp only [DataW.weightsAll, List.mem_append]
    exact Or.inl hn
  | d0 :: ds, j + 1, d, h, n, hn => by
    simp only [List.getElem?_cons_succ] at h
    simp only [DataW.weightsAll, List.mem_append]
    exact Or.inr (weightsAll_mem h n hn)

theorem add_off (b o n : Nat) : ((⟨b, o, none⟩ : Addr).add n) = ⟨b, o + n, none⟩ := by unfold Addr.add; split <;> simp_all
theorem no_spot {W : World} {a : Addr} {v : Value} (h : W.cell? a = some v) : a.spot = none := by
  cases hs : a.spot with
  | none => rfl
  | some q =>
    simp only [World.cell?, hs] at h
    split at h
    · simp at h
    · cases h

theorem list_of {α : Type} (n : Nat) (p : Nat → α → Prop) (h : ∀ i, i < n → ∃ x, p i x) : ∃ xs : List α, xs.length = n ∧ ∀ j (hj : j < xs.length), p j xs[j] := by
  induction n with
  | zero => exact ⟨[], rfl, fun j hj => absurd hj (by simp)⟩
  | succ n ih =>
    obtain ⟨xs, h1, h2⟩ := ih (fun i hi => h i (by omega))
    obtain ⟨x, hx⟩ := h n (by omega)
    refine ⟨xs ++ [x], by simp [h1], fun j hj => ?_⟩
    by_cases hjn : j < xs.length
    · rw [List.getElem_append_left hjn]; exact h2 j hjn
    · have : j = xs.length := by simp at hj; omega
      subst this
      simp only [List.getElem_concat_length]
      rw [h1]; exact hx

theorem opens_sl {α : Type} {t e : TypeId} {r : Rel α} {sz bytes : Nat} (ht : P.underlying t = some (.slice e)) (hc : P.cellsOf e = sz) (hpos : 0 < sz) (hb : P.bytesOf e = bytes) (he : Opens P e r) : Opens P t (rSl r sz bytes) := by
  intro H enc W fuel cs d p h hw
  rcases open_slice ht h with ⟨rfl, _⟩ | ⟨a, len, cap, m, n, D, Pl, rfl, _, hl, hm, hmm, hx, hel⟩
  · exact ⟨[], none, 0, 0, rfl, by simp, fun _ => rfl, rfl, fun h => by omega⟩
  · obtain ⟨rfl, _⟩ := Prod.mk.inj hx
    simp only [if_true] at hmm
    have hw0 := hw ((len + (m - len)) * bytes) (by simp [DataW.weights, ht, hb])
    have hlen : len * bytes ≤ reachBytes := Nat.le_trans (Nat.mul_le_mul_right _ (Nat.le_add_right _ _)) hw0
    rw [hc] at hel
    obtain ⟨xs, hxl, hxs⟩ := list_of len (fun i (x : α) => ∃ cs', W.cells? 0 (a.add (i * sz)) sz = some cs' ∧ r W cs' x) (fun i hi => by
      obtain ⟨cs', h1, h2⟩ := hel i (by omega)
      obtain ⟨x, hx⟩ := he H enc W n cs' (D i) (Pl i) h2 (fun k hk => hw k (by
        simp only [DataW.weights, ht]
        exact List.mem_cons_of_mem _ (List.mem_append_left _ (weightsAll_mem (j := i) (d := D i) (by simp [hi]) k hk))))
      exact ⟨x, cs', h1, hx⟩)
    refine ⟨xs, some a, len, cap, rfl, hlen, by simp, hxl, fun hn => ?_⟩
    have h0 : ∃ v, W.cell? a = some v := by
      obtain ⟨cs', h1, _⟩ := hxs 0 (by omega)
      obtain ⟨_, hlen', hcell⟩ := World.cells?_some h1
      have := hcell 0 hpos
      simp only [Nat.zero_mul] at this
      obtain ⟨v, hv⟩ : ∃ v, cs'[0]? = some v := ⟨cs'[0], by simp [show 0 < cs'.length by omega]⟩
      refine ⟨v, ?_⟩
      rw [hv] at this
      simpa [Addr.add] using this
    obtain ⟨v0, hv0⟩ := h0
    obtain ⟨ab, ao, asp⟩ := a
    obtain rfl : asp = none := no_spot hv0
    refine ⟨ab, ao, rfl, World.block_lt_of_cell? W _ hv0, fun j hj => ?_⟩
    obtain ⟨cs', h1, h2⟩ := hxs j hj
    obtain ⟨_, hlen', hcell⟩ := World.cells?_some h1
    refine ⟨cs', hlen', fun i hi => ?_, h2⟩
    have := hcell i hi
    rw [add_off, add_off] at this
    rw [← this]
    simp [Nat.add_assoc]

/-! ### Structs of fields of one cell each -/
def rS2 {α β : Type} (r0 : Rel α) (r1 : Rel β) : Rel (α × β) := fun W cs x => ∃ c0 c1, cs = [c0, c1] ∧ r0 W [c0] x.1 ∧ r1 W [c1] x.2
def rS3 {α β γ : Type} (r0 : Rel α) (r1 : Rel β) (r2 : Rel γ) : Rel (α × β × γ) := fun W cs x => ∃ c0 c1 c2, cs = [c0, c1, c2] ∧ r0 W [c0] x.1 ∧ r1 W [c1] x.2.1 ∧ r2 W [c2] x.2.2
def rS4 {α β γ δ : Type} (r0 : Rel α) (r1 : Rel β) (r2 : Rel γ) (r3 : Rel δ) : Rel (α × β × γ × δ) := fun W cs x => ∃ c0 c1 c2 c3, cs = [c0, c1, c2, c3] ∧ r0 W [c0] x.1 ∧ r1 W [c1] x.2.1 ∧ r2 W [c2] x.2.2.1 ∧ r3 W [c3] x.2.2.2
theorem lasts_s2 {α β : Type} {r0 : Rel α} {r1 : Rel β} (h0 : Lasts r0) (h1 : Lasts r1) : Lasts (rS2 r0 r1) :=
  fun W W' cs x hb ⟨c0, c1, e, a0, a1⟩ => ⟨c0, c1, e, h0 _ _ _ _ hb a0, h1 _ _ _ _ hb a1⟩
theorem lasts_s3 {α β γ : Type} {r0 : Rel α} {r1 : Rel β} {r2 : Rel γ} (h0 : Lasts r0) (h1 : Lasts r1) (h2 : Lasts r2) : Lasts (rS3 r0 r1 r2) :=
  fun W W' cs x hb ⟨c0, c1, c2, e, a0, a1, a2⟩ => ⟨c0, c1, c2, e, h0 _ _ _ _ hb a0, h1 _ _ _ _ hb a1, h2 _ _ _ _ hb a2⟩
theorem lasts_s4 {α β γ δ : Type} {r0 : Rel α} {r1 : Rel β} {r2 : Rel γ} {r3 : Rel δ} (h0 : Lasts r0) (h1 : Lasts r1) (h2 : Lasts r2) (h3 : Lasts r3) : Lasts (rS4 r0 r1 r2 r3) :=
  fun W W' cs x hb ⟨c0, c1, c2, c3, e, a0, a1, a2, a3⟩ => ⟨c0, c1, c2, c3, e, h0 _ _ _ _ hb a0, h1 _ _ _ _ hb a1, h2 _ _ _ _ hb a2, h3 _ _ _ _ hb a3⟩

/-- A struct's field that is one cell. -/
def OneAt (P : Program) (f : Field) (i : Nat) : Prop := f.offset = i ∧ P.cellsOf f.type = 1

theorem opens_s2 {α β : Type} {t : TypeId} {f0 f1 : Field} {r0 : Rel α} {r1 : Rel β} (ht : P.underlying t = some (.struct #[f0, f1])) (hc : P.cellsOf t = 2) (a0 : OneAt P f0 0) (a1 : OneAt P f1 1)
    (h0 : Opens P f0.type r0) (h1 : Opens P f1.type r1) : Opens P t (rS2 r0 r1) := by
  intro H enc W fuel cs d p h hw
  obtain ⟨xs, n, _, hx, hl, hlen, hf⟩ := DataW.trod_struct ht h
  rw [hc] at hl
  match cs, hl, xs, hlen with
  | [c0, c1], _, [y0, y1], _ =>
    obtain ⟨rfl, _⟩ := Prod.mk.inj hx
    have e0 := hf 0 f0 rfl
    have e1 := hf 1 f1 rfl
    rw [a0.1, a0.2] at e0
    rw [a1.1, a1.2] at e1
    have w0 : ∀ k ∈ (y0.1).weights P f0.type, k ≤ reachBytes := fun k hk => hw k (by simp only [DataW.weights, ht]; exact DataW.weights_mem_each (j := 0) rfl rfl k hk)
    have w1 : ∀ k ∈ (y1.1).weights P f1.type, k ≤ reachBytes := fun k hk => hw k (by simp only [DataW.weights, ht]; exact DataW.weights_mem_each (j := 1) rfl rfl k hk)
    obtain ⟨x0, q0⟩ := h0 H enc W n [c0] y0.1 y0.2 (by simpa using e0) w0
    obtain ⟨x1, q1⟩ := h1 H enc W n [c1] y1.1 y1.2 (by simpa using e1) w1
    exact ⟨(x0, x1), c0, c1, rfl, q0, q1⟩

theorem opens_s3 {α β γ : Type} {t : TypeId} {f0 f1 f2 : Field} {r0 : Rel α} {r1 : Rel β} {r2 : Rel γ} (ht : P.underlying t = some (.struct #[f0, f1, f2])) (hc : P.cellsOf t = 3) (a0 : OneAt P f0 0) (a1 : OneAt P f1 1) (a2 : OneAt P f2 2)
    (h0 : Opens P f0.type r0) (h1 : Opens P f1.type r1) (h2 : Opens P f2.type r2) : Opens P t (rS3 r0 r1 r2) := by
  intro H enc W fuel cs d p h hw
  obtain ⟨xs, n, _, hx, hl, hlen, hf⟩ := DataW.trod_struct ht h
  rw [hc] at hl
  match cs, hl, xs, hlen with
  | [c0, c1, c2], _, [y0, y1, y2], _ =>
    obtain ⟨rfl, _⟩ := Prod.mk.inj hx
    have e0 := hf 0 f0 rfl
    have e1 := hf 1 f1 rfl
    have e2 := hf 2 f2 rfl
    rw [a0.1, a0.2] at e0
    rw [a1.1, a1.2] at e1
    rw [a2.1, a2.2] at e2
    have w0 : ∀ k ∈ (y0.1).weights P f0.type, k ≤ reachBytes := fun k hk => hw k (by simp only [DataW.weights, ht]; exact DataW.weights_mem_each (j := 0) rfl rfl k hk)
    have w1 : ∀ k ∈ (y1.1).weights P f1.type, k ≤ reachBytes := fun k hk => hw k (by simp only [DataW.weights, ht]; exact DataW.weights_mem_each (j := 1) rfl rfl k hk)
    have w2 : ∀ k ∈ (y2.1).weights P f2.type, k ≤ reachBytes := fun k hk => hw k (by simp only [DataW.weights, ht]; exact DataW.weights_mem_each (j := 2) rfl rfl k hk)
    obtain ⟨x0, q0⟩ := h0 H enc W n [c0] y0.1 y0.2 (by simpa using e0) w0
    obtain ⟨x1, q1⟩ := h1 H enc W n [c1] y1.1 y1.2 (by simpa using e1) w1
    obtain ⟨x2, q2⟩ := h2 H enc W n [c2] y2.1 y2.2 (by simpa using e2) w2
    exact ⟨(x0, x1, x2), c0, c1, c2, rfl, q0, q1, q2⟩

theorem opens_s4 {α β γ δ : Type} {t : TypeId} {f0 f1 f2 f3 : Field} {r0 : Rel α} {r1 : Rel β} {r2 : Rel γ} {r3 : Rel δ} (ht : P.underlying t = some (.struct #[f0, f1, f2, f3])) (hc : P.cellsOf t = 4) (a0 : OneAt P f0 0) (a1 : OneAt P f1 1) (a2 : OneAt P f2 2) (a3 : OneAt P f3 3)
    (h0 : Opens P f0.type r0) (h1 : Opens P f1.type r1) (h2 : Opens P f2.type r2) (h3 : Opens P f3.type r3) : Opens P t (rS4 r0 r1 r2 r3) := by
  intro H enc W fuel cs d p h hw
  obtain ⟨xs, n, _, hx, hl, hlen, hf⟩ := DataW.trod_struct ht h
  rw [hc] at hl
  match cs, hl, xs, hlen with
  | [c0, c1, c2, c3], _, [y0, y1, y2, y3], _ =>
    obtain ⟨rfl, _⟩ := Prod.mk.inj hx
    have e0 := hf 0 f0 rfl
    have e1 := hf 1 f1 rfl
    have e2 := hf 2 f2 rfl
    have e3 := hf 3 f3 rfl
    rw [a0.1, a0.2] at e0
    rw [a1.1, a1.2] at e1
    rw [a2.1, a2.2] at e2
    rw [a3.1, a3.2] at e3
    have w0 : ∀ k ∈ (y0.1).weights P f0.type, k ≤ reachBytes := fun k hk => hw k (by simp only [DataW.weights, ht]; exact DataW.weights_mem_each (j := 0) rfl rfl k hk)
    have w1 : ∀ k ∈ (y1.1).weights P f1.type, k ≤ reachBytes := fun k hk => hw k (by simp only [DataW.weights, ht]; exact DataW.weights_mem_each (j := 1) rfl rfl k hk)
    have w2 : ∀ k ∈ (y2.1).weights P f2.type, k ≤ reachBytes := fun k hk => hw k (by simp only [DataW.weights, ht]; exact DataW.weights_mem_each (j := 2) rfl rfl k hk)
    have w3 : ∀ k ∈ (y3.1).weights P f3.type, k ≤ reachBytes := fun k hk => hw k (by simp only [DataW.weights, ht]; exact DataW.weights_mem_each (j := 3) rfl rfl k hk)
    obtain ⟨x0, q0⟩ := h0 H enc W n [c0] y0.1 y0.2 (by simpa using e0) w0
    obtain ⟨x1, q1⟩ := h1 H enc W n [c1] y1.1 y1.2 (by simpa using e1) w1
    obtain ⟨x2, q2⟩ := h2 H enc W n [c2] y2.1 y2.2 (by simpa using e2) w2
    obtain ⟨x3, q3⟩ := h3 H enc W n [c3] y3.1 y3.2 (by simpa using e3) w3
    exact ⟨(x0, x1, x2, x3), c0, c1, c2, c3, rfl, q0, q1, q2, q3⟩
end
end Go.Proofs.YtbeeaikilcnpgaaGreatDoor.Rd

/- Expressions, values and rows as they come in. -/
set_option linter.unusedVariables false
set_option linter.unusedSimpArgs false
namespace Go.Proofs.YtbeeaikilcnpgaaGreatDoor.Exp
open Go.RowKit Go.Proofs.YtbeeaikilcnpgaaGreatDoor.Base Go.Proofs.YtbeeaikilcnpgaaGreatDoor.App Go.Proofs.YtbeeaikilcnpgaaGreatDoor.Byt Go.Proofs.YtbeeaikilcnpgaaGreatDoor.Rd Go.Deep Go.ChangeShapes Go.WideShapes

mutual
/-- How much an expression holds. -/
def bulkX : Ex → Nat
  | .mk _ _ v t n _ _ a => 1 + v.text.length + t.length + n.length + bulkXL a
def bulkXL : List Ex → Nat
  | [] => 0
  | x :: xs => bulkX x + bulkXL xs
end
mutual
/-- All numbers within are numbers. -/
def rngX : Ex → Prop
  | .mk _ _ v _ _ _ _ a => inI v.int ∧ rngXL a
def rngXL : List Ex → Prop
  | [] => True
  | x :: xs => rngX x ∧ rngXL xs
end
theorem bulkX_eq (x : Ex) : bulkX x = 1 + x.v.text.length + x.table.length + x.name.length + bulkXL x.args := by cases x; rw [bulkX]; rfl
theorem rngX_eq (x : Ex) : rngX x = (inI x.v.int ∧ rngXL x.args) := by cases x; rw [rngX]; rfl
theorem rngXL_of : ∀ {l : List Ex}, (∀ x ∈ l, rngX x) → rngXL l
  | [], _ => by rw [rngXL]; trivial
  | x :: xs, h => by rw [rngXL]; exact ⟨h x (by simp), rngXL_of fun y hy => h y (by simp [hy])⟩
theorem bulkXL_mem : ∀ {l : List Ex} {x : Ex}, x ∈ l → bulkX x ≤ bulkXL l
  | y :: r, x, h => by
    rw [bulkXL]
    rcases List.mem_cons.mp h with rfl | h
    · omega
    · have := bulkXL_mem h; omega
theorem bulkX_pos (x : Ex) : 1 ≤ bulkX x := by rw [bulkX_eq]; omega
theorem bulkXL_len : ∀ l : List Ex, l.length ≤ bulkXL l
  | [] => Nat.zero_le _
  | x :: xs => by
    have := bulkXL_len xs
    have := bulkX_pos x
    rw [bulkXL, List.length_cons]
    omega
theorem few_of : ∀ x : Ex, bulkX x ≤ 1048576 → fewE x
  | .mk k o v t n c ty a, h => by
    rw [bulkX] at h
    have := bulkXL_len a
    rw [fewE]
    exact ⟨by omega, fewL_of' a (by omega)⟩
where fewL_of' : ∀ l : List Ex, bulkXL l ≤ 1048576 → fewL l
  | [], _ => by rw [fewL]; trivial
  | x :: xs, h => by
    rw [bulkXL] at h
    rw [fewL]
    exact ⟨few_of x (by omega), fewL_of' xs (by omega)⟩
theorem held_of_rows {P : Nat → Prop} {W : World} {g o c : Nat} (hP : P g) (ps : List (Ex × Value)) (hu : ∀ j, j < ps.length * 10 → W.frozen? ⟨g, o + j, none⟩ = false) (h : ∀ i (hi : i < ps.length), RowC W g (o + i * 10) ps[i].1 ps[i].2) (hs : ∀ p ∈ ps, Held P W p.1.args p.2) : Held P W (ps.map (·.1)) (.slice (some ⟨g, o, none⟩) ps.length c) := by
  have := Held.cons (P := P) (W := W) g o c (ps.map (·.1)) (ps.map (·.2)) hP (by simp) (fun j hj => hu j (by simpa using hj)) (fun i hi => by
    have hi' : i < ps.length := by simpa using hi
    simpa using h i hi') (fun i hi => by
    have hi' : i < ps.length := by simpa using hi
    simpa using hs _ (List.getElem_mem hi'))
  simpa using this
theorem bulkXL_le {H : Type} : ∀ (xs : List Ex) (ds : List (DataW H)), xs.length = ds.length → (∀ j (h : j < xs.length) (h' : j < ds.length), bulkX xs[j] ≤ Rows.uptoBulk ds[j]) → bulkXL xs ≤ Rows.uptoBulkAll ds
  | [], [], _, _ => by rw [bulkXL]; omega
  | x :: xs, d :: ds, hl, h => by
    have h0 := h 0 (by simp) (by simp)
    have h1 := bulkXL_le xs ds (by simpa using hl) fun j a b => h (j + 1) (by simpa using a) (by simpa using b)
    rw [bulkXL, Rows.uptoBulkAll]
    exact Nat.add_le_add h0 h1
theorem bulkAll_mem {H : Type} : ∀ {ds : List (DataW H)} {d : DataW H}, d ∈ ds → Rows.uptoBulk d ≤ Rows.uptoBulkAll ds
  | e :: r, d, h => by
    rw [Rows.uptoBulkAll]
    rcases List.mem_cons.mp h with rfl | h
    · omega
    · have := bulkAll_mem h; omega
theorem bulkAll_append {H : Type} : ∀ (a b : List (DataW H)), Rows.uptoBulkAll (a ++ b) = Rows.uptoBulkAll a + Rows.uptoBulkAll b
  | [], b => by simp [Rows.uptoBulkAll]
  | x :: a, b => by rw [List.cons_append, Rows.uptoBulkAll, Rows.uptoBulkAll, bulkAll_append a b]; omega
theorem int_in {n : Int} (h : (Lit.int .i64 n).wf = true) : inI n := by
  simp [Lit.wf, IntKind.min, IntKind.max, IntKind.signed, IntKind.bits] at h
  exact ⟨by omega, by omega⟩
section
variable {H : Type} {enc : TypeId × Value → H} {P : Program}
theorem trod3 {t : TypeId} {f0 f1 f2 : Field} {W : World} {fuel : Nat} {cs : List Value} {x : DataW H × List MemPlace} (ht : P.underlying t = some (.struct #[f0, f1, f2])) (hc : P.cellsOf t = 3) (a0 : OneAt P f0 0) (a1 : OneAt P f1 1) (a2 : OneAt P f2 2) (h : DataW.trod enc P W 0 (fun _ => true) true fuel t cs = some x) :
    ∃ c0 c1 c2 y0 y1 y2 n, cs = [c0, c1, c2] ∧ x.1 = .agg [y0.1, y1.1, y2.1] ∧ DataW.trod enc P W 0 (fun _ => true) true n f0.type [c0] = some y0 ∧ DataW.trod enc P W 0 (fun _ => true) true n f1.type [c1] = some y1 ∧ DataW.trod enc P W 0 (fun _ => true) true n f2.type [c2] = some y2 := by
  obtain ⟨xs, n, _, hx, hl, hlen, hf⟩ := DataW.trod_struct ht h
  rw [hc] at hl
  match cs, hl, xs, hlen with
  | [c0, c1, c2], _, [y0, y1, y2], _ =>
    have e0 := hf 0 f0 rfl
    have e1 := hf 1 f1 rfl
    have e2 := hf 2 f2 rfl
    rw [a0.1, a0.2] at e0
    rw [a1.1, a1.2] at e1
    rw [a2.1, a2.2] at e2
    exact ⟨c0, c1, c2, y0, y1, y2, n, rfl, by rw [hx]; rfl, by simpa using e0, by simpa using e1, by simpa using e2⟩
theorem trod8 {t : TypeId} {f0 f1 f2 f3 f4 f5 f6 f7 : Field} {W : World} {fuel : Nat} {cs : List Value} {x : DataW H × List MemPlace} (ht : P.underlying t = some (.struct #[f0, f1, f2, f3, f4, f5, f6, f7])) (hc : P.cellsOf t = 10) (a0 : OneAt P f0 0) (a1 : OneAt P f1 1) (a2 : f2.offset = 2) (b2 : P.cellsOf f2.type = 3) (a3 : OneAt P f3 5) (a4 : OneAt P f4 6) (a5 : OneAt P f5 7) (a6 : OneAt P f6 8) (a7 : OneAt P f7 9) (h : DataW.trod enc P W 0 (fun _ => true) true fuel t cs = some x) :
    ∃ c0 c1 c2 c3 c4 c5 c6 c7 c8 c9 y0 y1 y2 y3 y4 y5 y6 y7 n, cs = [c0, c1, c2, c3, c4, c5, c6, c7, c8, c9] ∧ x.1 = .agg [y0.1, y1.1, y2.1, y3.1, y4.1, y5.1, y6.1, y7.1] ∧
      DataW.trod enc P W 0 (fun _ => true) true n f0.type [c0] = some y0 ∧ DataW.trod enc P W 0 (fun _ => true) true n f1.type [c1] = some y1 ∧ DataW.trod enc P W 0 (fun _ => true) true n f2.type [c2, c3, c4] = some y2 ∧
      DataW.trod enc P W 0 (fun _ => true) true n f3.type [c5] = some y3 ∧ DataW.trod enc P W 0 (fun _ => true) true n f4.type [c6] = some y4 ∧ DataW.trod enc P W 0 (fun _ => true) true n f5.type [c7] = some y5 ∧
      DataW.trod enc P W 0 (fun _ => true) true n f6.type [c8] = some y6 ∧ DataW.trod enc P W 0 (fun _ => true) true n f7.type [c9] = some y7 ∧ (∀ q ∈ y7.2, q ∈ x.2) := by
  obtain ⟨xs, n, _, hx, hl, hlen, hf⟩ := DataW.trod_struct ht h
  rw [hc] at hl
  match cs, hl, xs, hlen with
  | [c0, c1, c2, c3, c4, c5, c6, c7, c8, c9], _, [y0, y1, y2, y3, y4, y5, y6, y7], _ =>
    have e0 := hf 0 f0 rfl
    have e1 := hf 1 f1 rfl
    have e2 := hf 2 f2 rfl
    have e3 := hf 3 f3 rfl
    have e4 := hf 4 f4 rfl
    have e5 := hf 5 f5 rfl
    have e6 := hf 6 f6 rfl
    have e7 := hf 7 f7 rfl
    rw [a0.1, a0.2] at e0
    rw [a1.1, a1.2] at e1
    rw [a2, b2] at e2
    rw [a3.1, a3.2] at e3
    rw [a4.1, a4.2] at e4
    rw [a5.1, a5.2] at e5
    rw [a6.1, a6.2] at e6
    rw [a7.1, a7.2] at e7
    exact ⟨c0, c1, c2, c3, c4, c5, c6, c7, c8, c9, y0, y1, y2, y3, y4, y5, y6, y7, n, rfl, by rw [hx]; rfl, by simpa using e0, by simpa using e1, by simpa using e2, by simpa using e3, by simpa using e4, by simpa using e5, by simpa using e6, by simpa using e7, by rw [hx]; intro q hq; simp only [List.flatMap_cons, List.flatMap_nil, List.mem_append, List.append_nil]; simp [hq]⟩
end
section
variable {H : Type} {enc : TypeId × Value → H}
theorem ba_eta (s : ByteArray) : s = ⟨s.data.toList.toArray⟩ := by
  obtain ⟨⟨d⟩⟩ := s
  rfl
theorem open_val {W : World} {fuel : Nat} {cs : List Value} {x : DataW H × List MemPlace} (h : DataW.trod enc Tryz.prog W 0 (fun _ => true) true fuel 23 cs = some x) :
    ∃ v : Vl, cs = [.int .i64 v.kind, .int .i64 v.int, .string ⟨v.text.toArray⟩] ∧ inI v.int ∧ v.text.length + 1 ≤ Rows.uptoBulk x.1 := by
  obtain ⟨c0, c1, c2, y0, y1, y2, n, rfl, hx, h0, h1, h2⟩ := trod3 Tryz.underlying23 (by kernel_rfl) ⟨rfl, by kernel_rfl⟩ ⟨rfl, by kernel_rfl⟩ ⟨rfl, by kernel_rfl⟩ h
  obtain ⟨k, e0, d0, _⟩ := DataW.trod_int Tryz.underlying3 h0
  obtain ⟨i, e1, d1, w1⟩ := DataW.trod_int Tryz.underlying2 h1
  obtain ⟨s, e2, d2, _⟩ := DataW.trod_string Tryz.underlying9 h2
  cases e0; cases e1; cases e2
  refine ⟨⟨k, i, s.data.toList⟩, by rw [← ba_eta], int_in w1, ?_⟩
  rw [hx, d0, d1, d2]
  simp only [Rows.uptoBulk, Rows.uptoBulkAll]
  omega
/-- An expression comes in. -/
theorem open_ex {W : World} : ∀ (N fuel : Nat) (cs : List Value) (x : DataW H × List MemPlace), Rows.uptoBulk x.1 ≤ N → W.noneFrozen x.2 → DataW.trod enc Tryz.prog W 0 (fun _ => true) true fuel 26 cs = some x →
    ∃ (e : Ex) (s : Value), cs = exC e s ∧ Held (fun _ => True) W e.args s ∧ bulkX e ≤ Rows.uptoBulk x.1 ∧ rngX e := by
  intro N
  induction N with
  | zero =>
    intro fuel cs x hN hz h
    obtain ⟨c0, c1, c2, c3, c4, c5, c6, c7, c8, c9, y0, y1, y2, y3, y4, y5, y6, y7, n, rfl, hx, _⟩ := trod8 Tryz.underlying26 (by kernel_rfl) ⟨rfl, by kernel_rfl⟩ ⟨rfl, by kernel_rfl⟩ rfl (by kernel_rfl) ⟨rfl, by kernel_rfl⟩ ⟨rfl, by kernel_rfl⟩ ⟨rfl, by kernel_rfl⟩ ⟨rfl, by kernel_rfl⟩ ⟨rfl, by kernel_rfl⟩ h
    rw [hx] at hN
    simp only [Rows.uptoBulk] at hN
    omega
  | succ N ih =>
    intro fuel cs x hN hz h
    obtain ⟨c0, c1, c2, c3, c4, c5, c6, c7, c8, c9, y0, y1, y2, y3, y4, y5, y6, y7, n, rfl, hx, h0, h1, h2, h3, h4, h5, h6, h7, hp7⟩ := trod8 Tryz.underlying26 (by kernel_rfl) ⟨rfl, by kernel_rfl⟩ ⟨rfl, by kernel_rfl⟩ rfl (by kernel_rfl) ⟨rfl, by kernel_rfl⟩ ⟨rfl, by kernel_rfl⟩ ⟨rfl, by kernel_rfl⟩ ⟨rfl, by kernel_rfl⟩ ⟨rfl, by kernel_rfl⟩ h
    obtain ⟨k, e0, d0, _⟩ := DataW.trod_int Tryz.underlying3 h0
    obtain ⟨o, e1, d1, _⟩ := DataW.trod_int Tryz.underlying3 h1
    obtain ⟨v, e2, iv, bv⟩ := open_val h2
    obtain ⟨tb, e3, d3, _⟩ := DataW.trod_string Tryz.underlying9 h3
    obtain ⟨nm, e4, d4, _⟩ := DataW.trod_string Tryz.underlying9 h4
    obtain ⟨co, e5, d5, _⟩ := DataW.trod_int Tryz.underlying3 h5
    obtain ⟨ty, e6, d6, _⟩ := DataW.trod_int Tryz.underlying3 h6
    cases e0; cases e1; cases e2; cases e3; cases e4; cases e5; cases e6
    have hbx : Rows.uptoBulk x.1 = 1 + (1 + (1 + (Rows.uptoBulk y2.1 + (tb.data.toList.length + 1 + (nm.data.toList.length + 1 + (1 + (1 + Rows.uptoBulk y7.1))))))) := by
      rw [hx, d0, d1, d3, d4, d5, d6]
      simp only [Rows.uptoBulk, Rows.uptoBulkAll]
      omega
    rcases open_slice Tryz.underlying24 h7 with ⟨e7, _⟩ | ⟨a, len, cap, m, n', D, Pl, e7, _, hle, _, hmm, hx7, hel⟩
    · cases e7
      refine ⟨.mk k o v tb.data.toList nm.data.toList co ty [], .slice none 0 0, ?_, .nil _ _, ?_, ?_⟩
      · simp only [exC, Ex.kind, Ex.op, Ex.v, Ex.table, Ex.name, Ex.col, Ex.ty]
      · rw [bulkX, bulkXL]; omega
      · rw [rngX, rngXL]; exact ⟨iv, trivial⟩
    · cases e7
      simp only [if_true] at hmm
      have hc10 : Tryz.prog.cellsOf 26 = 10 := by kernel_rfl
      rw [hc10] at hel
      have hb7 : Rows.uptoBulk y7.1 = Rows.uptoBulkAll ((List.range len).map D) + Rows.uptoBulkAll ((List.range (m - len)).map fun j => D (len + j)) + 1 := by rw [hx7]; rfl
      obtain ⟨xs, hxl, hxs⟩ := list_of len (fun i (q : Ex × Value) => ∃ cs', W.cells? 0 (a.add (i * 10)) 10 = some cs' ∧ cs' = exC q.1 q.2 ∧ Held (fun _ => True) W q.1.args q.2 ∧ bulkX q.1 ≤ Rows.uptoBulk (D i) ∧ rngX q.1) (fun i hi => by
        obtain ⟨cs', q1, q2⟩ := hel i (by omega)
        have hbi : Rows.uptoBulk (D i) ≤ Rows.uptoBulkAll ((List.range len).map D) := bulkAll_mem (List.mem_map.mpr ⟨i, List.mem_range.mpr hi, rfl⟩)
        obtain ⟨e, s, r1, r2, r3, r4⟩ := ih n' cs' (D i, Pl i) (by show Rows.uptoBulk (D i) ≤ N; omega) (fun b off hm => hz b off (hp7 _ (by rw [hx7]; exact List.mem_append_right _ (List.mem_flatMap.mpr ⟨i, List.mem_range.mpr (by omega), hm⟩)))) q2
        exact ⟨(e, s), cs', q1, r1, r2, r3, r4⟩)
      have hsum : bulkXL (xs.map (·.1)) ≤ Rows.uptoBulkAll ((List.range len).map D) := by
        refine bulkXL_le _ _ (by simp [hxl]) fun j hj hj' => ?_
        have hjx : j < xs.length := by simpa using hj
        obtain ⟨_, _, _, _, hb, _⟩ := hxs j hjx
        simpa using hb
      refine ⟨.mk k o v tb.data.toList nm.data.toList co ty (xs.map (·.1)), .slice (some a) len cap, ?_, ?_, ?_, ?_⟩
      · simp only [exC, Ex.kind, Ex.op, Ex.v, Ex.table, Ex.name, Ex.col, Ex.ty]
      · show Held (fun _ => True) W (xs.map (·.1)) _
        by_cases hn0 : 0 < len
        · obtain ⟨cs', q1, q2, _⟩ := hxs 0 (by omega)
          obtain ⟨_, hlen', hcell⟩ := World.cells?_some q1
          have hv0 := hcell 0 (by omega)
          rw [q2] at hv0
          simp only [Nat.zero_mul] at hv0
          obtain ⟨ab, ao, asp⟩ := a
          obtain rfl : asp = none := no_spot (W := W) (a := ⟨ab, ao, asp⟩) (v := .int .i64 xs[0].1.kind) (by simpa [Addr.add, exC] using hv0)
          have := held_of_rows (P := fun _ => True) (W := W) (g := ab) (o := ao) (c := cap) trivial xs (fun j hj => hz ab (ao + j) (hp7 _ (by rw [hx7, hc10]; exact List.mem_append_left _ (MemPlace.mem_row.mpr ⟨j, by omega, rfl⟩)))) (fun i hi j hj => by
            obtain ⟨cs', q1, q2, _⟩ := hxs i hi
            obtain ⟨_, hlen', hcell⟩ := World.cells?_some q1
            have := hcell j (by omega)
            rw [add_off, add_off, q2, List.getElem?_eq_getElem (by rw [exC_len]; exact hj)] at this
            exact this) (fun q hq => by
            obtain ⟨i, hi, rfl⟩ := List.getElem_of_mem hq
            obtain ⟨_, _, _, hh, _⟩ := hxs i hi
            exact hh)
          rw [hxl] at this
          exact this
        · have hx0 : xs = [] := List.length_eq_zero_iff.mp (by omega)
          obtain rfl : len = 0 := by omega
          rw [hx0]
          exact .nil _ _
      · rw [bulkX]; omega
      · rw [rngX]
        refine ⟨iv, rngXL_of fun q hq => ?_⟩
        obtain ⟨p, hp, rfl⟩ := List.mem_map.mp hq
        obtain ⟨i, hi, rfl⟩ := List.getElem_of_mem hp
        obtain ⟨_, _, _, _, _, hr⟩ := hxs i hi
        exact hr
/-- A row comes in. -/
theorem open_vals {W : World} {fuel : Nat} {cs : List Value} {x : DataW H × List MemPlace} (h : DataW.trod enc Tryz.prog W 0 (fun _ => true) true fuel 27 cs = some x) :
    ∃ (A : Option Addr) (c : Nat) (vs : List Vl), cs = [.slice A vs.length c] ∧ ValSl W A vs ∧ vs.length ≤ Rows.uptoBulk x.1 ∧ ∀ v ∈ vs, inI v.int ∧ v.text.length ≤ Rows.uptoBulk x.1 := by
  rcases open_slice Tryz.underlying27 h with ⟨rfl, _⟩ | ⟨a, len, cap, m, n', D, Pl, rfl, _, hle, _, hmm, hx7, hel⟩
  · exact ⟨none, 0, [], rfl, fun h => absurd h (by simp), by simp, fun v hv => by cases hv⟩
  · simp only [if_true] at hmm
    have hc3 : Tryz.prog.cellsOf 23 = 3 := by kernel_rfl
    rw [hc3] at hel
    have hb7 : Rows.uptoBulk x.1 = Rows.uptoBulkAll ((List.range len).map D) + Rows.uptoBulkAll ((List.range (m - len)).map fun j => D (len + j)) + 1 := by rw [hx7]; rfl
    obtain ⟨vs, hvl, hvs⟩ := list_of len (fun i (v : Vl) => ∃ cs', W.cells? 0 (a.add (i * 3)) 3 = some cs' ∧ cs' = [.int .i64 v.kind, .int .i64 v.int, .string ⟨v.text.toArray⟩] ∧ inI v.int ∧ v.text.length + 1 ≤ Rows.uptoBulk (D i)) (fun i hi => by
      obtain ⟨cs', q1, q2⟩ := hel i (by omega)
      obtain ⟨v, r1, r2, r3⟩ := open_val q2
      exact ⟨v, cs', q1, r1, r2, r3⟩)
    have hall : ∀ n, n ≤ len → n ≤ Rows.uptoBulkAll ((List.range n).map D) := by
      intro n
      induction n with
      | zero => intro _; exact Nat.zero_le _
      | succ n ih =>
        intro hn
        have h1 := ih (by omega)
        obtain ⟨_, _, _, _, hb⟩ := hvs n (by omega)
        rw [List.range_succ, List.map_append, bulkAll_append]
        simp only [List.map_cons, List.map_nil, Rows.uptoBulkAll]
        omega
    have hlenb := hall len (Nat.le_refl _)
    refine ⟨some a, cap, vs, by rw [hvl], fun h0 => ?_, by rw [hvl]; omega, fun v hv => ?_⟩
    · obtain ⟨cs', q1, q2, _⟩ := hvs 0 h0
      obtain ⟨_, hlen', hcell⟩ := World.cells?_some q1
      have hv0 := hcell 0 (by omega)
      rw [q2] at hv0
      simp only [Nat.zero_mul] at hv0
      obtain ⟨ab, ao, asp⟩ := a
      obtain rfl : asp = none := no_spot (W := W) (a := ⟨ab, ao, asp⟩) (v := .int .i64 vs[0].kind) (by simpa [Addr.add] using hv0)
      refine ⟨ab, ao, rfl, fun i hi => ?_⟩
      obtain ⟨cs', q1, q2, _⟩ := hvs i hi
      obtain ⟨_, hlen', hcell⟩ := World.cells?_some q1
      have f0 := hcell 0 (by omega)
      have f1 := hcell 1 (by omega)
      have f2 := hcell 2 (by omega)
      rw [add_off, add_off, q2] at f0 f1 f2
      exact ⟨f0, f1, f2⟩
    · obtain ⟨i, hi, rfl⟩ := List.getElem_of_mem hv
      obtain ⟨_, _, _, h1, h2⟩ := hvs i hi
      have hbi : Rows.uptoBulk (D i) ≤ Rows.uptoBulkAll ((List.range len).map D) := bulkAll_mem (List.mem_map.mpr ⟨i, List.mem_range.mpr (by omega), rfl⟩)
      exact ⟨h1, by omega⟩
end
end Go.Proofs.YtbeeaikilcnpgaaGreatDoor.Exp

/- Plain laws of expressions' values: what has no column; a part that is known. -/
set_option linter.unusedVariables false
set_option linter.unusedSimpArgs false
namespace Go.Proofs.YtbeeaikilcnpgaaGreatDoor.Exp
open Go.RowKit Go.Proofs.YtbeeaikilcnpgaaGreatDoor.Base

mutual
/-- Has an expression a column? -/
def hasCol : Ex → Bool
  | .mk k _ _ _ _ _ _ a => k == 2 || hasColL a
def hasColL : List Ex → Bool
  | [] => false
  | x :: xs => hasCol x || hasColL xs
end
theorem hasCol_eq (x : Ex) : hasCol x = (x.kind == 2 || hasColL x.args) := by cases x; rw [hasCol]; rfl
theorem hasColL_at : ∀ (l : List Ex) (i : Nat) (h : i < l.length), hasColL l = false → hasCol l[i] = false
  | x :: xs, 0, h, hc => by rw [hasColL, Bool.or_eq_false_iff] at hc; exact hc.1
  | x :: xs, i + 1, h, hc => by rw [hasColL, Bool.or_eq_false_iff] at hc; exact hasColL_at xs i (by simpa using h) hc.2
theorem oneE_row {a b : List Vl} {x : Ex} (h : x.kind ≠ 2) (r : EvL) : oneE a x r = oneE b x r := by
  unfold oneE
  rw [if_neg h, if_neg h]
mutual
theorem evE_row (a b : List Vl) (known : List (Ex × Vl)) : ∀ x : Ex, hasCol x = false → evE a known x = evE b known x
  | .mk k o v t n c ty l, h => by
    rw [hasCol, Bool.or_eq_false_iff] at h
    rw [evE, evE, evL_row a b known l h.2 k o true, oneE_row (b := b) (by simpa [Ex.kind] using h.1)]
theorem evL_row (a b : List Vl) (known : List (Ex × Vl)) : ∀ l : List Ex, hasColL l = false → ∀ (k o : Int) (f : Bool), evL a known k o f l = evL b known k o f l
  | [], _, k, o, f => by rw [evL, evL]
  | x :: xs, h, k, o, f => by
    rw [hasColL, Bool.or_eq_false_iff] at h
    rw [evL, evL, evE_row a b known x h.1, evL_row a b known xs h.2 k o false]
end
theorem sameL_length : ∀ {xs ys : List Ex}, sameL xs ys = true → xs.length = ys.length
  | [], [], _ => rfl
  | x :: xs, y :: ys, h => by rw [sameL, Bool.and_eq_true] at h; simp [sameL_length h.2]
  | [], _ :: _, h => by rw [sameL] at h; cases h
  | _ :: _, [], h => by rw [sameL] at h; cases h
theorem vl_eq {v u : Vl} (h : (v.kind == u.kind && (v.int == u.int && v.text == u.text)) = true) : v = u := by
  cases v; cases u
  simp only [Bool.and_eq_true, beq_iff_eq] at h
  obtain ⟨h1, h2, h3⟩ := h
  subst h1; subst h2; subst h3; rfl
theorem knownV_nil (x : Ex) : knownV [] x = none := rfl
mutual
theorem evE_same (row : List Vl) : ∀ x y : Ex, sameE x y = true → hasCol x = false → evE row [] x = evE row [] y
  | .mk k o v t n c ty a, .mk k' o' v' t' n' c' ty' a', h, hc => by
    rw [sameE] at h
    simp only [Bool.and_eq_true, beq_iff_eq] at h
    obtain ⟨⟨⟨⟨⟨h1, h2⟩, h3⟩, h4⟩, h5⟩, h6⟩ := h
    have h3 : v = v' := vl_eq (by simp only [Bool.and_eq_true, beq_iff_eq]; exact h3)
    subst h1; subst h2; subst h3; subst h4; subst h5
    rw [hasCol, Bool.or_eq_false_iff] at hc
    have hk : k ≠ 2 := by simpa using hc.1
    rw [evE, evE, knownV_nil, knownV_nil, evL_same row a a' h6 hc.2 k o true]
    simp only
    unfold oneE emptyE
    simp only [Ex.kind, Ex.op, Ex.v, Ex.table, Ex.name, Ex.args, sameL_length h6]
    simp [hk]
theorem evL_same (row : List Vl) : ∀ xs ys : List Ex, sameL xs ys = true → hasColL xs = false → ∀ (k o : Int) (f : Bool), evL row [] k o f xs = evL row [] k o f ys
  | [], [], _, _, k, o, f => rfl
  | x :: xs, y :: ys, h, hc, k, o, f => by
    rw [sameL, Bool.and_eq_true] at h
    rw [hasColL, Bool.or_eq_false_iff] at hc
    rw [evL, evL, evE_same row x y h.1 hc.1, evL_same row xs ys h.2 hc.2 k o false]
  | [], _ :: _, h, _, _, _, _ => by rw [sameL] at h; cases h
  | _ :: _, [], h, _, _, _, _ => by rw [sameL] at h; cases h
end
theorem knownV_one (p : Ex) (v : Vl) (x : Ex) : knownV [(p, v)] x = if sameE p x then some v else none := by
  unfold knownV
  rw [List.find?_cons]
  cases sameE p x <;> rfl
mutual
theorem evE_part (row : List Vl) (p : Ex) (v : Vl) (hp : hasCol p = false) (hv : evE row [] p = .ok v) : ∀ x : Ex, evE row [(p, v)] x = evE row [] x
  | .mk k o u t n c ty l => by
    cases hs : sameE p (.mk k o u t n c ty l) with
    | true =>
      rw [← evE_same row p _ hs hp, hv, evE, knownV_one, hs]
      rfl
    | false =>
      rw [evE, evE, knownV_one, hs, knownV_nil, evL_part row p v hp hv l k o true]
      rfl
theorem evL_part (row : List Vl) (p : Ex) (v : Vl) (hp : hasCol p = false) (hv : evE row [] p = .ok v) : ∀ l : List Ex, ∀ (k o : Int) (f : Bool), evL row [(p, v)] k o f l = evL row [] k o f l
  | [], k, o, f => by rw [evL, evL]
  | x :: xs, k, o, f => by rw [evL, evL, evE_part row p v hp hv x, evL_part row p v hp hv xs k o false]
end
end Go.Proofs.YtbeeaikilcnpgaaGreatDoor.Exp

/- quarryref01.Check; quarrylaw16.Rights, RightRow; quarryref13.Size. -/
set_option linter.unusedVariables false
set_option linter.unusedSimpArgs false
namespace Go.Proofs.YtbeeaikilcnpgaaGreatDoor.Exp
open Go.RowKit Go.Proofs.YtbeeaikilcnpgaaGreatDoor.Base Go.Proofs.YtbeeaikilcnpgaaGreatDoor.App Go.Proofs.YtbeeaikilcnpgaaGreatDoor.Byt

/-- What is wrong with a value; 0: nothing. -/
def chkV (v : Vl) : Int :=
  if v.kind < 0 then 5 else if 4 < v.kind then 5
  else if v.kind = 0 then (if v.int = 0 ∧ v.text = [] then 0 else 3)
  else if v.kind = 1 then (if v.text = [] ∧ (v.int = 0 ∨ v.int = 1) then 0 else 3)
  else if v.kind = 2 then (if v.text = [] then 0 else 3)
  else (if v.int = 0 then 0 else 3)
theorem rv_of {v : Vl} (h : chkV v = 0) (hi : inI v.int) (ht : v.text.length ≤ reachBytes) : RV v := by
  obtain ⟨k, n, t⟩ := v
  unfold chkV at h
  simp only at h hi ht
  split at h
  · simp at h
  · split at h
    · simp at h
    · split at h
      · split at h
        · rename_i h0 h1
          obtain ⟨rfl, rfl⟩ := h1
          subst h0
          exact .null
        · simp at h
      · split at h
        · split at h
          · rename_i h0 h1
            obtain ⟨rfl, h1⟩ := h1
            subst h0
            rcases h1 with rfl | rfl
            · exact .bool false
            · exact .bool true
          · simp at h
        · split at h
          · split at h
            · rename_i h0 h1
              subst h0; subst h1
              exact .num n hi
            · simp at h
          · split at h
            · rename_i h0
              subst h0
              rcases (show k = 3 ∨ k = 4 by omega) with rfl | rfl
              · exact .text t ht
              · exact .blob t ht
            · simp at h
theorem chk_of {v : Vl} (h : RV v) : chkV v = 0 := by
  cases h with
  | null => rfl
  | bool b => cases b <;> rfl
  | num n h => simp [chkV, vNum]
  | text s h => simp [chkV, vTxt]
  | blob s h => simp [chkV]
theorem str_ne {t : List UInt8} (h : ¬ t = []) : ¬ (⟨t.toArray⟩ : ByteArray).toList = [] := by rw [Lib.toList_data]; exact h
set_option maxRecDepth 100000 in
set_option maxHeartbeats 3200000 in
theorem rchk_lo (k n : Int) (t : List UInt8) (h : k < 0) (w : World) : Calls Tryz.prog 15 #[.agg #[.int .i64 k, .int .i64 n, .string ⟨t.toArray⟩]] w fun e w' => e = .returned (.int .i64 5) ∧ Below w.heap.size w w' := by
  go_enter Tryz.func15, Tryz.ntmps15
  go_wp2
  go_ret
  exact ⟨rfl, below_alloc (Below.refl _ _) _⟩
set_option maxRecDepth 100000 in
set_option maxHeartbeats 3200000 in
theorem rchk_hi (k n : Int) (t : List UInt8) (h : ¬ k < 0) (h' : 4 < k) (w : World) : Calls Tryz.prog 15 #[.agg #[.int .i64 k, .int .i64 n, .string ⟨t.toArray⟩]] w fun e w' => e = .returned (.int .i64 5) ∧ Below w.heap.size w w' := by
  go_enter Tryz.func15, Tryz.ntmps15
  go_wp2
  go_ret
  exact ⟨rfl, below_alloc (Below.refl _ _) _⟩
set_option maxRecDepth 100000 in
set_option maxHeartbeats 3200000 in
theorem rchk_0_true (n : Int) (t : List UInt8) (h : ∀ W, (binOp .neq 23 (.agg #[.int .i64 0, .int .i64 n, .string ⟨t.toArray⟩]) (.agg #[.int .i64 0, .int .i64 0, .string ⟨#[]⟩])).run Tryz.prog W = .ok (.bool false) W) (w : World) : Calls Tryz.prog 15 #[.agg #[.int .i64 0, .int .i64 n, .string ⟨t.toArray⟩]] w fun e w' => e = .returned (.int .i64 0) ∧ Below w.heap.size w w' := by
  go_enter Tryz.func15, Tryz.ntmps15
  go_wp2
  go_ret
  exact ⟨rfl, below_alloc (Below.refl _ _) _⟩
set_option maxRecDepth 100000 in
set_option maxHeartbeats 3200000 in
theorem rchk_0_false (n : Int) (t : List UInt8) (h : ∀ W, (binOp .neq 23 (.agg #[.int .i64 0, .int .i64 n, .string ⟨t.toArray⟩]) (.agg #[.int .i64 0, .int .i64 0, .string ⟨#[]⟩])).run Tryz.prog W = .ok (.bool true) W) (w : World) : Calls Tryz.prog 15 #[.agg #[.int .i64 0, .int .i64 n, .string ⟨t.toArray⟩]] w fun e w' => e = .returned (.int .i64 3) ∧ Below w.heap.size w w' := by
  go_enter Tryz.func15, Tryz.ntmps15
  go_wp2
  go_ret
  exact ⟨rfl, below_alloc (Below.refl _ _) _⟩
set_option maxRecDepth 100000 in
set_option maxHeartbeats 3200000 in
theorem rchk_1_0 (w : World) : Calls Tryz.prog 15 #[.agg #[.int .i64 1, .int .i64 0, .string ⟨#[]⟩]] w fun e w' => e = .returned (.int .i64 0) ∧ Below w.heap.size w w' := by
  go_enter Tryz.func15, Tryz.ntmps15
  go_wp2
  go_ret
  exact ⟨rfl, below_alloc (Below.refl _ _) _⟩
set_option maxRecDepth 100000 in
set_option maxHeartbeats 3200000 in
theorem rchk_1_1 (w : World) : Calls Tryz.prog 15 #[.agg #[.int .i64 1, .int .i64 1, .string ⟨#[]⟩]] w fun e w' => e = .returned (.int .i64 0) ∧ Below w.heap.size w w' := by
  go_enter Tryz.func15, Tryz.ntmps15
  go_wp2
  go_ret
  exact ⟨rfl, below_alloc (Below.refl _ _) _⟩
set_option maxRecDepth 100000 in
set_option maxHeartbeats 3200000 in
theorem rchk_1_n (n : Int) (h0 : (n != 0) = true) (h1 : (n != 1) = true) (g0 : ¬ n = 0) (g1 : ¬ n = 1) (w : World) : Calls Tryz.prog 15 #[.agg #[.int .i64 1, .int .i64 n, .string ⟨#[]⟩]] w fun e w' => e = .returned (.int .i64 3) ∧ Below w.heap.size w w' := by
  go_enter Tryz.func15, Tryz.ntmps15
  go_wp2
  go_ret
  exact ⟨rfl, below_alloc (Below.refl _ _) _⟩
set_option maxRecDepth 100000 in
set_option maxHeartbeats 3200000 in
theorem rchk_1_t (n : Int) (t : List UInt8) (h : ¬ (⟨t.toArray⟩ : ByteArray).toList = []) (he : t.isEmpty = false) (w : World) : Calls Tryz.prog 15 #[.agg #[.int .i64 1, .int .i64 n, .string ⟨t.toArray⟩]] w fun e w' => e = .returned (.int .i64 3) ∧ Below w.heap.size w w' := by
  go_enter Tryz.func15, Tryz.ntmps15
  go_wp2
  go_ret
  exact ⟨rfl, below_alloc (Below.refl _ _) _⟩
set_option maxRecDepth 100000 in
set_option maxHeartbeats 3200000 in
theorem rchk_2_n (n : Int) (w : World) : Calls Tryz.prog 15 #[.agg #[.int .i64 2, .int .i64 n, .string ⟨#[]⟩]] w fun e w' => e = .returned (.int .i64 0) ∧ Below w.heap.size w w' := by
  go_enter Tryz.func15, Tryz.ntmps15
  go_wp2
  go_ret
  exact ⟨rfl, below_alloc (Below.refl _ _) _⟩
set_option maxRecDepth 100000 in
set_option maxHeartbeats 3200000 in
theorem rchk_2_t (n : Int) (t : List UInt8) (h : ¬ (⟨t.toArray⟩ : ByteArray).toList = []) (he : t.isEmpty = false) (w : World) : Calls Tryz.prog 15 #[.agg #[.int .i64 2, .int .i64 n, .string ⟨t.toArray⟩]] w fun e w' => e = .returned (.int .i64 3) ∧ Below w.heap.size w w' := by
  go_enter Tryz.func15, Tryz.ntmps15
  go_wp2
  go_ret
  exact ⟨rfl, below_alloc (Below.refl _ _) _⟩
set_option maxRecDepth 100000 in
set_option maxHeartbeats 3200000 in
theorem rchk_3_0 (t : List UInt8) (w : World) : Calls Tryz.prog 15 #[.agg #[.int .i64 3, .int .i64 0, .string ⟨t.toArray⟩]] w fun e w' => e = .returned (.int .i64 0) ∧ Below w.heap.size w w' := by
  go_enter Tryz.func15, Tryz.ntmps15
  go_wp2
  go_ret
  exact ⟨rfl, below_alloc (Below.refl _ _) _⟩
set_option maxRecDepth 100000 in
set_option maxHeartbeats 3200000 in
theorem rchk_3_n (n : Int) (t : List UInt8) (h0 : (n != 0) = true) (w : World) : Calls Tryz.prog 15 #[.agg #[.int .i64 3, .int .i64 n, .string ⟨t.toArray⟩]] w fun e w' => e = .returned (.int .i64 3) ∧ Below w.heap.size w w' := by
  go_enter Tryz.func15, Tryz.ntmps15
  go_wp2
  go_ret
  exact ⟨rfl, below_alloc (Below.refl _ _) _⟩
set_option maxRecDepth 100000 in
set_option maxHeartbeats 3200000 in
theorem rchk_4_0 (t : List UInt8) (w : World) : Calls Tryz.prog 15 #[.agg #[.int .i64 4, .int .i64 0, .string ⟨t.toArray⟩]] w fun e w' => e = .returned (.int .i64 0) ∧ Below w.heap.size w w' := by
  go_enter Tryz.func15, Tryz.ntmps15
  go_wp2
  go_ret
  exact ⟨rfl, below_alloc (Below.refl _ _) _⟩
set_option maxRecDepth 100000 in
set_option maxHeartbeats 3200000 in
theorem rchk_4_n (n : Int) (t : List UInt8) (h0 : (n != 0) = true) (w : World) : Calls Tryz.prog 15 #[.agg #[.int .i64 4, .int .i64 n, .string ⟨t.toArray⟩]] w fun e w' => e = .returned (.int .i64 3) ∧ Below w.heap.size w w' := by
  go_enter Tryz.func15, Tryz.ntmps15
  go_wp2
  go_ret
  exact ⟨rfl, below_alloc (Below.refl _ _) _⟩
/-- quarryref01.Check. -/
theorem rchk_calls (v : Vl) (w : World) : Calls Tryz.prog 15 #[vC v] w fun e w' => e = .returned (.int .i64 (chkV v)) ∧ Below w.heap.size w w' := by
  obtain ⟨k, n, t⟩ := v
  unfold vC chkV
  simp only
  by_cases h0 : k < 0
  · rw [if_pos h0]; exact rchk_lo k n t h0 w
  rw [if_neg h0]
  by_cases h4 : 4 < k
  · rw [if_pos h4]; exact rchk_hi k n t h0 h4 w
  rw [if_neg h4]
  rcases (show k = 0 ∨ k = 1 ∨ k = 2 ∨ k = 3 ∨ k = 4 by omega) with rfl | rfl | rfl | rfl | rfl
  · have hq : ∀ W, (binOp .neq 23 (.agg #[.int .i64 0, .int .i64 n, .string ⟨t.toArray⟩]) (.agg #[.int .i64 0, .int .i64 0, .string ⟨#[]⟩])).run Tryz.prog W = .ok (.bool (!(eqV ⟨0, n, t⟩ vNull))) W := fun W => by
      have h : (binOp .neq 23 (.agg #[.int .i64 0, .int .i64 n, .string ⟨t.toArray⟩]) (.agg #[.int .i64 0, .int .i64 0, .string ⟨([] : List UInt8).toArray⟩])).run Tryz.prog W = .ok (.bool (!((0 : Int) == 0 && (n == 0 && ((⟨t.toArray⟩ : ByteArray).toList == (⟨([] : List UInt8).toArray⟩ : ByteArray).toList))))) W := Eqs.op_neq fun d => val_in d W _ _ _ _ _ _
      rw [tl_eq] at h
      exact h
    rw [if_pos rfl]
    by_cases hn : n = 0 ∧ t = []
    · rw [if_pos hn]
      obtain ⟨rfl, rfl⟩ := hn
      exact rchk_0_true 0 [] (fun W => hq W) w
    · rw [if_neg hn]
      have he : eqV ⟨0, n, t⟩ vNull = false := by
        cases h : eqV ⟨0, n, t⟩ vNull with
        | false => rfl
        | true =>
          have := vl_eq h
          injection this with _ h1 h2
          exact absurd ⟨h1, h2⟩ hn
      rw [he] at hq
      exact rchk_0_false n t (fun W => hq W) w
  · rw [if_neg (by decide), if_pos rfl]
    by_cases ht : t = []
    · subst ht
      by_cases hn0 : n = 0
      · subst hn0; rw [if_pos ⟨rfl, .inl rfl⟩]; exact rchk_1_0 w
      · by_cases hn1 : n = 1
        · subst hn1; rw [if_pos ⟨rfl, .inr rfl⟩]; exact rchk_1_1 w
        · rw [if_neg (by rintro ⟨_, h | h⟩; exact hn0 h; exact hn1 h)]
          exact rchk_1_n n (by simpa using hn0) (by simpa using hn1) hn0 hn1 w
    · rw [if_neg (fun h => ht h.1)]
      exact rchk_1_t n t (str_ne ht) (by cases t; exact absurd rfl ht; rfl) w
  · rw [if_neg (by decide), if_neg (by decide), if_pos rfl]
    by_cases ht : t = []
    · subst ht; rw [if_pos rfl]; exact rchk_2_n n w
    · rw [if_neg ht]; exact rchk_2_t n t (str_ne ht) (by cases t; exact absurd rfl ht; rfl) w
  · rw [if_neg (by decide), if_neg (by decide), if_neg (by decide)]
    by_cases hn0 : n = 0
    · subst hn0; rw [if_pos rfl]; exact rchk_3_0 t w
    · rw [if_neg hn0]; exact rchk_3_n n t (by simpa using hn0) w
  · rw [if_neg (by decide), if_neg (by decide), if_neg (by decide)]
    by_cases hn0 : n = 0
    · subst hn0; rw [if_pos rfl]; exact rchk_4_0 t w
    · rw [if_neg hn0]; exact rchk_4_n n t (by simpa using hn0) w
set_option maxRecDepth 100000 in
set_option maxHeartbeats 6400000 in
/-- quarrylaw16.RightRow. -/
theorem row_calls (vs : List Vl) (hn : vs.length ≤ 1048576) (A : Option Addr) (c : Nat) (w : World) (hv : ValSl w A vs) :
    Calls Tryz.prog 8 #[.slice A vs.length c] w fun e w' => e = .returned (.bool (vs.all fun v => chkV v == 0)) ∧ Below w.heap.size w w' := by
  have HV := Asd.mk hv
  generalize hm : vs.length = m at hn ⊢
  have HM := Asd.mk hm
  clear hv hm
  go_enter Tryz.func8, Tryz.ntmps8
  go_wp2
  go_loopw [3] (fun i wr => ∃ k : Nat, k ≤ m ∧ i = .int .i64 (k : Int) ∧ Asd (Below w.heap.size w wr) ∧ Asd ((vs.all fun v => chkV v == 0) = ((vs.drop k).all fun v => chkV v == 0))) (fun i _ => m - (intOf i).toNat)
  case atStart => exact ⟨0, by omega, rfl, ⟨Below.refl _ _⟩, ⟨rfl⟩⟩
  case round =>
    obtain ⟨k, hk, rfl, HB, HQ⟩ := hrel
    by_cases hlt : k < m
    · have hkv : k < vs.length := by rw [HM.out]; exact hlt
      obtain ⟨g, o, rfl, hv⟩ := (HV.out.below HB.out) (by omega)
      obtain ⟨x0, x1, x2⟩ := hv k hkv
      have HD : Asd (vs.drop k = vs[k] :: vs.drop (k + 1)) := Asd.mk (List.drop_eq_getElem_cons hkv)
      rw [HD.out, List.all_cons] at HQ
      generalize vs[k] = v at x0 x1 x2 HQ
      have HC := Asd.mk (rchk_calls v)
      clear HD hv hkv
      have hgl := World.block_lt_of_cell? wr _ x0
      have hk0 : (0 : Int) ≤ (k : Int) := by omega
      go_wp2_with fail
      refine (HC.out _).mono ?_
      rintro e w2 ⟨rfl, hb2⟩
      have HB2 : Asd (Below w.heap.size w w2) := Asd.mk (HB.out.trans (hb2.mono HB.out.size))
      clear x0 x1 x2 hb2
      cases hc : (chkV v == 0) with
      | true =>
        have hcn : (chkV v != 0) = false := by rw [beq_iff_eq] at hc; rw [hc]; rfl
        have HQ2 : Asd ((vs.all fun v => chkV v == 0) = ((vs.drop (k + 1)).all fun v => chkV v == 0)) := Asd.mk (by rw [HQ.out, hc, Bool.true_and])
        clear hc
        generalize chkV v = q at hcn ⊢
        go_wp2
        go_roundw
        case rel => exact ⟨k + 1, by omega, by go_num, HB2, HQ2⟩
        case measure => simp [intOf]; omega
      | false =>
        have hcn : (chkV v != 0) = true := by rw [beq_eq_false_iff_ne] at hc; rw [bne_iff_ne]; exact hc
        have HQ2 : Asd ((vs.all fun v => chkV v == 0) = false) := Asd.mk (by rw [HQ.out, hc]; rfl)
        clear hc
        generalize chkV v = q at hcn ⊢
        go_wp2
        go_ret
        exact ⟨ret_eq (by rw [HQ2.out]; rfl), HB2.out⟩
    · have HS : Asd ((vs.all fun v => chkV v == 0) = true) := Asd.mk (by rw [HQ.out, List.drop_of_length_le (by rw [HM.out]; omega)]; rfl)
      clear HQ
      go_wp2
      go_ret
      exact ⟨ret_eq (by rw [HS.out]; rfl), HB.out⟩
mutual
/-- Are all values within right? -/
def rightX : Ex → Bool
  | .mk _ _ v _ _ _ _ a => chkV v == 0 && rightL a
def rightL : List Ex → Bool
  | [] => true
  | x :: xs => rightX x && rightL xs
end
mutual
/-- How many expressions there are within. -/
def sizeX : Ex → Nat
  | .mk _ _ _ _ _ _ _ a => 1 + sizeL a
def sizeL : List Ex → Nat
  | [] => 0
  | x :: xs => sizeX x + sizeL xs
end
theorem rightX_eq (x : Ex) : rightX x = (chkV x.v == 0 && rightL x.args) := by cases x; rw [rightX]; rfl
theorem sizeX_eq (x : Ex) : sizeX x = 1 + sizeL x.args := by cases x; rw [sizeX]; rfl
mutual
theorem sizeX_le : ∀ x : Ex, sizeX x ≤ bulkX x
  | .mk k o v t n c ty a => by rw [sizeX, bulkX]; have := sizeL_le a; omega
theorem sizeL_le : ∀ l : List Ex, sizeL l ≤ bulkXL l
  | [] => by rw [sizeL, bulkXL]; omega
  | x :: xs => by rw [sizeL, bulkXL]; exact Nat.add_le_add (sizeX_le x) (sizeL_le xs)
end
mutual
theorem rvX_of : ∀ x : Ex, rightX x = true → rngX x → bulkX x ≤ 1048576 → rvX x
  | .mk k o v t n c ty a, h, hr, hb => by
    rw [rightX, Bool.and_eq_true, beq_iff_eq] at h
    rw [rngX] at hr
    rw [bulkX] at hb
    rw [rvX]
    exact ⟨rv_of h.1 hr.1 (by have : reachBytes = 140737488351232 := rfl; omega), rvXL_of a h.2 hr.2 (by omega)⟩
theorem rvXL_of : ∀ l : List Ex, rightL l = true → rngXL l → bulkXL l ≤ 1048576 → rvXL l
  | [], _, _, _ => by rw [rvXL]; trivial
  | x :: xs, h, hr, hb => by
    rw [rightL, Bool.and_eq_true] at h
    rw [rngXL] at hr
    rw [bulkXL] at hb
    rw [rvXL]
    exact ⟨rvX_of x h.1 hr.1 (by omega), rvXL_of xs h.2 hr.2 (by omega)⟩
end
theorem rightL_drop {l : List Ex} {k : Nat} (h : k < l.length) : rightL (l.drop k) = (rightX l[k] && rightL (l.drop (k + 1))) := by rw [List.drop_eq_getElem_cons h, rightL]
theorem sizeL_drop {l : List Ex} {k : Nat} (h : k < l.length) : sizeL (l.drop k) = sizeX l[k] + sizeL (l.drop (k + 1)) := by rw [List.drop_eq_getElem_cons h, sizeL]
def RightsOK (x : Ex) : Prop := ∀ (Q : Nat → Prop) (A : Option Addr) (c : Nat) (w : World), Held Q w x.args (.slice A x.args.length c) → Calls Tryz.prog 7 #[exV x (.slice A x.args.length c)] w fun e w' => e = .returned (.bool (rightX x)) ∧ Below w.heap.size w w'
set_option maxRecDepth 100000 in
set_option maxHeartbeats 12800000 in
theorem rights_step (x : Ex) (hn : x.args.length ≤ 1048576) (hsub : ∀ i (h : i < x.args.length), RightsOK x.args[i]) : RightsOK x := by
  intro Q A c w hheld
  have HH := Asd.mk hheld
  have HSUB := Asd.mk hsub
  have HE := Asd.mk (rightX_eq x)
  have HC := Asd.mk (rchk_calls x.v)
  have HX := Asd.mk (blk_new w (xK x (.slice A x.args.length c)))
  have HB : Asd (Below w.heap.size w (w.alloc (xK x (.slice A x.args.length c)))) := Asd.mk (below_alloc (Below.refl _ _) _)
  clear hheld hsub
  generalize hm : x.args.length = m at hn HX HB HH ⊢
  have HM := Asd.mk hm
  clear hm
  unfold exV
  go_enter Tryz.func7, Tryz.ntmps7
  go_upto_region 1 with fail
  generalize w.alloc _ = w1 at HX HB ⊢
  obtain ⟨e0, e1, e2, e3, e4, e5, e6, e7, e8, e9⟩ := ex_cells (x := x) HX.out
  go_wp2_with fail
  refine (HC.out _).mono ?_
  rintro e w2 ⟨rfl, hb2⟩
  have HB2 : Asd (Below w.heap.size w w2) := Asd.mk (HB.out.trans (hb2.mono HB.out.size))
  have HX2 := Asd.mk (blk_below hb2 HX.out)
  clear e0 e1 e2 e3 e4 e5 e6 e7 e8 e9 hb2 HC
  have e9 : w2.cell? ⟨w.heap.size, 9, none⟩ = some (.slice A m c) := (blk_cell HX2.out 9).trans rfl
  cases hc : (chkV x.v == 0) with
  | false =>
    have hcn : (chkV x.v != 0) = true := by rw [beq_eq_false_iff_ne] at hc; rw [bne_iff_ne]; exact hc
    have HF : Asd (rightX x = false) := Asd.mk (by rw [HE.out, hc]; rfl)
    clear hc
    generalize chkV x.v = q at hcn ⊢
    go_wp2
    go_ret
    exact ⟨ret_eq (by rw [HF.out]; rfl), HB2.out⟩
  | true =>
    have hcn : (chkV x.v != 0) = false := by rw [beq_iff_eq] at hc; rw [hc]; rfl
    rw [hc, Bool.true_and] at HE
    clear hc
    generalize chkV x.v = q at hcn ⊢
    have HB0 := HB2
    go_wp2
    go_loopw [3] (fun i wr => ∃ k : Nat, k ≤ m ∧ i = .int .i64 (k : Int) ∧ Asd (Below w.heap.size w wr) ∧ Asd (Below w2.heap.size w2 wr) ∧ Asd (rightX x = rightL (x.args.drop k))) (fun i _ => m - (intOf i).toNat)
    case atStart => exact ⟨0, by omega, rfl, ⟨HB0.out⟩, ⟨Below.refl _ _⟩, ⟨HE.out⟩⟩
    case round =>
      obtain ⟨k, hk, rfl, HBR, HBR2, HQ⟩ := hrel
      clear e9
      have e9 : wr.cell? ⟨w.heap.size, 9, none⟩ = some (.slice A m c) := (blk_cell (blk_below HBR2.out HX2.out) 9).trans rfl
      by_cases hlt : k < m
      · have hkx : k < x.args.length := by rw [HM.out]; exact hlt
        obtain ⟨g, o, A1, n1, c1, he1, hr1, hh1⟩ := held_at (held_below HH.out HBR.out) k hkx
        subst he1
        obtain ⟨A1', c1', he2⟩ := held_len hh1
        have hn1 : n1 = x.args[k].args.length := by
          injection he2
        subst hn1
        clear he2
        have HSK := Asd.mk (HSUB.out k hkx)
        rw [rightL_drop hkx] at HQ
        generalize x.args[k] = a at hr1 hh1 HSK HQ
        have HHA := Asd.mk hh1
        clear hkx
        have hgl := World.block_lt_of_cell? wr _ (hr1 0 (by omega))
        have hk0 : (0 : Int) ≤ (k : Int) := by omega
        have x0 : wr.cell? ⟨g, o + k * 10, none⟩ = some (.int .i64 a.kind) := hr1 0 (by omega)
        have x1 : wr.cell? ⟨g, o + k * 10 + 1, none⟩ = some (.int .i64 a.op) := hr1 1 (by omega)
        have x2 : wr.cell? ⟨g, o + k * 10 + 2, none⟩ = some (.int .i64 a.v.kind) := hr1 2 (by omega)
        have x3 : wr.cell? ⟨g, o + k * 10 + 3, none⟩ = some (.int .i64 a.v.int) := hr1 3 (by omega)
        have x4 : wr.cell? ⟨g, o + k * 10 + 4, none⟩ = some (.string ⟨a.v.text.toArray⟩) := hr1 4 (by omega)
        have x5 : wr.cell? ⟨g, o + k * 10 + 5, none⟩ = some (.string ⟨a.table.toArray⟩) := hr1 5 (by omega)
        have x6 : wr.cell? ⟨g, o + k * 10 + 6, none⟩ = some (.string ⟨a.name.toArray⟩) := hr1 6 (by omega)
        have x7 : wr.cell? ⟨g, o + k * 10 + 7, none⟩ = some (.int .i64 a.col) := hr1 7 (by omega)
        have x8 : wr.cell? ⟨g, o + k * 10 + 8, none⟩ = some (.int .i64 a.ty) := hr1 8 (by omega)
        have x9 : wr.cell? ⟨g, o + k * 10 + 9, none⟩ = some (.slice A1 a.args.length c1) := hr1 9 (by omega)
        clear hr1 hh1
        go_wp2_with fail
        refine (HSK.out Q A1 c1 wr HHA.out).mono ?_
        rintro e w5 ⟨rfl, hb5⟩
        have HB5 : Asd (Below w.heap.size w w5) := Asd.mk (HBR.out.trans (hb5.mono HBR.out.size))
        have HB52 : Asd (Below w2.heap.size w2 w5) := Asd.mk (HBR2.out.trans (hb5.mono HBR2.out.size))
        clear x0 x1 x2 x3 x4 x5 x6 x7 x8 x9 e9 hb5
        cases hr : rightX a with
        | true =>
          have HQ2 : Asd (rightX x = rightL (x.args.drop (k + 1))) := Asd.mk (by rw [HQ.out, hr, Bool.true_and])
          clear hr
          go_wp2
          go_roundw
          case rel => exact ⟨k + 1, by omega, by go_num, HB5, HB52, HQ2⟩
          case measure => simp [intOf]; omega
        | false =>
          have HQ2 : Asd (rightX x = false) := Asd.mk (by rw [HQ.out, hr]; rfl)
          clear hr
          go_wp2
          go_ret
          exact ⟨ret_eq (by rw [HQ2.out]; rfl), HB5.out⟩
      · have HS : Asd (rightX x = true) := Asd.mk (by rw [HQ.out, List.drop_of_length_le (by rw [HM.out]; omega)]; rfl)
        clear HQ
        go_wp2
        go_ret
        exact ⟨ret_eq (by rw [HS.out]; rfl), HBR.out⟩
/-- quarrylaw16.Rights. -/
theorem rights_ok (x : Ex) (hf : fewE x) : RightsOK x :=
  rights_step x (fewE_args hf).1 fun i h => rights_ok x.args[i] (fewL_mem (fewE_args hf).2 _ (List.getElem_mem h))
termination_by SizeOf.sizeOf x
decreasing_by exact args_lt x i h
end Go.Proofs.YtbeeaikilcnpgaaGreatDoor.Exp

/- quarryref13.Size. -/
set_option linter.unusedVariables false
set_option linter.unusedSimpArgs false
namespace Go.Proofs.YtbeeaikilcnpgaaGreatDoor.Exp
open Go.RowKit Go.Proofs.YtbeeaikilcnpgaaGreatDoor.Base Go.Proofs.YtbeeaikilcnpgaaGreatDoor.App Go.Proofs.YtbeeaikilcnpgaaGreatDoor.Byt

def SizeOK (x : Ex) : Prop := ∀ (Q : Nat → Prop) (A : Option Addr) (c : Nat) (w : World), Held Q w x.args (.slice A x.args.length c) → Calls Tryz.prog 9 #[exV x (.slice A x.args.length c)] w fun e w' => e = .returned (.int .i64 ((sizeX x : Nat) : Int)) ∧ Below w.heap.size w w'
set_option maxRecDepth 100000 in
set_option maxHeartbeats 12800000 in
theorem size_step (x : Ex) (hn : x.args.length ≤ 1048576) (hsz : sizeX x ≤ 1048576) (hsub : ∀ i (h : i < x.args.length), SizeOK x.args[i]) : SizeOK x := by
  intro Q A c w hheld
  have HH := Asd.mk hheld
  have HSUB := Asd.mk hsub
  have HE := Asd.mk (sizeX_eq x)
  have HX := Asd.mk (blk_new w (xK x (.slice A x.args.length c)))
  have HB : Asd (Below w.heap.size w (w.alloc (xK x (.slice A x.args.length c)))) := Asd.mk (below_alloc (Below.refl _ _) _)
  clear hheld hsub
  generalize hm : x.args.length = m at hn HX HB HH ⊢
  have HM := Asd.mk hm
  clear hm
  generalize hz : sizeX x = z at hsz HE ⊢
  clear hz
  have HSZ := Asd.mk hsz
  clear hsz
  unfold exV
  go_enter Tryz.func9, Tryz.ntmps9
  go_upto_region 1 with fail
  generalize w.alloc _ = w1 at HX HB ⊢
  have e9 : w1.cell? ⟨w.heap.size, 9, none⟩ = some (.slice A m c) := (blk_cell HX.out 9).trans rfl
  have HB0 := HB
  go_wp2
  go_loopw [3, 4] (fun s i wr => ∃ (k p : Nat), k ≤ m ∧ i = .int .i64 (k : Int) ∧ s = .int .i64 (p : Int) ∧ Asd (Below w.heap.size w wr) ∧ Asd (Below w1.heap.size w1 wr) ∧ Asd (z = p + sizeL (x.args.drop k))) (fun _ i _ => m - (intOf i).toNat)
  case atStart => exact ⟨0, 1, by omega, rfl, rfl, ⟨HB0.out⟩, ⟨Below.refl _ _⟩, ⟨HE.out⟩⟩
  case round =>
    obtain ⟨k, p, hk, rfl, rfl, HBR, HBR2, HQ⟩ := hrel
    clear e9
    have e9 : wr.cell? ⟨w.heap.size, 9, none⟩ = some (.slice A m c) := (blk_cell (blk_below HBR2.out HX.out) 9).trans rfl
    by_cases hlt : k < m
    · have hkx : k < x.args.length := by rw [HM.out]; exact hlt
      obtain ⟨g, o, A1, n1, c1, he1, hr1, hh1⟩ := held_at (held_below HH.out HBR.out) k hkx
      subst he1
      obtain ⟨A1', c1', he2⟩ := held_len hh1
      have hn1 : n1 = x.args[k].args.length := by
        injection he2
      subst hn1
      clear he2
      have HSK := Asd.mk (HSUB.out k hkx)
      rw [sizeL_drop hkx] at HQ
      generalize x.args[k] = a at hr1 hh1 HSK HQ
      have HHA := Asd.mk hh1
      clear hkx
      have hgl := World.block_lt_of_cell? wr _ (hr1 0 (by omega))
      have hk0 : (0 : Int) ≤ (k : Int) := by omega
      have x0 : wr.cell? ⟨g, o + k * 10, none⟩ = some (.int .i64 a.kind) := hr1 0 (by omega)
      have x1 : wr.cell? ⟨g, o + k * 10 + 1, none⟩ = some (.int .i64 a.op) := hr1 1 (by omega)
      have x2 : wr.cell? ⟨g, o + k * 10 + 2, none⟩ = some (.int .i64 a.v.kind) := hr1 2 (by omega)
      have x3 : wr.cell? ⟨g, o + k * 10 + 3, none⟩ = some (.int .i64 a.v.int) := hr1 3 (by omega)
      have x4 : wr.cell? ⟨g, o + k * 10 + 4, none⟩ = some (.string ⟨a.v.text.toArray⟩) := hr1 4 (by omega)
      have x5 : wr.cell? ⟨g, o + k * 10 + 5, none⟩ = some (.string ⟨a.table.toArray⟩) := hr1 5 (by omega)
      have x6 : wr.cell? ⟨g, o + k * 10 + 6, none⟩ = some (.string ⟨a.name.toArray⟩) := hr1 6 (by omega)
      have x7 : wr.cell? ⟨g, o + k * 10 + 7, none⟩ = some (.int .i64 a.col) := hr1 7 (by omega)
      have x8 : wr.cell? ⟨g, o + k * 10 + 8, none⟩ = some (.int .i64 a.ty) := hr1 8 (by omega)
      have x9 : wr.cell? ⟨g, o + k * 10 + 9, none⟩ = some (.slice A1 a.args.length c1) := hr1 9 (by omega)
      clear hr1 hh1
      go_wp2_with fail
      refine (HSK.out Q A1 c1 wr HHA.out).mono ?_
      rintro e w5 ⟨rfl, hb5⟩
      have HB5 : Asd (Below w.heap.size w w5) := Asd.mk (HBR.out.trans (hb5.mono HBR.out.size))
      have HB52 : Asd (Below w1.heap.size w1 w5) := Asd.mk (HBR2.out.trans (hb5.mono HBR2.out.size))
      clear x0 x1 x2 x3 x4 x5 x6 x7 x8 x9 e9 hb5
      have hpq : p + sizeX a ≤ 1048576 := by have := HQ.out; have := HSZ.out; omega
      have HQ2 : Asd (z = (p + sizeX a) + sizeL (x.args.drop (k + 1))) := Asd.mk (by rw [HQ.out]; omega)
      generalize sizeX a = q at hpq HQ2 ⊢
      go_wp2
      go_roundw
      case rel => exact ⟨k + 1, p + q, by omega, by go_num, by go_num, HB5, HB52, HQ2⟩
      case measure => simp [intOf]; omega
    · have HS : Asd (z = p) := Asd.mk (by rw [HQ.out, List.drop_of_length_le (by rw [HM.out]; omega), sizeL]; rfl)
      clear HQ
      go_wp2
      go_ret
      exact ⟨ret_eq (by rw [HS.out]; rfl), HBR.out⟩
/-- quarryref13.Size. -/
theorem size_ok (x : Ex) (hf : bulkX x ≤ 1048576) : SizeOK x :=
  size_step x (fewE_args (few_of x hf)).1 (Nat.le_trans (sizeX_le x) hf) fun i h => size_ok x.args[i] (by
    have h1 := bulkXL_mem (List.getElem_mem h)
    rw [bulkX_eq] at hf
    omega)
termination_by SizeOf.sizeOf x
decreasing_by exact args_lt x i h
end Go.Proofs.YtbeeaikilcnpgaaGreatDoor.Exp

/- quarrylaw16.cols, twoCols, anyCol. -/
set_option linter.unusedVariables false
set_option linter.unusedSimpArgs false
namespace Go.Proofs.YtbeeaikilcnpgaaGreatDoor.Exp
open Go.RowKit Go.Proofs.YtbeeaikilcnpgaaGreatDoor.Base Go.Proofs.YtbeeaikilcnpgaaGreatDoor.App Go.Proofs.YtbeeaikilcnpgaaGreatDoor.Byt

theorem hasColL_drop {l : List Ex} {k : Nat} (h : k < l.length) : hasColL (l.drop k) = (hasCol l[k] || hasColL (l.drop (k + 1))) := by rw [List.drop_eq_getElem_cons h, hasColL]
def ColsOK (x : Ex) : Prop := ∀ (Q : Nat → Prop) (A : Option Addr) (c : Nat) (w : World), Held Q w x.args (.slice A x.args.length c) → Calls Tryz.prog 10 #[exV x (.slice A x.args.length c)] w fun e w' => e = .returned (.bool (hasCol x)) ∧ Below w.heap.size w w'
set_option maxRecDepth 100000 in
set_option maxHeartbeats 12800000 in
theorem cols_step (x : Ex) (hn : x.args.length ≤ 1048576) (hsub : ∀ i (h : i < x.args.length), ColsOK x.args[i]) : ColsOK x := by
  intro Q A c w hheld
  have HH := Asd.mk hheld
  have HSUB := Asd.mk hsub
  have HE := Asd.mk (hasCol_eq x)
  have HX := Asd.mk (blk_new w (xK x (.slice A x.args.length c)))
  have HB : Asd (Below w.heap.size w (w.alloc (xK x (.slice A x.args.length c)))) := Asd.mk (below_alloc (Below.refl _ _) _)
  clear hheld hsub
  generalize hm : x.args.length = m at hn HX HB HH ⊢
  have HM := Asd.mk hm
  clear hm
  unfold exV
  go_enter Tryz.func10, Tryz.ntmps10
  go_upto_region 1 with fail
  generalize w.alloc _ = w1 at HX HB ⊢
  have e0 : w1.cell? ⟨w.heap.size, 0, none⟩ = some (.int .i64 x.kind) := (blk_cell HX.out 0).trans rfl
  have e9 : w1.cell? ⟨w.heap.size, 9, none⟩ = some (.slice A m c) := (blk_cell HX.out 9).trans rfl
  cases hc : (x.kind == 2) with
  | true =>
    have HF : Asd (hasCol x = true) := Asd.mk (by rw [HE.out, hc]; rfl)
    go_wp2
    go_ret
    exact ⟨ret_eq (by rw [HF.out]; rfl), HB.out⟩
  | false =>
    rw [hc, Bool.false_or] at HE
    have HB0 := HB
    go_wp2
    go_loopw [3] (fun i wr => ∃ k : Nat, k ≤ m ∧ i = .int .i64 (k : Int) ∧ Asd (Below w.heap.size w wr) ∧ Asd (Below w1.heap.size w1 wr) ∧ Asd (hasCol x = hasColL (x.args.drop k))) (fun i _ => m - (intOf i).toNat)
    case atStart => exact ⟨0, by omega, rfl, ⟨HB0.out⟩, ⟨Below.refl _ _⟩, ⟨HE.out⟩⟩
    case round =>
      obtain ⟨k, hk, rfl, HBR, HBR2, HQ⟩ := hrel
      clear e9 e0
      have e9 : wr.cell? ⟨w.heap.size, 9, none⟩ = some (.slice A m c) := (blk_cell (blk_below HBR2.out HX.out) 9).trans rfl
      by_cases hlt : k < m
      · have hkx : k < x.args.length := by rw [HM.out]; exact hlt
        obtain ⟨g, o, A1, n1, c1, he1, hr1, hh1⟩ := held_at (held_below HH.out HBR.out) k hkx
        subst he1
        obtain ⟨A1', c1', he2⟩ := held_len hh1
        have hn1 : n1 = x.args[k].args.length := by
          injection he2
        subst hn1
        clear he2
        have HSK := Asd.mk (HSUB.out k hkx)
        rw [hasColL_drop hkx] at HQ
        generalize x.args[k] = a at hr1 hh1 HSK HQ
        have HHA := Asd.mk hh1
        clear hkx
        have hgl := World.block_lt_of_cell? wr _ (hr1 0 (by omega))
        have hk0 : (0 : Int) ≤ (k : Int) := by omega
        have x0 : wr.cell? ⟨g, o + k * 10, none⟩ = some (.int .i64 a.kind) := hr1 0 (by omega)
        have x1 : wr.cell? ⟨g, o + k * 10 + 1, none⟩ = some (.int .i64 a.op) := hr1 1 (by omega)
        have x2 : wr.cell? ⟨g, o + k * 10 + 2, none⟩ = some (.int .i64 a.v.kind) := hr1 2 (by omega)
        have x3 : wr.cell? ⟨g, o + k * 10 + 3, none⟩ = some (.int .i64 a.v.int) := hr1 3 (by omega)
        have x4 : wr.cell? ⟨g, o + k * 10 + 4, none⟩ = some (.string ⟨a.v.text.toArray⟩) := hr1 4 (by omega)
        have x5 : wr.cell? ⟨g, o + k * 10 + 5, none⟩ = some (.string ⟨a.table.toArray⟩) := hr1 5 (by omega)
        have x6 : wr.cell? ⟨g, o + k * 10 + 6, none⟩ = some (.string ⟨a.name.toArray⟩) := hr1 6 (by omega)
        have x7 : wr.cell? ⟨g, o + k * 10 + 7, none⟩ = some (.int .i64 a.col) := hr1 7 (by omega)
        have x8 : wr.cell? ⟨g, o + k * 10 + 8, none⟩ = some (.int .i64 a.ty) := hr1 8 (by omega)
        have x9 : wr.cell? ⟨g, o + k * 10 + 9, none⟩ = some (.slice A1 a.args.length c1) := hr1 9 (by omega)
        clear hr1 hh1
        go_wp2_with fail
        refine (HSK.out Q A1 c1 wr HHA.out).mono ?_
        rintro e w5 ⟨rfl, hb5⟩
        have HB5 : Asd (Below w.heap.size w w5) := Asd.mk (HBR.out.trans (hb5.mono HBR.out.size))
        have HB52 : Asd (Below w1.heap.size w1 w5) := Asd.mk (HBR2.out.trans (hb5.mono HBR2.out.size))
        clear x0 x1 x2 x3 x4 x5 x6 x7 x8 x9 e9 hb5
        cases hr : hasCol a with
        | false =>
          have HQ2 : Asd (hasCol x = hasColL (x.args.drop (k + 1))) := Asd.mk (by rw [HQ.out, hr, Bool.false_or])
          clear hr
          go_wp2
          go_roundw
          case rel => exact ⟨k + 1, by omega, by go_num, HB5, HB52, HQ2⟩
          case measure => simp [intOf]; omega
        | true =>
          have HQ2 : Asd (hasCol x = true) := Asd.mk (by rw [HQ.out, hr]; rfl)
          clear hr
          go_wp2
          go_ret
          exact ⟨ret_eq (by rw [HQ2.out]; rfl), HB5.out⟩
      · have HS : Asd (hasCol x = false) := Asd.mk (by rw [HQ.out, List.drop_of_length_le (by rw [HM.out]; omega)]; rfl)
        clear HQ
        go_wp2
        go_ret
        exact ⟨ret_eq (by rw [HS.out]; rfl), HBR.out⟩
/-- quarrylaw16.cols. -/
theorem cols_ok (x : Ex) (hf : fewE x) : ColsOK x :=
  cols_step x (fewE_args hf).1 fun i h => cols_ok x.args[i] (fewL_mem (fewE_args hf).2 _ (List.getElem_mem h))
termination_by SizeOf.sizeOf x
decreasing_by exact args_lt x i h
def TwoOK (x : Ex) : Prop := ∀ (Q : Nat → Prop) (A : Option Addr) (c : Nat) (w : World), Held Q w x.args (.slice A x.args.length c) → Calls Tryz.prog 12 #[exV x (.slice A x.args.length c)] w fun e w' => e = .returned (.bool (hasCol x)) ∧ Below w.heap.size w w'
set_option maxRecDepth 100000 in
set_option maxHeartbeats 12800000 in
theorem any_calls (xs : List Ex) (hn : xs.length ≤ 1048576) (hsub : ∀ i (h : i < xs.length), TwoOK xs[i]) (Q : Nat → Prop) (A : Option Addr) (c : Nat) (w : World) (hheld : Held Q w xs (.slice A xs.length c)) :
    Calls Tryz.prog 25 #[.slice A xs.length c] w fun e w' => e = .returned (.bool (hasColL xs)) ∧ Below w.heap.size w w' := by
  have HH := Asd.mk hheld
  have HSUB := Asd.mk hsub
  clear hheld hsub
  generalize hm : xs.length = m at hn HH ⊢
  have HM := Asd.mk hm
  clear hm
  go_enter Tryz.func25, Tryz.ntmps25
  go_wp2
  go_loopw [3] (fun i wr => ∃ k : Nat, k ≤ m ∧ i = .int .i64 (k : Int) ∧ Asd (Below w.heap.size w wr) ∧ Asd (hasColL xs = hasColL (xs.drop k))) (fun i _ => m - (intOf i).toNat)
  case atStart => exact ⟨0, by omega, rfl, ⟨Below.refl _ _⟩, ⟨rfl⟩⟩
  case round =>
    obtain ⟨k, hk, rfl, HBR, HQ⟩ := hrel
    by_cases hlt : k < m
    · have hkx : k < xs.length := by rw [HM.out]; exact hlt
      obtain ⟨g, o, A1, n1, c1, he1, hr1, hh1⟩ := held_at (held_below HH.out HBR.out) k hkx
      subst he1
      obtain ⟨A1', c1', he2⟩ := held_len hh1
      have hn1 : n1 = xs[k].args.length := by
        injection he2
      subst hn1
      clear he2
      have HSK := Asd.mk (HSUB.out k hkx)
      rw [hasColL_drop hkx] at HQ
      generalize xs[k] = a at hr1 hh1 HSK HQ
      have HHA := Asd.mk hh1
      clear hkx
      have hgl := World.block_lt_of_cell? wr _ (hr1 0 (by omega))
      have hk0 : (0 : Int) ≤ (k : Int) := by omega
      have x0 : wr.cell? ⟨g, o + k * 10, none⟩ = some (.int .i64 a.kind) := hr1 0 (by omega)
      have x1 : wr.cell? ⟨g, o + k * 10 + 1, none⟩ = some (.int .i64 a.op) := hr1 1 (by omega)
      have x2 : wr.cell? ⟨g, o + k * 10 + 2, none⟩ = some (.int .i64 a.v.kind) := hr1 2 (by omega)
      have x3 : wr.cell? ⟨g, o + k * 10 + 3, none⟩ = some (.int .i64 a.v.int) := hr1 3 (by omega)
      have x4 : wr.cell? ⟨g, o + k * 10 + 4, none⟩ = some (.string ⟨a.v.text.toArray⟩) := hr1 4 (by omega)
      have x5 : wr.cell? ⟨g, o + k * 10 + 5, none⟩ = some (.string ⟨a.table.toArray⟩) := hr1 5 (by omega)
      have x6 : wr.cell? ⟨g, o + k * 10 + 6, none⟩ = some (.string ⟨a.name.toArray⟩) := hr1 6 (by omega)
      have x7 : wr.cell? ⟨g, o + k * 10 + 7, none⟩ = some (.int .i64 a.col) := hr1 7 (by omega)
      have x8 : wr.cell? ⟨g, o + k * 10 + 8, none⟩ = some (.int .i64 a.ty) := hr1 8 (by omega)
      have x9 : wr.cell? ⟨g, o + k * 10 + 9, none⟩ = some (.slice A1 a.args.length c1) := hr1 9 (by omega)
      clear hr1 hh1
      go_wp2_with fail
      refine (HSK.out Q A1 c1 wr HHA.out).mono ?_
      rintro e w5 ⟨rfl, hb5⟩
      have HB5 : Asd (Below w.heap.size w w5) := Asd.mk (HBR.out.trans (hb5.mono HBR.out.size))
      clear x0 x1 x2 x3 x4 x5 x6 x7 x8 x9 hb5
      cases hr : hasCol a with
      | false =>
        have HQ2 : Asd (hasColL xs = hasColL (xs.drop (k + 1))) := Asd.mk (by rw [HQ.out, hr, Bool.false_or])
        clear hr
        go_wp2
        go_roundw
        case rel => exact ⟨k + 1, by omega, by go_num, HB5, HQ2⟩
        case measure => simp [intOf]; omega
      | true =>
        have HQ2 : Asd (hasColL xs = true) := Asd.mk (by rw [HQ.out, hr]; rfl)
        clear hr
        go_wp2
        go_ret
        exact ⟨ret_eq (by rw [HQ2.out]; rfl), HB5.out⟩
    · have HS : Asd (hasColL xs = false) := Asd.mk (by rw [HQ.out, List.drop_of_length_le (by rw [HM.out]; omega)]; rfl)
      clear HQ
      go_wp2
      go_ret
      exact ⟨ret_eq (by rw [HS.out]; rfl), HBR.out⟩
set_option maxRecDepth 100000 in
set_option maxHeartbeats 12800000 in
theorem two_step (x : Ex) (hn : x.args.length ≤ 1048576) (hsub : ∀ i (h : i < x.args.length), TwoOK x.args[i]) : TwoOK x := by
  intro Q A c w hheld
  have HH := Asd.mk hheld
  have HE := Asd.mk (hasCol_eq x)
  have HA := Asd.mk (any_calls x.args hn hsub)
  have HL : Asd (x.args.length = 0 → hasColL x.args = false) := Asd.mk fun h => by rw [List.length_eq_zero_iff.mp h]; rfl
  have HX := Asd.mk (blk_new w (xK x (.slice A x.args.length c)))
  have HB : Asd (Below w.heap.size w (w.alloc (xK x (.slice A x.args.length c)))) := Asd.mk (below_alloc (Below.refl _ _) _)
  clear hheld hsub
  generalize hm : x.args.length = m at hn HX HB HH HL HA ⊢
  clear hm
  unfold exV
  go_enter Tryz.func12, Tryz.ntmps12
  go_upto_region 1 with fail
  generalize w.alloc _ = w1 at HX HB ⊢
  have e0 : w1.cell? ⟨w.heap.size, 0, none⟩ = some (.int .i64 x.kind) := (blk_cell HX.out 0).trans rfl
  have e9 : w1.cell? ⟨w.heap.size, 9, none⟩ = some (.slice A m c) := (blk_cell HX.out 9).trans rfl
  cases hc : (x.kind == 2) with
  | true =>
    have HF : Asd (hasCol x = true) := Asd.mk (by rw [HE.out, hc]; rfl)
    go_wp2
    go_ret
    exact ⟨ret_eq (by rw [HF.out]; rfl), HB.out⟩
  | false =>
    rw [hc, Bool.false_or] at HE
    by_cases h0 : m = 0
    · subst h0
      have HF : Asd (hasCol x = false) := Asd.mk (by rw [HE.out, HL.out rfl])
      go_wp2
      go_ret
      exact ⟨ret_eq (by rw [HF.out]; rfl), HB.out⟩
    · have hpos : (0 : Int) < (m : Int) := by omega
      have hgt : decide ((m : Int) > 0) = true := decide_eq_true hpos
      clear h0
      go_wp2_with fail
      refine (HA.out Q A c w1 (held_below HH.out HB.out)).mono ?_
      rintro e w2 ⟨rfl, hb2⟩
      have HB2 : Asd (Below w.heap.size w w2) := Asd.mk (HB.out.trans (hb2.mono HB.out.size))
      clear e0 e9 hb2
      go_wp2
      go_ret
      exact ⟨ret_eq (by rw [HE.out]; rfl), HB2.out⟩
/-- quarrylaw16.twoCols. -/
theorem two_ok (x : Ex) (hf : fewE x) : TwoOK x :=
  two_step x (fewE_args hf).1 fun i h => two_ok x.args[i] (fewL_mem (fewE_args hf).2 _ (List.getElem_mem h))
termination_by SizeOf.sizeOf x
decreasing_by exact args_lt x i h
end Go.Proofs.YtbeeaikilcnpgaaGreatDoor.Exp

/- quarrylaw16.read; a store of a column's place. -/
set_option linter.unusedVariables false
set_option linter.unusedSimpArgs false
namespace Go.Proofs.YtbeeaikilcnpgaaGreatDoor.Exp
open Go.RowKit Go.Proofs.YtbeeaikilcnpgaaGreatDoor.Base Go.Proofs.YtbeeaikilcnpgaaGreatDoor.App Go.Proofs.YtbeeaikilcnpgaaGreatDoor.Byt Go.Proofs.YtbeeaikilcnpgaaGreatDoor.Lex

theorem below_put10 {a W : World} (h : Below a.heap.size a W) {b : Nat} (hb : a.heap.size ≤ b) (v0 v1 v2 v3 v4 v5 v6 v7 v8 v9 : Value) : Below a.heap.size a ((((((((((W.setCell ⟨b, 0, none⟩ v0).setCell ⟨b, 1, none⟩ v1).setCell ⟨b, 2, none⟩ v2).setCell ⟨b, 3, none⟩ v3).setCell ⟨b, 4, none⟩ v4).setCell ⟨b, 5, none⟩ v5).setCell ⟨b, 6, none⟩ v6).setCell ⟨b, 7, none⟩ v7).setCell ⟨b, 8, none⟩ v8).setCell ⟨b, 9, none⟩ v9) :=
  below_set (below_set (below_set (below_set (below_set (below_set (below_set (below_set (below_set (below_set h (p := ⟨b, 0, none⟩) hb v0) (p := ⟨b, 1, none⟩) hb v1) (p := ⟨b, 2, none⟩) hb v2) (p := ⟨b, 3, none⟩) hb v3) (p := ⟨b, 4, none⟩) hb v4) (p := ⟨b, 5, none⟩) hb v5) (p := ⟨b, 6, none⟩) hb v6) (p := ⟨b, 7, none⟩) hb v7) (p := ⟨b, 8, none⟩) hb v8) (p := ⟨b, 9, none⟩) hb v9
set_option maxRecDepth 100000 in
set_option maxHeartbeats 6400000 in
/-- quarrylaw16.read of a text that is an expression. -/
theorem read16_calls (s : ByteArray) (hs : s.data.toList.length ≤ 16384) (ts : Toks) (hl : lexT s.data.toList = .ok ts) (x : Ex) (j : Nat) (hr : (readF nmOk (lexE s.data.toList) 32).or 0 = .ok (x, j)) (w : World) (hw : LexW w) :
    Calls Tryz.prog 14 #[.string s] w fun e w' => Below w.heap.size w w' ∧ ∃ sl, e = .returned (exV x sl) ∧ Held (fun g => w.heap.size ≤ g) w' x.args sl := by
  have HR := Asd.mk hr
  have HN := Asd.mk (near_lexE s.data.toList)
  have HE := Asd.mk (lexE_ok hs hl)
  have HZ := Asd.mk (blk_new w (.cells #[.int .i64 0, .int .i64 0, .int .i64 0, .int .i64 0, .string ⟨#[]⟩, .string ⟨#[]⟩, .string ⟨#[]⟩, .int .i64 0, .int .i64 0, .slice none 0 0] 26 (0, 0)))
  have HB : Asd (Below w.heap.size w (w.alloc (.cells #[.int .i64 0, .int .i64 0, .int .i64 0, .int .i64 0, .string ⟨#[]⟩, .string ⟨#[]⟩, .string ⟨#[]⟩, .int .i64 0, .int .i64 0, .slice none 0 0] 26 (0, 0)))) := Asd.mk (below_alloc (Below.refl _ _) _)
  have HW := Asd.mk hw
  have HL := Asd.mk hl
  have HS := Asd.mk hs
  clear hr hw hl hs
  go_enter Tryz.func14, Tryz.ntmps14
  go_upto_region 1 with fail
  generalize w.alloc (.cells #[.int .i64 0, .int .i64 0, .int .i64 0, .int .i64 0, .string ⟨#[]⟩, .string ⟨#[]⟩, .string ⟨#[]⟩, .int .i64 0, .int .i64 0, .slice none 0 0] 26 (0, 0)) = w1 at HZ HB ⊢
  have HW1 := Asd.mk (HW.out.below HB.out)
  go_wp2_with fail
  refine (tokens_reads s _ HW1.out).mono ?_
  rintro e w2 ⟨hb2, he⟩
  rw [if_neg (by have := HS.out; omega), HL.out] at he
  obtain ⟨A, m, c, rfl, ht⟩ := he
  rw [← HE.out] at ht
  have HT := Asd.mk ht
  have HB2 : Asd (Below w.heap.size w w2) := Asd.mk (HB.out.trans (hb2.mono HB.out.size))
  have HZ2 := Asd.mk (blk_below hb2 HZ.out)
  have HW2 := Asd.mk (HW1.out.below hb2)
  clear hb2 ht
  go_wp2_with fail
  refine (read_calls A m c (lexE s.data.toList) 0 w2 HW2.out.shaped HT.out HN.out (Nat.zero_le _)).mono ?_
  rintro e w3 ⟨hb3, hm⟩
  rw [HR.out] at hm
  obtain ⟨sl, rfl, hh⟩ := hm
  have HB3 : Asd (Below w.heap.size w w3) := Asd.mk (HB2.out.trans (hb3.mono HB2.out.size))
  have HZ3 := Asd.mk (blk_below hb3 HZ2.out)
  have HH := Asd.mk hh
  have HSZ : Asd (w.heap.size + 1 ≤ w2.heap.size) := Asd.mk (by have := blk_lt HZ2.out; omega)
  obtain ⟨As, ns, cs, rfl⟩ := held_slice hh
  clear hb3 hh
  simp only [exV]
  have HX4 := Asd.mk (blk_new w3 (.cells #[.int .i64 x.kind, .int .i64 x.op, .int .i64 x.v.kind, .int .i64 x.v.int, .string ⟨x.v.text.toArray⟩, .string ⟨x.table.toArray⟩, .string ⟨x.name.toArray⟩, .int .i64 x.col, .int .i64 x.ty, .slice As ns cs] 26 (0, 0)))
  have HZ4 := Asd.mk (blk_alloc HZ3.out (.cells #[.int .i64 x.kind, .int .i64 x.op, .int .i64 x.v.kind, .int .i64 x.v.int, .string ⟨x.v.text.toArray⟩, .string ⟨x.table.toArray⟩, .string ⟨x.name.toArray⟩, .int .i64 x.col, .int .i64 x.ty, .slice As ns cs] 26 (0, 0)))
  have HB4 : Asd (Below w.heap.size w (w3.alloc (.cells #[.int .i64 x.kind, .int .i64 x.op, .int .i64 x.v.kind, .int .i64 x.v.int, .string ⟨x.v.text.toArray⟩, .string ⟨x.table.toArray⟩, .string ⟨x.name.toArray⟩, .int .i64 x.col, .int .i64 x.ty, .slice As ns cs] 26 (0, 0)))) := Asd.mk (below_alloc HB3.out _)
  have HH4 := Asd.mk (held_below HH.out (below_alloc (Below.refl _ w3) (.cells #[.int .i64 x.kind, .int .i64 x.op, .int .i64 x.v.kind, .int .i64 x.v.int, .string ⟨x.v.text.toArray⟩, .string ⟨x.table.toArray⟩, .string ⟨x.name.toArray⟩, .int .i64 x.col, .int .i64 x.ty, .slice As ns cs] 26 (0, 0))))
  go_upto_region 3 with fail
  simp only at HH4
  generalize w3.alloc (.cells #[.int .i64 x.kind, .int .i64 x.op, .int .i64 x.v.kind, .int .i64 x.v.int, .string ⟨x.v.text.toArray⟩, .string ⟨x.table.toArray⟩, .string ⟨x.name.toArray⟩, .int .i64 x.col, .int .i64 x.ty, .slice As ns cs] 26 (0, 0)) = w4 at HX4 HZ4 HB4 HH4 ⊢
  obtain ⟨e0, e1, e2, e3, e4, e5, e6, e7, e8, e9⟩ := ex_cells (x := x) HX4.out
  have z0 := (blk_cell HZ4.out 0).trans rfl
  have z1 := (blk_cell HZ4.out 1).trans rfl
  have z2 := (blk_cell HZ4.out 2).trans rfl
  have z3 := (blk_cell HZ4.out 3).trans rfl
  have z4 := (blk_cell HZ4.out 4).trans rfl
  have z5 := (blk_cell HZ4.out 5).trans rfl
  have z6 := (blk_cell HZ4.out 6).trans rfl
  have z7 := (blk_cell HZ4.out 7).trans rfl
  have z8 := (blk_cell HZ4.out 8).trans rfl
  have z9 := (blk_cell HZ4.out 9).trans rfl
  have zf := fun j => blk_frozen HZ4.out j
  go_wp2_with fail
  refine bodyPost_ret (results_cell_row rfl _ _ w.heap.size 26 _ (0, 0) _ rfl (put10_blk HZ4.out _ _ _ _ _ _ _ _ _ _) Tryz.underlying26 rfl (by kernel_rfl)) rfl ?_
  exact ⟨below_put10 HB4.out (Nat.le_refl _) _ _ _ _ _ _ _ _ _ _, _, rfl, held_mono (held_frS (held_mono HH4.out fun g _ hg => hg) (put10_fr (S := fun g => g = w.heap.size) rfl _ _ _ _ _ _ _ _ _ _) (fun g hg he => by have := HSZ.out; have := hg; omega)) fun g _ hg => by have := HSZ.out; have := hg; omega⟩
end Go.Proofs.YtbeeaikilcnpgaaGreatDoor.Exp

/- Expressions in memory where one column's place is written. -/
set_option linter.unusedVariables false
set_option linter.unusedSimpArgs false
namespace Go.Proofs.YtbeeaikilcnpgaaGreatDoor.Exp
open Go.RowKit Go.Proofs.YtbeeaikilcnpgaaGreatDoor.Base Go.Proofs.YtbeeaikilcnpgaaGreatDoor.App Go.Proofs.YtbeeaikilcnpgaaGreatDoor.Byt Go.Proofs.YtbeeaikilcnpgaaGreatDoor.Rd

mutual
/-- An expression but for its columns' places. -/
def unCol : Ex → Ex
  | .mk k o v t n _ ty a => .mk k o v t n 0 ty (unColL a)
def unColL : List Ex → List Ex
  | [] => []
  | x :: xs => unCol x :: unColL xs
end
theorem unColL_len : ∀ l : List Ex, (unColL l).length = l.length
  | [] => by rw [unColL]
  | x :: xs => by rw [unColL, List.length_cons, List.length_cons, unColL_len xs]
theorem unColL_at : ∀ (l : List Ex) (i : Nat) (h : i < l.length), (unColL l)[i]'(by rw [unColL_len]; exact h) = unCol l[i]
  | x :: xs, 0, h => by simp only [unColL, List.getElem_cons_zero]
  | x :: xs, i + 1, h => by simp only [unColL, List.getElem_cons_succ]; exact unColL_at xs i (by simpa using h)
theorem unColL_ext {a b : List Ex} (hl : a.length = b.length) (h : ∀ i (h : i < a.length) (h' : i < b.length), unCol a[i] = unCol b[i]) : unColL a = unColL b := by
  apply List.ext_getElem
  · rw [unColL_len, unColL_len, hl]
  · intro i h1 h2
    rw [unColL_len] at h1 h2
    rw [unColL_at a i h1, unColL_at b i h2]
    exact h i h1 h2
/-- The expression with another place of its column. -/
def setCol (x : Ex) (u : Int) (a : List Ex) : Ex := .mk x.kind x.op x.v x.table x.name u x.ty a
theorem unCol_set {x : Ex} {u : Int} {a : List Ex} (h : unColL a = unColL x.args) : unCol (setCol x u a) = unCol x := by
  cases x
  simp only [setCol, unCol]
  rw [h]
  rfl
theorem exC_set (x : Ex) (u : Int) (a : List Ex) (s : Value) : exC (setCol x u a) s = [.int .i64 x.kind, .int .i64 x.op, .int .i64 x.v.kind, .int .i64 x.v.int, .string ⟨x.v.text.toArray⟩, .string ⟨x.table.toArray⟩, .string ⟨x.name.toArray⟩, .int .i64 u, .int .i64 x.ty, s] := rfl
theorem frz_set (W : World) (p q : Addr) (v : Value) : (W.setCell p v).frozen? q = W.frozen? q := by
  simp only [World.frozen?, World.setCell, Array.getElem?_modify]
  by_cases h : p.block = q.block
  · rw [if_pos h]
    cases W.heap[q.block]? with
    | none => rfl
    | some o => cases o <;> rfl
  · rw [if_neg h]
theorem cell_set (W : World) (g i h j : Nat) (v : Value) (hne : ¬ (g = h ∧ i = j)) : (W.setCell ⟨g, i, none⟩ v).cell? ⟨h, j, none⟩ = W.cell? ⟨h, j, none⟩ :=
  World.cell?_setCell_other (h := fun e => hne (by injection e with e1 e2 _; exact ⟨e1, e2⟩)) ..
/-- A store into a row's seventh cell meets another row only there. -/
theorem row_apart {W : World} {g2 o2 : Nat} {x2 : Ex} {s2 : Value} {A2 : Option Addr} {n2 c2 : Nat} (e2 : s2 = .slice A2 n2 c2) (h2 : RowC W g2 o2 x2 s2) {o : Nat} {x : Ex} {s : Value} {A : Option Addr} {n c : Nat} (e : s = .slice A n c) (h : RowC W g2 o x s) (j : Nat) (hj : j < 10) (hov : o2 + 7 = o + j) : j = 7 := by
  subst e2; subst e
  have key : ∀ (a b : Nat) (ha : a < 10) (hb : b < 10), o + a = o2 + b → (exC x (.slice A n c))[a]'(by rw [exC_len]; exact ha) = (exC x2 (.slice A2 n2 c2))[b]'(by rw [exC_len]; exact hb) := fun a b ha hb hab => by
    have h1 := h a ha
    have h3 := h2 b hb
    rw [hab] at h1
    rw [h1] at h3
    exact Option.some.inj h3
  rcases (show j = 0 ∨ j = 1 ∨ j = 2 ∨ j = 3 ∨ j = 4 ∨ j = 5 ∨ j = 6 ∨ j = 7 ∨ j = 8 ∨ j = 9 by omega) with rfl | rfl | rfl | rfl | rfl | rfl | rfl | rfl | rfl | rfl
  · have := key 2 9 (by omega) (by omega) (by omega); simp [exC] at this
  · have := key 0 6 (by omega) (by omega) (by omega); simp [exC] at this
  · have := key 0 5 (by omega) (by omega) (by omega); simp [exC] at this
  · have := key 0 4 (by omega) (by omega) (by omega); simp [exC] at this
  · have := key 4 7 (by omega) (by omega) (by omega); simp [exC] at this
  · have := key 5 7 (by omega) (by omega) (by omega); simp [exC] at this
  · have := key 6 7 (by omega) (by omega) (by omega); simp [exC] at this
  · rfl
  · have := key 4 3 (by omega) (by omega) (by omega); simp [exC] at this
  · have := key 9 7 (by omega) (by omega) (by omega); simp [exC] at this
/-- What is held is held behind such a store, but for columns' places. -/
theorem held_store {P : Nat → Prop} {W : World} {g2 o2 : Nat} {x2 : Ex} {A2 : Option Addr} {n2 c2 : Nat} (h2 : RowC W g2 o2 x2 (.slice A2 n2 c2)) (u : Int) {xs : List Ex} {s : Value} (h : Held P W xs s) :
    ∃ xs', unColL xs' = unColL xs ∧ Held P (W.setCell ⟨g2, o2 + 7, none⟩ (.int .i64 u)) xs' s := by
  induction h with
  | nil A c => exact ⟨[], rfl, .nil A c⟩
  | cons g o c xs ss hg hl hu hrow hsub ih =>
    obtain ⟨ys, hyl, hys⟩ := list_of xs.length (fun i (y : Ex) => ∀ (h : i < xs.length), unCol y = unCol xs[i] ∧ RowC (W.setCell ⟨g2, o2 + 7, none⟩ (.int .i64 u)) g (o + i * 10) y (ss[i]'(by omega)) ∧ Held P (W.setCell ⟨g2, o2 + 7, none⟩ (.int .i64 u)) y.args (ss[i]'(by omega))) (fun i hi => by
      obtain ⟨a, ha, hha⟩ := ih i hi
      obtain ⟨A1, n1, c1, hs1⟩ := held_slice (hsub i hi)
      have hr := hrow i hi
      by_cases hc : g2 = g ∧ o2 = o + i * 10
      · refine ⟨setCol xs[i] u a, fun h => ⟨unCol_set ha, fun j hj => ?_, hha⟩⟩
        obtain ⟨rfl, rfl⟩ := hc
        by_cases h7 : j = 7
        · subst h7
          rw [World.cell?_setCell_same (h := h2 7 (by omega))]
          rfl
        · rw [cell_set _ _ _ _ _ _ (by rintro ⟨_, h⟩; omega), hr j hj]
          rcases (show j = 0 ∨ j = 1 ∨ j = 2 ∨ j = 3 ∨ j = 4 ∨ j = 5 ∨ j = 6 ∨ j = 8 ∨ j = 9 by omega) with rfl | rfl | rfl | rfl | rfl | rfl | rfl | rfl | rfl <;> rfl
      · refine ⟨setCol xs[i] xs[i].col a, fun h => ⟨unCol_set ha, fun j hj => ?_, hha⟩⟩
        rw [cell_set _ _ _ _ _ _ (by
          rintro ⟨e1, e2⟩
          subst e1
          have := row_apart rfl h2 hs1 hr j hj e2
          exact hc ⟨rfl, by omega⟩), hr j hj]
        rcases (show j = 0 ∨ j = 1 ∨ j = 2 ∨ j = 3 ∨ j = 4 ∨ j = 5 ∨ j = 6 ∨ j = 7 ∨ j = 8 ∨ j = 9 by omega) with rfl | rfl | rfl | rfl | rfl | rfl | rfl | rfl | rfl | rfl <;> rfl)
    refine ⟨ys, unColL_ext hyl fun i h1 h3 => (hys i h1 h3).1, ?_⟩
    rw [← hyl]
    exact .cons g o c ys ss hg (by omega) (fun j hj => by rw [frz_set]; exact hu j (by omega)) (fun i h => (hys i h (by omega)).2.1) (fun i h => (hys i h (by omega)).2.2)
end Go.Proofs.YtbeeaikilcnpgaaGreatDoor.Exp

/- EvalConstant: the walk. -/
set_option linter.unusedVariables false
set_option linter.unusedSimpArgs false
namespace Go.Proofs.YtbeeaikilcnpgaaGreatDoor.Exp
open Go.RowKit Go.Proofs.YtbeeaikilcnpgaaGreatDoor.Base Go.Proofs.YtbeeaikilcnpgaaGreatDoor.App Go.Proofs.YtbeeaikilcnpgaaGreatDoor.Byt Go.Proofs.YtbeeaikilcnpgaaGreatDoor.Lex

/-- What a law's row brings. -/
structure RowW (w : World) (RA : Option Addr) (vs : List Vl) : Prop where
  vals : ValSl w RA vs
  len : vs.length ≤ 1048576
  rng : ∀ v ∈ vs, inI v.int ∧ v.text.length ≤ reachBytes
theorem RowW.below {w w' : World} {RA : Option Addr} {vs : List Vl} (h : RowW w RA vs) (hb : Below w.heap.size w w') : RowW w' RA vs := ⟨h.vals.below hb, h.len, h.rng⟩
theorem RowW.env {w : World} {RA : Option Addr} {vs : List Vl} (h : RowW w RA vs) (hv : (vs.all fun v => chkV v == 0) = true) : EnvW (fun _ => True) w RA none vs [] :=
  ⟨h.vals, h.len, (fun v hm => rv_of (by simpa using List.all_eq_true.mp hv v hm) (h.rng v hm).1 (h.rng v hm).2), fun h0 => absurd h0 (by simp), by simp, (fun _ hq => by cases hq), (fun _ hq => by cases hq)⟩
theorem chain_below {B : Nat} {w a b : World} (h : Below B w a) (hb : Below a.heap.size a b) (hs : B ≤ a.heap.size) : Below B w b := h.trans (hb.mono hs)
set_option maxRecDepth 100000 in
set_option maxHeartbeats 6400000 in
/-- Eval of a right expression over a right row, with nothing known. -/
theorem eval0 (us : List Vl) (x : Ex) (m : Nat) (hm : x.args.length = m) (hN : bulkX x ≤ 1048576) (hr : rngX x) (hrt : rightX x = true) (hu : (us.all fun v => chkV v == 0) = true) (A : Option Addr) (c : Nat) (RA : Option Addr) (ca : Nat) (w : World) (hrow : RowW w RA us) (hh : Held (fun _ => True) w x.args (.slice A m c)) :
    Calls Tryz.prog 11 #[exV x (.slice A m c), .slice RA us.length ca, .slice none 0 0] w fun e w' => e = .returned (.tuple #[vC (resVal (evE us [] x)), .int .i64 (resNum (evE us [] x))]) ∧ Below w.heap.size w w' := by
  subst hm
  exact (eval_calls us [] x (rvX_of x hrt hr hN) _ _ A RA none c ca 0 w (hrow.env hu) hh).mono fun e w' h => ev2_form h
set_option maxRecDepth 100000 in
set_option maxHeartbeats 12800000 in
/-- quarrylaw16.EvalConstant, if works() works. -/
theorem constant_calls (hwk : ∀ w : World, LexW w → Calls Tryz.prog 6 #[] w fun e w' => e = .returned (.bool true) ∧ Below w.heap.size w w')
    (x : Ex) (hN : bulkX x ≤ 1048576) (hr : rngX x) (A : Option Addr) (c : Nat) (us vs : List Vl) (RA RB : Option Addr) (ca cb : Nat) (w : World) (hl : LexW w) (hh : Held (fun _ => True) w x.args (.slice A x.args.length c)) (ha : RowW w RA us) (hb : RowW w RB vs) :
    Calls Tryz.prog 3 #[exV x (.slice A x.args.length c), .slice RA us.length ca, .slice RB vs.length cb] w fun e w' => e = .returned (.bool true) ∧ Below w.heap.size w w' := by
  have HH := Asd.mk hh
  have HA := Asd.mk ha
  have HBb := Asd.mk hb
  have HN := Asd.mk hN
  have HRN := Asd.mk hr
  have HRI := Asd.mk (rights_ok x (few_of x hN))
  have HSI := Asd.mk (size_ok x hN)
  have HCO := Asd.mk (cols_ok x (few_of x hN))
  have HRA := Asd.mk (row_calls us ha.len RA ca)
  have HRB := Asd.mk (row_calls vs hb.len RB cb)
  have HX := Asd.mk (blk_new w (xK x (.slice A x.args.length c)))
  have HB : Asd (Below w.heap.size w (w.alloc (xK x (.slice A x.args.length c)))) := Asd.mk (below_alloc (Below.refl _ _) _)
  have HWK := Asd.mk hwk
  have HL := Asd.mk hl
  clear hh ha hb hN hr hwk hl
  unfold RightsOK at HRI
  unfold SizeOK at HSI
  unfold ColsOK at HCO
  generalize hm : x.args.length = m at HX HB HH HRI HSI HCO ⊢
  have HM := Asd.mk hm
  clear hm
  unfold exV
  go_enter Tryz.func3, Tryz.ntmps3
  go_upto_region 1 with fail
  generalize w.alloc _ = w1 at HX HB ⊢
  go_wp2_with fail
  refine (HWK.out _ (HL.out.below HB.out)).mono ?_
  rintro e w2 ⟨rfl, hb2⟩
  have HB2 : Asd (Below w.heap.size w w2) := Asd.mk (HB.out.trans (hb2.mono HB.out.size))
  have HX2 := Asd.mk (blk_below hb2 HX.out)
  clear hb2 HB HX HWK
  have HHK : Asd (∀ w', Below w2.heap.size w2 w' → Held (fun _ => True) w' x.args (.slice A m c)) := Asd.mk fun w' h => held_below HH.out (chain_below HB2.out h HB2.out.size)
  have HAK : Asd (∀ w', Below w2.heap.size w2 w' → RowW w' RA us) := Asd.mk fun w' h => HA.out.below (chain_below HB2.out h HB2.out.size)
  have HBK : Asd (∀ w', Below w2.heap.size w2 w' → RowW w' RB vs) := Asd.mk fun w' h => HBb.out.below (chain_below HB2.out h HB2.out.size)
  have HBs : Asd (Below w2.heap.size w2 w2) := Asd.mk (Below.refl _ _)
  obtain ⟨f0, f1, f2, f3, f4, f5, f6, f7, f8, f9⟩ := ex_cells (x := x) (blk_below HBs.out HX2.out)
  go_wp2_with fail
  refine (HRI.out _ A c _ (HHK.out _ HBs.out)).mono ?_
  rintro e wa0 ⟨rfl, hb0⟩
  have HBa0 : Asd (Below w2.heap.size w2 wa0) := Asd.mk (below_step HBs.out hb0)
  clear f0 f1 f2 f3 f4 f5 f6 f7 f8 f9 hb0
  cases h0 : rightX x with
  | false =>
    have HBE := Asd.mk (chain_below HB2.out HBa0.out HB2.out.size)
    go_wp2
    go_ret
    exact ⟨ret_eq rfl, HBE.out⟩
  | true =>
    obtain ⟨f0, f1, f2, f3, f4, f5, f6, f7, f8, f9⟩ := ex_cells (x := x) (blk_below HBa0.out HX2.out)
    go_wp2_with fail
    refine (HRA.out _ (HAK.out _ HBa0.out).vals).mono ?_
    rintro e wa1 ⟨rfl, hb1⟩
    have HBa1 : Asd (Below w2.heap.size w2 wa1) := Asd.mk (below_step HBa0.out hb1)
    clear f0 f1 f2 f3 f4 f5 f6 f7 f8 f9 hb1
    cases h1 : (us.all fun v => chkV v == 0) with
    | false =>
      have HBE := Asd.mk (chain_below HB2.out HBa1.out HB2.out.size)
      go_wp2
      go_ret
      exact ⟨ret_eq rfl, HBE.out⟩
    | true =>
      obtain ⟨f0, f1, f2, f3, f4, f5, f6, f7, f8, f9⟩ := ex_cells (x := x) (blk_below HBa1.out HX2.out)
      go_wp2_with fail
      refine (HRB.out _ (HBK.out _ HBa1.out).vals).mono ?_
      rintro e wa2 ⟨rfl, hb2⟩
      have HBa2 : Asd (Below w2.heap.size w2 wa2) := Asd.mk (below_step HBa1.out hb2)
      clear f0 f1 f2 f3 f4 f5 f6 f7 f8 f9 hb2
      cases h2 : (vs.all fun v => chkV v == 0) with
      | false =>
        have HBE := Asd.mk (chain_below HB2.out HBa2.out HB2.out.size)
        go_wp2
        go_ret
        exact ⟨ret_eq rfl, HBE.out⟩
      | true =>
        obtain ⟨f0, f1, f2, f3, f4, f5, f6, f7, f8, f9⟩ := ex_cells (x := x) (blk_below HBa2.out HX2.out)
        go_wp2_with fail
        refine (HSI.out _ A c _ (HHK.out _ HBa2.out)).mono ?_
        rintro e wa3 ⟨rfl, hb3⟩
        have HBa3 : Asd (Below w2.heap.size w2 wa3) := Asd.mk (below_step HBa2.out hb3)
        clear f0 f1 f2 f3 f4 f5 f6 f7 f8 f9 hb3
        cases h3 : decide (500 < ((sizeX x : Nat) : Int)) with
        | true =>
          have HBE := Asd.mk (chain_below HB2.out HBa3.out HB2.out.size)
          go_wp2
          go_ret
          exact ⟨ret_eq rfl, HBE.out⟩
        | false =>
          obtain ⟨f0, f1, f2, f3, f4, f5, f6, f7, f8, f9⟩ := ex_cells (x := x) (blk_below HBa3.out HX2.out)
          go_wp2_with fail
          refine (HCO.out _ A c _ (HHK.out _ HBa3.out)).mono ?_
          rintro e wa4 ⟨rfl, hb4⟩
          have HBa4 : Asd (Below w2.heap.size w2 wa4) := Asd.mk (below_step HBa3.out hb4)
          clear f0 f1 f2 f3 f4 f5 f6 f7 f8 f9 hb4
          cases h4 : hasCol x with
          | true =>
            have HBE := Asd.mk (chain_below HB2.out HBa4.out HB2.out.size)
            go_wp2
            go_ret
            exact ⟨ret_eq rfl, HBE.out⟩
          | false =>
            obtain ⟨f0, f1, f2, f3, f4, f5, f6, f7, f8, f9⟩ := ex_cells (x := x) (blk_below HBa4.out HX2.out)
            have HR1 := Asd.mk h0
            have HR2 := Asd.mk h1
            have HR3 := Asd.mk h2
            have HR5 := Asd.mk h4
            clear HRI HSI HCO HRA HRB
            go_wp2_with fail
            refine (eval0 us x m HM.out HN.out HRN.out HR1.out HR2.out A c RA ca _ (HAK.out _ HBa4.out) (HHK.out _ HBa4.out)).mono ?_
            rintro e w4 ⟨rfl, hb4⟩
            have HB4 : Asd (Below w2.heap.size w2 w4) := Asd.mk (below_step HBa4.out hb4)
            generalize hq : evE us [] x = q
            have HQ := Asd.mk (show evE vs [] x = q from (evE_row vs us [] x HR5.out).trans hq)
            clear hq hb4 h0 h1 h2 h3 h4
            clear f0 f1 f2 f3 f4 f5 f6 f7 f8 f9
            simp only [vC]
            have HV := Asd.mk (blk_new w4 (.cells #[.int .i64 (resVal q).kind, .int .i64 (resVal q).int, .string ⟨(resVal q).text.toArray⟩] 23 (0, 0)))
            have HB5 : Asd (Below w2.heap.size w2 (w4.alloc (.cells #[.int .i64 (resVal q).kind, .int .i64 (resVal q).int, .string ⟨(resVal q).text.toArray⟩] 23 (0, 0)))) := Asd.mk (below_step HB4.out (below_alloc (Below.refl _ _) _))
            go_upto_region 6 with fail
            generalize w4.alloc _ = w5 at HV HB5 ⊢
            obtain ⟨f0, f1, f2, f3, f4, f5, f6, f7, f8, f9⟩ := ex_cells (x := x) (blk_below HB5.out HX2.out)
            go_wp2_with fail
            refine (eval0 vs x m HM.out HN.out HRN.out HR1.out HR3.out A c RB cb _ (HBK.out _ HB5.out) (HHK.out _ HB5.out)).mono ?_
            rintro e w6 ⟨rfl, hb6⟩
            rw [HQ.out]
            have HB6 : Asd (Below w2.heap.size w2 w6) := Asd.mk (below_step HB5.out hb6)
            have HV6 := Asd.mk (blk_below hb6 HV.out)
            clear hb6 HB4
            clear f0 f1 f2 f3 f4 f5 f6 f7 f8 f9
            simp only [vC]
            have HU := Asd.mk (blk_new w6 (.cells #[.int .i64 (resVal q).kind, .int .i64 (resVal q).int, .string ⟨(resVal q).text.toArray⟩] 23 (0, 0)))
            have HV7 := Asd.mk (blk_below (below_alloc (Below.refl _ w6) (.cells #[.int .i64 (resVal q).kind, .int .i64 (resVal q).int, .string ⟨(resVal q).text.toArray⟩] 23 (0, 0))) HV6.out)
            have HB7 : Asd (Below w2.heap.size w2 (w6.alloc (.cells #[.int .i64 (resVal q).kind, .int .i64 (resVal q).int, .string ⟨(resVal q).text.toArray⟩] 23 (0, 0)))) := Asd.mk (below_step HB6.out (below_alloc (Below.refl _ _) _))
            have HEQ : Asd (∀ W, (binOp .eql 23 (.agg #[.int .i64 (resVal q).kind, .int .i64 (resVal q).int, .string ⟨(resVal q).text.toArray⟩]) (.agg #[.int .i64 (resVal q).kind, .int .i64 (resVal q).int, .string ⟨(resVal q).text.toArray⟩])).run Tryz.prog W = .ok (.bool true) W) := Asd.mk fun W => by rw [val_eql]; simp
            go_upto_region 7 with fail
            generalize w6.alloc _ = w7 at HU HV7 HB7 ⊢
            generalize (resVal q).kind = q0 at HU HV7 HEQ
            generalize (resVal q).int = q1 at HU HV7 HEQ
            generalize (⟨(resVal q).text.toArray⟩ : ByteArray) = q2 at HU HV7 HEQ
            generalize resNum q = q3
            have g0 := (blk_cell HU.out 0).trans rfl
            have g1 := (blk_cell HU.out 1).trans rfl
            have g2 := (blk_cell HU.out 2).trans rfl
            have k0 := (blk_cell HV7.out 0).trans rfl
            have k1 := (blk_cell HV7.out 1).trans rfl
            have k2 := (blk_cell HV7.out 2).trans rfl
            have heq := HEQ.out
            have HBE := Asd.mk (chain_below HB2.out HB7.out HB2.out.size)
            clear HB7 HB6 HB5
            go_wp2
            go_ret
            exact ⟨ret_eq rfl, HBE.out⟩
end Go.Proofs.YtbeeaikilcnpgaaGreatDoor.Exp

/- quarrylaw16.works: the plain part. -/
set_option linter.unusedVariables false
set_option linter.unusedSimpArgs false
namespace Go.Proofs.YtbeeaikilcnpgaaGreatDoor.Exp
open Go.RowKit Go.Proofs.YtbeeaikilcnpgaaGreatDoor.Base Go.Proofs.YtbeeaikilcnpgaaGreatDoor.App Go.Proofs.YtbeeaikilcnpgaaGreatDoor.Byt Go.Proofs.YtbeeaikilcnpgaaGreatDoor.Lex

def okT (l : List UInt8) : Bool := match lexT l with
  | .ok _ => true
  | .error _ => false
theorem okT_ok {l : List UInt8} (h : okT l = true) : ∃ ts, lexT l = .ok ts := by
  unfold okT at h
  split at h
  · exact ⟨_, by assumption⟩
  · exact absurd h (by decide)
def tA : List UInt8 := [98, 32, 60, 62, 32, 48, 32, 65, 78, 68, 32, 97, 32, 47, 32, 98, 32, 61, 32, 49]
def tB : List UInt8 := [49, 32, 47, 32, 48]
def tC : List UInt8 := [115, 117, 109, 40, 97, 41, 32, 43, 32, 49]
def tD : List UInt8 := [115, 117, 109, 40, 97, 41]
def eA0 : Ex := pairE 6 (colE [] [98]) (litE (vNum 0))
def eA1 : Ex := pairE 5 (pairE 14 (colE [] [97]) (colE [] [98])) (litE (vNum 1))
def eA : Ex := pairE 4 eA0 eA1
def eB : Ex := pairE 14 (litE (vNum 1)) (litE (vNum 0))
def eD : Ex := callE 6 2 [colE [] [97]]
def eC : Ex := pairE 11 eD (litE (vNum 1))
set_option maxRecDepth 100000 in
theorem lexA : okT tA = true := by kernel_rfl
set_option maxRecDepth 100000 in
theorem lexB : okT tB = true := by kernel_rfl
set_option maxRecDepth 100000 in
theorem lexC : okT tC = true := by kernel_rfl
set_option maxRecDepth 100000 in
theorem lexD : okT tD = true := by kernel_rfl
set_option maxRecDepth 100000 in
theorem readA : (readF nmOk (lexE tA) 32).or 0 = .ok (eA, 9) := by kernel_rfl
set_option maxRecDepth 100000 in
theorem readB : (readF nmOk (lexE tB) 32).or 0 = .ok (eB, 3) := by kernel_rfl
set_option maxRecDepth 100000 in
theorem readC : (readF nmOk (lexE tC) 32).or 0 = .ok (eC, 6) := by kernel_rfl
set_option maxRecDepth 100000 in
theorem readD : (readF nmOk (lexE tD) 32).or 0 = .ok (eD, 4) := by kernel_rfl
/-- read of a text whose expression is known. -/
theorem read16_of {l : List UInt8} (h1 : okT l = true) (hn : l.length ≤ 16384) {x : Ex} {j : Nat} (h2 : (readF nmOk (lexE l) 32).or 0 = .ok (x, j)) (w : World) (hw : LexW w) :
    Calls Tryz.prog 14 #[.string ⟨l.toArray⟩] w fun e w' => Below w.heap.size w w' ∧ ∃ A c, e = .returned (exV x (.slice A x.args.length c)) ∧ Held (fun g => w.heap.size ≤ g) w' x.args (.slice A x.args.length c) := by
  obtain ⟨ts, hts⟩ := okT_ok h1
  refine (read16_calls ⟨l.toArray⟩ hn ts hts x j h2 w hw).mono ?_
  rintro e w' ⟨hb, sl, he, hh⟩
  obtain ⟨A, c, rfl⟩ := held_len hh
  exact ⟨hb, A, c, he, hh⟩
def row70 : List Vl := [vNum 7, vNum 0]
theorem evB : evE row70 [] eB = .error 41 := by kernel_rfl
theorem evC : evE row70 [(eD, vNum 5)] eC = .ok (vNum 6) := by kernel_rfl
theorem evA (u c2 c3 c4 : Int) (y : Ex) : evE row70 [] (.mk 4 4 vNull [] [] u 0 [.mk 4 6 vNull [] [] c2 0 [.mk 2 0 vNull [] [98] 1 0 [], .mk 1 0 (vNum 0) [] [] c3 0 []], y]) = .ok (vTru false) := by kernel_rfl
mutual
theorem rvX_un : ∀ x : Ex, rvX (unCol x) → rvX x
  | .mk k o v t n c ty a => fun h => by
    rw [unCol, rvX] at h
    rw [rvX]
    exact ⟨h.1, rvXL_un a h.2⟩
theorem rvXL_un : ∀ l : List Ex, rvXL (unColL l) → rvXL l
  | [] => fun _ => by rw [rvXL]; trivial
  | x :: l => fun h => by
    rw [unColL, rvXL] at h
    rw [rvXL]
    exact ⟨rvX_un x h.1, rvXL_un l h.2⟩
end
theorem unCol_inv {x : Ex} {k o : Int} {v : Vl} {t n : List UInt8} {c ty : Int} {a : List Ex} (h : unCol x = unCol (.mk k o v t n c ty a)) : ∃ c' a', x = .mk k o v t n c' ty a' ∧ unColL a' = unColL a := by
  obtain ⟨k', o', v', t', n', c', ty', a'⟩ := x
  simp only [unCol] at h
  injection h with h1 h2 h3 h4 h5 h6 h7 h8
  subst h1 h2 h3 h4 h5 h7
  exact ⟨c', a', rfl, h8⟩
theorem unColL_inv {l : List Ex} {a : Ex} {r : List Ex} (h : unColL l = unColL (a :: r)) : ∃ b s, l = b :: s ∧ unCol b = unCol a ∧ unColL s = unColL r := by
  cases l with
  | nil => simp only [unColL] at h; cases h
  | cons b s =>
    simp only [unColL] at h
    injection h with h1 h2
    exact ⟨b, s, rfl, h1, h2⟩
theorem unColL_nil {l : List Ex} (h : unColL l = unColL []) : l = [] := by
  cases l with
  | nil => rfl
  | cons b s => simp only [unColL] at h; cases h
theorem shapeA {xs : List Ex} (h : unColL xs = unColL [eA0, eA1]) : ∃ c2 c3 cc y, xs = [.mk 4 6 vNull [] [] c2 0 [.mk 2 0 vNull [] [98] cc 0 [], .mk 1 0 (vNum 0) [] [] c3 0 []], y] := by
  obtain ⟨b, s, rfl, h1, h2⟩ := unColL_inv h
  obtain ⟨y, s2, rfl, _, h3⟩ := unColL_inv h2
  obtain rfl := unColL_nil h3
  obtain ⟨c2, a2, rfl, h4⟩ := unCol_inv (k := 4) (o := 6) (v := vNull) (t := []) (n := []) (c := 0) (ty := 0) (a := [colE [] [98], litE (vNum 0)]) h1
  obtain ⟨b1, s3, rfl, h5, h6⟩ := unColL_inv h4
  obtain ⟨b2, s4, rfl, h7, h8⟩ := unColL_inv h6
  obtain rfl := unColL_nil h8
  obtain ⟨cc, a3, rfl, h9⟩ := unCol_inv (k := 2) (o := 0) (v := vNull) (t := []) (n := [98]) (c := 0) (ty := 0) (a := []) h5
  obtain rfl := unColL_nil h9
  obtain ⟨c3, a4, rfl, h10⟩ := unCol_inv (k := 1) (o := 0) (v := vNum 0) (t := []) (n := []) (c := 0) (ty := 0) (a := []) h7
  obtain rfl := unColL_nil h10
  exact ⟨c2, c3, cc, y, rfl⟩
theorem rvxA : rvX (unCol eA) := by
  simp only [eA, eA0, eA1, pairE, colE, litE, unCol, unColL, rvX, rvXL, and_true]
  exact ⟨.null, ⟨.null, .null, .num 0 (by decide)⟩, .null, ⟨.null, .null, .null⟩, .num 1 (by decide)⟩
theorem rvxB : rvX eB := by
  simp only [eB, pairE, litE, rvX, rvXL, and_true]
  exact ⟨.null, .num 1 (by decide), .num 0 (by decide)⟩
theorem rvxC : rvX eC := by
  simp only [eC, eD, callE, colE, pairE, litE, rvX, rvXL, and_true]
  exact ⟨.null, ⟨.null, .null⟩, .num 1 (by decide)⟩
theorem rv70 : ∀ v ∈ row70, RV v := by
  intro v hv
  rcases (by simpa [row70] using hv : v = vNum 7 ∨ v = vNum 0) with rfl | rfl
  · exact .num 7 (by decide)
  · exact .num 0 (by decide)
theorem held_in {P : Nat → Prop} {W : World} {xs : List Ex} {g o n c : Nat} (h : Held P W xs (.slice (some ⟨g, o, none⟩) n c)) (h0 : 0 < xs.length) : P g := by
  cases h with
  | nil A c => exact absurd h0 (by simp)
  | cons g o c xs ss hg hl hu hrow hsub => exact hg
/-- What happens at the column of the first operand's first operand. -/
theorem store_col {P : Nat → Prop} {W : World} {x : Ex} {A : Option Addr} {n c : Nat} (h : Held P W x.args (.slice A n c)) (h0 : 0 < x.args.length) (h1 : 0 < x.args[0].args.length) :
    ∃ g o c1 g2 o2, A = some ⟨g, o, none⟩ ∧ W.cell? ⟨g, o + 9, none⟩ = some (.slice (some ⟨g2, o2, none⟩) x.args[0].args.length c1) ∧ P g2 ∧ g2 < W.heap.size ∧ W.frozen? ⟨g2, o2 + 7, none⟩ = false ∧ (∃ v, W.cell? ⟨g2, o2 + 7, none⟩ = some v)
      ∧ ∃ xs', unColL xs' = unColL x.args ∧ Held P (W.setCell ⟨g2, o2 + 7, none⟩ (.int .i64 1)) xs' (.slice A n c) ∧ ∀ (k0 : 0 < xs'.length) (k1 : 0 < xs'[0].args.length), xs'[0].args[0].col = 1 := by
  obtain ⟨g, o, A1, n1, c1, rfl, hr1, hh1⟩ := held_at h 0 h0
  obtain ⟨A1', c1', he1⟩ := held_len hh1
  have hn1 : n1 = x.args[0].args.length := by injection he1
  subst hn1
  clear he1 A1' c1'
  obtain ⟨g2, o2, A2, n2, c2, rfl, hr2, hh2⟩ := held_at hh1 0 h1
  simp only [Nat.zero_mul, Nat.add_zero] at hr1 hr2
  have hfz := held_frz hh1 0 7 h1 (by omega)
  simp only [Nat.zero_mul, Nat.add_zero] at hfz
  have hc7 := hr2 7 (by omega)
  have hc9 := hr1 9 (by omega)
  obtain ⟨xs', hu, hs⟩ := held_store hr2 1 h
  have hPg : P g2 := held_in hh1 h1
  refine ⟨g, o, c1, g2, o2, rfl, hc9, hPg, World.block_lt_of_cell? W _ hc7, hfz, ⟨_, hc7⟩, xs', hu, hs, fun k0 k1 => ?_⟩
  obtain ⟨g', o', A1', n1', c1'', e1, hr1', hh1'⟩ := held_at hs 0 k0
  injection e1 with e1
  injection e1 with e2 e3
  subst e2 e3
  simp only [Nat.zero_mul, Nat.add_zero] at hr1'
  have hc9' := hr1' 9 (by omega)
  rw [cell_set _ _ _ _ _ _ (by
    rintro ⟨e4, e5⟩
    subst e4
    exact absurd (row_apart rfl hr2 rfl hr1 9 (by omega) e5) (by omega)), hc9] at hc9'
  obtain ⟨g2', o2', A2', n2', c2', e6, hr2', hh2'⟩ := held_at hh1' 0 k1
  subst e6
  have hc9'' : Value.slice (some ⟨g2, o2, none⟩) x.args[0].args.length c1 = .slice (some ⟨g2', o2', none⟩) n1' c1'' := by simpa [exC] using hc9'
  injection hc9'' with e7 e8 e9
  injection e7 with e7
  injection e7 with e10 e11
  subst e10 e11
  simp only [Nat.zero_mul, Nat.add_zero] at hr2'
  have hc7' := hr2' 7 (by omega)
  rw [World.cell?_setCell_same (h := hc7)] at hc7'
  have : Value.int .i64 1 = .int .i64 (xs'[0].args[0].col) := by simpa [exC] using hc7'
  injection this with _ h
  exact h.symm
def Has2 (x : Ex) : Prop := x.args.length = 2 ∧ ∀ h : 0 < x.args.length, (x.args[0]'h).args.length = 2
theorem has2A : Has2 eA := ⟨rfl, fun _ => rfl⟩
def ColFix (x : Ex) : Prop := ∀ (xs : List Ex) (c : Int), unColL xs = unColL x.args → (∀ (k0 : 0 < xs.length) (k1 : 0 < (xs[0]'k0).args.length), ((xs[0]'k0).args[0]'k1).col = 1) → evE row70 [] (setCol x c xs) = .ok (vTru false) ∧ rvX (setCol x c xs) ∧ xs.length = 2
theorem colA : ColFix eA := fun xs c h1 h2 => by
  have hu := unCol_set (x := eA) (u := c) h1
  have hr : rvX (setCol eA c xs) := rvX_un _ (hu ▸ rvxA)
  obtain ⟨c2, c3, cc, y, rfl⟩ := shapeA h1
  obtain rfl := h2 (Nat.zero_lt_succ _) (Nat.zero_lt_succ _)
  exact ⟨evA c c2 c3 0 y, hr, rfl⟩
theorem env70 {W : World} {b : Nat} (h : W.heap[b]? = some (.cells #[.int .i64 2, .int .i64 7, .string ⟨#[]⟩, .int .i64 2, .int .i64 0, .string ⟨#[]⟩] 23 (0, 0))) : EnvW (fun _ => True) W (some ⟨b, 0, none⟩) none row70 [] :=
  ⟨fun _ => ⟨b, 0, rfl, fun i hi => by
    rcases (show i = 0 ∨ i = 1 by simp [row70] at hi; omega) with rfl | rfl
    · exact ⟨(blk_cell h 0).trans rfl, (blk_cell h 1).trans rfl, (blk_cell h 2).trans rfl⟩
    · exact ⟨(blk_cell h 3).trans rfl, (blk_cell h 4).trans rfl, (blk_cell h 5).trans rfl⟩⟩, by decide, rv70, fun h0 => absurd h0 (by simp), by simp, (fun _ hq => by cases hq), (fun _ hq => by cases hq)⟩
abbrev rowK : Obj := .cells #[.int .i64 2, .int .i64 7, .string ⟨#[]⟩, .int .i64 2, .int .i64 0, .string ⟨#[]⟩] 23 (0, 0)
/-- Eval over the row of works. -/
theorem eval70 {x : Ex} (hx : rvX x) {r : Ev} (he : evE row70 [] x = r) {P : Nat → Prop} {A : Option Addr} {c m : Nat} (hm : x.args.length = m) {b : Nat} {w : World} (hr : w.heap[b]? = some rowK) (hh : Held P w x.args (.slice A m c)) :
    Calls Tryz.prog 11 #[exV x (.slice A m c), .slice (some ⟨b, 0, none⟩) 2 2, .slice none 0 0] w fun e w' => e = .returned (.tuple #[vC (resVal r), .int .i64 (resNum r)]) ∧ Below w.heap.size w w' := by
  subst hm he
  exact (eval_calls row70 [] x hx _ _ A (some ⟨b, 0, none⟩) none c 2 0 w (env70 hr) hh).mono fun e w' h => ev2_form h
theorem evalB {P : Nat → Prop} {A : Option Addr} {c b : Nat} {w : World} (hr : w.heap[b]? = some rowK) (hh : Held P w eB.args (.slice A eB.args.length c)) :
    Calls Tryz.prog 11 #[exV eB (.slice A eB.args.length c), .slice (some ⟨b, 0, none⟩) 2 2, .slice none 0 0] w fun e w' => e = .returned (.tuple #[.agg #[.int .i64 0, .int .i64 0, .string ⟨#[]⟩], .int .i64 41]) ∧ Below w.heap.size w w' := eval70 rvxB evB rfl hr hh
theorem evalA {P : Nat → Prop} {x : Ex} {xs : List Ex} (hx : rvX (setCol x x.col xs)) (he : evE row70 [] (setCol x x.col xs) = .ok (vTru false)) (hl : xs.length = 2) {A : Option Addr} {c b : Nat} {w : World} (hr : w.heap[b]? = some rowK) (hh : Held P w xs (.slice A 2 c)) :
    Calls Tryz.prog 11 #[.agg #[.int .i64 x.kind, .int .i64 x.op, .int .i64 x.v.kind, .int .i64 x.v.int, .string ⟨x.v.text.toArray⟩, .string ⟨x.table.toArray⟩, .string ⟨x.name.toArray⟩, .int .i64 x.col, .int .i64 x.ty, .slice A 2 c], .slice (some ⟨b, 0, none⟩) 2 2, .slice none 0 0] w fun e w' => e = .returned (.tuple #[.agg #[.int .i64 1, .int .i64 0, .string ⟨#[]⟩], .int .i64 0]) ∧ Below w.heap.size w w' := eval70 hx he hl hr hh
abbrev knK (A : Option Addr) (c : Nat) : Obj := .cells #[.int .i64 6, .int .i64 2, .int .i64 0, .int .i64 0, .string ⟨#[]⟩, .string ⟨#[]⟩, .string ⟨#[]⟩, .int .i64 0, .int .i64 0, .slice A 1 c, .int .i64 2, .int .i64 5, .string ⟨#[]⟩] 39 (0, 0)
theorem knD {P : Nat → Prop} {W : World} {b c : Nat} {A : Option Addr} (h : W.heap[b]? = some (knK A c)) (hh : Held P W eD.args (.slice A 1 c)) : KnSl P W (some ⟨b, 0, none⟩) [(eD, vNum 5)] := fun _ => by
  refine ⟨b, 0, rfl, fun i hi => ?_⟩
  obtain rfl : i = 0 := by simp at hi; omega
  refine ⟨A, 1, c, fun j hj => ?_, hh, ?_⟩
  · rcases (show j = 0 ∨ j = 1 ∨ j = 2 ∨ j = 3 ∨ j = 4 ∨ j = 5 ∨ j = 6 ∨ j = 7 ∨ j = 8 ∨ j = 9 by omega) with rfl | rfl | rfl | rfl | rfl | rfl | rfl | rfl | rfl | rfl <;> exact (blk_cell h _).trans rfl
  · exact ⟨(blk_cell h 10).trans rfl, (blk_cell h 11).trans rfl, (blk_cell h 12).trans rfl⟩
theorem evalC {P Q : Nat → Prop} {A A' : Option Addr} {c c' b b' : Nat} {w : World} (hr : w.heap[b]? = some rowK) (hk : w.heap[b']? = some (knK A' c')) (hd : Held P w eD.args (.slice A' 1 c')) (hh : Held Q w eC.args (.slice A eC.args.length c)) :
    Calls Tryz.prog 11 #[exV eC (.slice A eC.args.length c), .slice (some ⟨b, 0, none⟩) 2 2, .slice (some ⟨b', 0, none⟩) 1 1] w fun e w' => e = .returned (.tuple #[.agg #[.int .i64 2, .int .i64 6, .string ⟨#[]⟩], .int .i64 0]) ∧ Below w.heap.size w w' := by
  have he : EnvW P w (some ⟨b, 0, none⟩) (some ⟨b', 0, none⟩) row70 [(eD, vNum 5)] := ⟨(env70 hr).vals, by decide, rv70, knD hk hd, by simp, (fun q hq => by
    obtain rfl := List.mem_singleton.mp hq
    exact .num 5 (by decide)), (fun q hq => by
    obtain rfl := List.mem_singleton.mp hq
    exact few_of eD (by decide))⟩
  refine (eval_calls row70 [(eD, vNum 5)] eC rvxC _ _ A (some ⟨b, 0, none⟩) (some ⟨b', 0, none⟩) c 2 1 w he hh).mono fun e w' h => ?_
  have := ev2_form h
  rw [evC] at this
  exact this
end Go.Proofs.YtbeeaikilcnpgaaGreatDoor.Exp

/- quarrylaw16.works: the walk. -/
set_option linter.unusedVariables false
set_option linter.unusedSimpArgs false
namespace Go.Proofs.YtbeeaikilcnpgaaGreatDoor.Exp
open Go.RowKit Go.Proofs.YtbeeaikilcnpgaaGreatDoor.Base Go.Proofs.YtbeeaikilcnpgaaGreatDoor.App Go.Proofs.YtbeeaikilcnpgaaGreatDoor.Byt Go.Proofs.YtbeeaikilcnpgaaGreatDoor.Lex

set_option maxRecDepth 100000 in
set_option maxHeartbeats 12800000 in
theorem works16_calls (w : World) (h : LexW w) : Calls Tryz.prog 6 #[] w fun e w' => e = .returned (.bool true) ∧ Below w.heap.size w w' := by
  have HW := Asd.mk h
  clear h
  have HR := Asd.mk (blk_new w (.cells #[.int .i64 2, .int .i64 7, .string ⟨#[]⟩, .int .i64 2, .int .i64 0, .string ⟨#[]⟩] 23 (0, 0)))
  have HB1 : Asd (Below w.heap.size w (w.alloc (.cells #[.int .i64 2, .int .i64 7, .string ⟨#[]⟩, .int .i64 2, .int .i64 0, .string ⟨#[]⟩] 23 (0, 0)))) := Asd.mk (below_alloc (Below.refl _ _) _)
  go_enter Tryz.func6, Tryz.ntmps6
  go_upto_region 2 with fail
  generalize w.alloc (.cells #[.int .i64 2, .int .i64 7, .string ⟨#[]⟩, .int .i64 2, .int .i64 0, .string ⟨#[]⟩] 23 (0, 0)) = w1 at HR HB1 ⊢
  have HW1 := Asd.mk (HW.out.below HB1.out)
  have HZ1 : Asd (w.heap.size < w1.heap.size) := Asd.mk (blk_lt HR.out)
  go_wp2_with fail
  refine (read16_of lexA (by decide) readA w1 HW1.out).mono ?_
  rintro e w2 ⟨hb2, As, cs, rfl, hh⟩
  have HB2 : Asd (Below w.heap.size w w2) := Asd.mk (HB1.out.trans (hb2.mono HB1.out.size))
  have HR2 := Asd.mk (blk_below hb2 HR.out)
  have HX0 : Asd (exV eA (.slice As eA.args.length cs) = .agg #[.int .i64 eA.kind, .int .i64 eA.op, .int .i64 eA.v.kind, .int .i64 eA.v.int, .string ⟨eA.v.text.toArray⟩, .string ⟨eA.table.toArray⟩, .string ⟨eA.name.toArray⟩, .int .i64 eA.col, .int .i64 eA.ty, .slice As eA.args.length cs]) := Asd.mk rfl
  have HC := Asd.mk colA
  have H2 := Asd.mk has2A
  rw [HX0.out]
  generalize eA = x at hh HC H2 ⊢
  clear HX0
  have HX3 := Asd.mk (blk_new w2 (.cells #[.int .i64 x.kind, .int .i64 x.op, .int .i64 x.v.kind, .int .i64 x.v.int, .string ⟨x.v.text.toArray⟩, .string ⟨x.table.toArray⟩, .string ⟨x.name.toArray⟩, .int .i64 x.col, .int .i64 x.ty, .slice As x.args.length cs] 26 (0, 0)))
  have HB3 : Asd (Below w2.heap.size w2 (w2.alloc (.cells #[.int .i64 x.kind, .int .i64 x.op, .int .i64 x.v.kind, .int .i64 x.v.int, .string ⟨x.v.text.toArray⟩, .string ⟨x.table.toArray⟩, .string ⟨x.name.toArray⟩, .int .i64 x.col, .int .i64 x.ty, .slice As x.args.length cs] 26 (0, 0)))) := Asd.mk (below_alloc (Below.refl _ _) _)
  go_upto_region 3 with fail
  generalize w2.alloc (.cells #[.int .i64 x.kind, .int .i64 x.op, .int .i64 x.v.kind, .int .i64 x.v.int, .string ⟨x.v.text.toArray⟩, .string ⟨x.table.toArray⟩, .string ⟨x.name.toArray⟩, .int .i64 x.col, .int .i64 x.ty, .slice As x.args.length cs] 26 (0, 0)) = w3 at HX3 HB3 ⊢
  have HH3 := Asd.mk (held_below (held_mono (Q := fun g => w1.heap.size ≤ g ∧ g < w2.heap.size) hh (fun g hlt hg => ⟨hg, hlt⟩)) HB3.out)
  have HR3 := Asd.mk (blk_below HB3.out HR2.out)
  have HB30 : Asd (Below w.heap.size w w3) := Asd.mk (chain_below HB2.out HB3.out HB2.out.size)
  clear hh hb2
  obtain ⟨hl0, hl2⟩ := H2.out
  have HLN := Asd.mk hl0
  have h0 : 0 < x.args.length := by omega
  have hl1 := hl2 h0
  have h1 : 0 < x.args[0].args.length := by omega
  obtain ⟨g, o, c1, g2, o2, rfl, k9, hP, hlt, hfz, ⟨vo, k7⟩, xs', hu, hs, hcol⟩ := store_col HH3.out h0 h1
  rw [hl1] at k9
  rw [HLN.out] at hs ⊢
  clear hl1 h1 h0 hl0 hl2 H2
  obtain ⟨hev, hrv, hxl⟩ := HC.out xs' x.col hu (hcol)
  have HEV := Asd.mk hev
  have HRV := Asd.mk hrv
  have HXL := Asd.mk hxl
  have HH4 := Asd.mk hs
  clear hu hev hrv hxl hs hcol HC
  have e9 : w3.cell? ⟨w2.heap.size, 9, none⟩ = some (.slice (some ⟨g, o, none⟩) 2 cs) := (blk_cell HX3.out 9).trans (by rw [HLN.out]; rfl)
  have hP1 := hP.1
  have hP2 := hP.2
  have hne1 : w2.heap.size ≠ g2 := by omega
  have hne2 : w.heap.size ≠ g2 := by have := HZ1.out; omega
  have HF4 : Asd (Fr (fun k => k = g2) w3 (w3.setCell ⟨g2, o2 + 7, none⟩ (.int .i64 1))) := Asd.mk (Fr.setCell (p := ⟨g2, o2 + 7, none⟩) (Fr.refl (fun k => k = g2) w3) rfl _)
  have HB4 : Asd (Below w.heap.size w (w3.setCell ⟨g2, o2 + 7, none⟩ (.int .i64 1))) := Asd.mk (below_set (p := ⟨g2, o2 + 7, none⟩) HB30.out (by have := HZ1.out; show w.heap.size ≤ g2; omega) _)
  go_wp2_with fail
  generalize w3.setCell ⟨g2, o2 + 7, none⟩ (.int .i64 1) = w4 at HF4 HB4 HH4 ⊢
  have HX4 := Asd.mk (blk_fr HX3.out HF4.out hne1)
  have HR4 := Asd.mk (blk_fr HR3.out HF4.out hne2)
  clear e9 k7 k9 hfz hlt hne1 hne2 hP1 hP2 hP HX3 HR3 HF4 HB3 HR HR2 HB1 HB2 HH3
  have HX4b : Asd (w4.heap[w2.heap.size]? = some (.cells #[.int .i64 x.kind, .int .i64 x.op, .int .i64 x.v.kind, .int .i64 x.v.int, .string ⟨x.v.text.toArray⟩, .string ⟨x.table.toArray⟩, .string ⟨x.name.toArray⟩, .int .i64 x.col, .int .i64 x.ty, .slice (some ⟨g, o, none⟩) 2 cs] 26 (0, 0))) := Asd.mk (by rw [← HLN.out]; exact HX4.out)
  clear HX4 HLN
  have HW4 := Asd.mk (HW.out.below HB4.out)
  refine (read16_of lexB (by decide) readB w4 HW4.out).mono ?_
  rintro e w5 ⟨hb5, A5, c5, rfl, hh5⟩
  have HR5 := Asd.mk (blk_below hb5 HR4.out)
  have HX5 := Asd.mk (blk_below hb5 HX4b.out)
  have HH5 := Asd.mk (held_below HH4.out hb5)
  have HB5 : Asd (Below w.heap.size w w5) := Asd.mk (chain_below HB4.out hb5 HB4.out.size)
  clear hb5 HR4 HX4b HH4 HB4
  go_wp2_with fail
  refine (evalB HR5.out hh5).mono ?_
  rintro e w6 ⟨rfl, hb6⟩
  clear hh5
  have HR6 := Asd.mk (blk_below hb6 HR5.out)
  have HX6 := Asd.mk (blk_below hb6 HX5.out)
  have HH6 := Asd.mk (held_below HH5.out hb6)
  have HB6 : Asd (Below w.heap.size w _) := Asd.mk (chain_below HB5.out hb6 HB5.out.size)
  clear HR5 HX5 HH5 HB5
  clear hb6
  have HV7 := Asd.mk (blk_new w6 (.cells #[.int .i64 0, .int .i64 0, .string ⟨#[]⟩] 23 (0, 0)))
  have hba7 : Below w6.heap.size w6 (w6.alloc (.cells #[.int .i64 0, .int .i64 0, .string ⟨#[]⟩] 23 (0, 0))) := below_alloc (Below.refl _ _) _
  have HR7 := Asd.mk (blk_below hba7 HR6.out)
  have HX7 := Asd.mk (blk_below hba7 HX6.out)
  have HH7 := Asd.mk (held_below HH6.out hba7)
  have HB7 : Asd (Below w.heap.size w _) := Asd.mk (chain_below HB6.out hba7 HB6.out.size)
  clear HR6 HX6 HH6 HB6
  go_upto_region 7 with fail
  clear HV7 hba7
  generalize w6.alloc (.cells #[.int .i64 0, .int .i64 0, .string ⟨#[]⟩] 23 (0, 0)) = w7 at HR7 HX7 HH7 HB7 ⊢
  obtain ⟨f0, f1, f2, f3, f4, f5, f6, f7, f8, f9⟩ := ex_cells (x := x) HX7.out
  go_wp2_with fail
  refine (evalA HRV.out HEV.out HXL.out HR7.out HH7.out).mono ?_
  rintro e w8 ⟨rfl, hb8⟩
  clear f0 f1 f2 f3 f4 f5 f6 f7 f8 f9 HH7 HX7 HRV HEV HXL
  have HR8 := Asd.mk (blk_below hb8 HR7.out)
  have HB8 : Asd (Below w.heap.size w _) := Asd.mk (chain_below HB7.out hb8 HB7.out.size)
  clear HR7 HB7
  clear hb8
  have HV9 := Asd.mk (blk_new w8 (.cells #[.int .i64 1, .int .i64 0, .string ⟨#[]⟩] 23 (0, 0)))
  have hba9 : Below w8.heap.size w8 (w8.alloc (.cells #[.int .i64 1, .int .i64 0, .string ⟨#[]⟩] 23 (0, 0))) := below_alloc (Below.refl _ _) _
  have HR9 := Asd.mk (blk_below hba9 HR8.out)
  have HB9 : Asd (Below w.heap.size w _) := Asd.mk (chain_below HB8.out hba9 HB8.out.size)
  clear HR8 HB8
  go_upto_region 8 with fail
  clear hba9
  generalize w8.alloc (.cells #[.int .i64 1, .int .i64 0, .string ⟨#[]⟩] 23 (0, 0)) = w9 at HR9 HV9 HB9 ⊢
  have HW9 := Asd.mk (HW.out.below HB9.out)
  go_wp2_with fail
  refine (read16_of lexC (by decide) readC w9 HW9.out).mono ?_
  rintro e w10 ⟨hb10, A10, c10, rfl, hh10⟩
  have HH10 := Asd.mk hh10
  clear hh10
  have HR10 := Asd.mk (blk_below hb10 HR9.out)
  have HV10 := Asd.mk (blk_below hb10 HV9.out)
  have HB10 : Asd (Below w.heap.size w _) := Asd.mk (chain_below HB9.out hb10 HB9.out.size)
  clear HR9 HV9 HB9
  clear hb10
  have HW10 := Asd.mk (HW.out.below HB10.out)
  go_wp2_with fail
  refine (read16_of lexD (by decide) readD w10 HW10.out).mono ?_
  rintro e w11 ⟨hb11, A11, c11, rfl, hh11⟩
  have HD11 := Asd.mk hh11
  clear hh11
  have HR11 := Asd.mk (blk_below hb11 HR10.out)
  have HV11 := Asd.mk (blk_below hb11 HV10.out)
  have HH11 := Asd.mk (held_below HH10.out hb11)
  have HB11 : Asd (Below w.heap.size w _) := Asd.mk (chain_below HB10.out hb11 HB10.out.size)
  clear HR10 HV10 HH10 HB10
  clear hb11
  rw [show exV eD (.slice A11 eD.args.length c11) = .agg #[.int .i64 6, .int .i64 2, .int .i64 0, .int .i64 0, .string ⟨#[]⟩, .string ⟨#[]⟩, .string ⟨#[]⟩, .int .i64 0, .int .i64 0, .slice A11 1 c11] from rfl]
  have HK12 := Asd.mk (blk_new w11 (knK A11 c11))
  have hba12 : Below w11.heap.size w11 (w11.alloc (knK A11 c11)) := below_alloc (Below.refl _ _) _
  have HD12 := Asd.mk (held_below HD11.out hba12)
  have HR12 := Asd.mk (blk_below hba12 HR11.out)
  have HV12 := Asd.mk (blk_below hba12 HV11.out)
  have HH12 := Asd.mk (held_below HH11.out hba12)
  have HB12 : Asd (Below w.heap.size w _) := Asd.mk (chain_below HB11.out hba12 HB11.out.size)
  clear HR11 HV11 HH11 HB11
  go_wp2_with fail
  clear hba12
  refine (evalC HR12.out HK12.out HD12.out HH12.out).mono ?_
  rintro e w13 ⟨rfl, hb13⟩
  have HV13 := Asd.mk (blk_below hb13 HV12.out)
  have HB13 : Asd (Below w.heap.size w _) := Asd.mk (chain_below HB12.out hb13 HB12.out.size)
  clear HV12 HB12
  clear hb13 HR12 HK12 HD12 HH12
  have HU14 := Asd.mk (blk_new w13 (.cells #[.int .i64 2, .int .i64 6, .string ⟨#[]⟩] 23 (0, 0)))
  have hba14 : Below w13.heap.size w13 (w13.alloc (.cells #[.int .i64 2, .int .i64 6, .string ⟨#[]⟩] 23 (0, 0))) := below_alloc (Below.refl _ _) _
  have HV14 := Asd.mk (blk_below hba14 HV13.out)
  have HB14 : Asd (Below w.heap.size w _) := Asd.mk (chain_below HB13.out hba14 HB13.out.size)
  clear HV13 HB13
  go_upto_region 9 with fail
  clear hba14
  generalize w13.alloc (.cells #[.int .i64 2, .int .i64 6, .string ⟨#[]⟩] 23 (0, 0)) = w14 at HU14 HV14 HB14 ⊢
  have g0 := (blk_cell HV14.out 0).trans rfl
  have g1 := (blk_cell HV14.out 1).trans rfl
  have g2 := (blk_cell HV14.out 2).trans rfl
  have k0 := (blk_cell HU14.out 0).trans rfl
  have k1 := (blk_cell HU14.out 1).trans rfl
  have k2 := (blk_cell HU14.out 2).trans rfl
  have q1 : ∀ W, (binOp .eql 23 (.agg #[.int .i64 1, .int .i64 0, .string ⟨#[]⟩]) (.agg #[.int .i64 1, .int .i64 0, .string ⟨#[]⟩])).run Tryz.prog W = .ok (.bool true) W := fun W => by rw [val_eql]; simp
  have q2 : ∀ W, (binOp .eql 23 (.agg #[.int .i64 2, .int .i64 6, .string ⟨#[]⟩]) (.agg #[.int .i64 2, .int .i64 6, .string ⟨#[]⟩])).run Tryz.prog W = .ok (.bool true) W := fun W => by rw [val_eql]; simp
  go_wp2
  go_ret
  exact ⟨ret_eq rfl, HB14.out⟩
end Go.Proofs.YtbeeaikilcnpgaaGreatDoor.Exp

/- EvalConstant: the arguments as they come in. -/
set_option linter.unusedVariables false
set_option linter.unusedSimpArgs false
namespace Go.Proofs.YtbeeaikilcnpgaaGreatDoor.Exp
open Go.RowKit Go.Proofs.YtbeeaikilcnpgaaGreatDoor.Base Go.Proofs.YtbeeaikilcnpgaaGreatDoor.App Go.Proofs.YtbeeaikilcnpgaaGreatDoor.Byt Go.Proofs.YtbeeaikilcnpgaaGreatDoor.Lex

set_option maxRecDepth 100000 in
theorem open_exv {H : Type} {enc : TypeId × Value → H} (W : World) (v : Value) (d : DataW H) (p : List MemPlace) (h : DataW.Trod enc Tryz.prog W 0 (fun _ => true) true 26 v d p) (hb : Rows.uptoBulk d ≤ 1048576) (hz : W.noneFrozen p) :
    ∃ x A c, v = exV x (.slice A x.args.length c) ∧ Held (fun _ => True) W x.args (.slice A x.args.length c) ∧ bulkX x ≤ 1048576 ∧ rngX x := by
  obtain ⟨m, hm⟩ := h
  obtain ⟨x, s, hc, hh, hbk, hr⟩ := open_ex 1048576 m _ _ hb hz hm
  obtain ⟨A, c, rfl⟩ := held_len hh
  refine ⟨x, A, c, ?_, hh, Nat.le_trans hbk hb, hr⟩
  have hcc : v.cells = (exC x (.slice A x.args.length c)).toArray := by rw [← hc]
  cases v with
  | agg cs => exact congrArg Value.agg hcc
  | _ => exact absurd (congrArg Array.size hcc) (by simp [Value.cells, exC])
set_option maxRecDepth 100000 in
theorem open_rowv {H : Type} {enc : TypeId × Value → H} (W : World) (v : Value) (d : DataW H) (p : List MemPlace) {base : Nat} (ok : Value.okWide Tryz.prog W .any base 27 v) (h : DataW.Trod enc Tryz.prog W 0 (fun _ => true) true 27 v d p) (hb : Rows.uptoBulk d ≤ 1048576) :
    ∃ A c vs, v = .slice A vs.length c ∧ RowW W A vs := by
  obtain ⟨m, hm⟩ := h
  obtain ⟨A', n', c', rfl⟩ := Go.WideShapes.okWide_slice Tryz.underlying27 ok
  obtain ⟨A, c, vs, hc, hv, hl, hr⟩ := open_vals hm
  refine ⟨A, c, vs, ?_, hv, Nat.le_trans hl hb, fun u hu => ⟨(hr u hu).1, Nat.le_trans (hr u hu).2 (Nat.le_trans hb (by unfold reachBytes; omega))⟩⟩
  simpa [Value.cells] using hc
set_option maxRecDepth 100000 in
theorem constant_raw {H : Type} {enc : TypeId × Value → H} (W : World) (v0 : Value) (d0 : DataW H) (p0 : List MemPlace) {base : Nat} (ok0 : Value.okWide Tryz.prog W .any base 26 v0) (h0 : DataW.Trod enc Tryz.prog W 0 (fun _ => true) true 26 v0 d0 p0) (b0 : Rows.uptoBulk d0 ≤ 1048576) (z0 : W.noneFrozen p0)
    (v1 : Value) (d1 : DataW H) (p1 : List MemPlace) (ok1 : Value.okWide Tryz.prog W .any base 27 v1) (h1 : DataW.Trod enc Tryz.prog W 0 (fun _ => true) true 27 v1 d1 p1) (b1 : Rows.uptoBulk d1 ≤ 1048576) (z1 : W.noneFrozen p1)
    (v2 : Value) (d2 : DataW H) (p2 : List MemPlace) (ok2 : Value.okWide Tryz.prog W .any base 27 v2) (h2 : DataW.Trod enc Tryz.prog W 0 (fun _ => true) true 27 v2 d2 p2) (b2 : Rows.uptoBulk d2 ≤ 1048576) (z2 : W.noneFrozen p2) (hl : LexW W) :
    Calls Tryz.prog 3 #[v0, v1, v2] W fun e w' => e = .returned (.bool true) ∧ Below W.heap.size W w' := by
  obtain ⟨x, A, c, rfl, hh, hbk, hr⟩ := open_exv W v0 d0 p0 h0 b0 z0
  obtain ⟨RA, ca, us, rfl, hra⟩ := open_rowv W v1 d1 p1 ok1 h1 b1
  obtain ⟨RB, cb, vs, rfl, hrb⟩ := open_rowv W v2 d2 p2 ok2 h2 b2
  exact constant_calls works16_calls x hbk hr A c us vs RA RB ca cb W hl hh hra hrb
end Go.Proofs.YtbeeaikilcnpgaaGreatDoor.Exp

/- The package-level variables that the rows list: what a world that holds them gives, and one that does. -/
set_option linter.unusedVariables false
namespace Go.Proofs.YtbeeaikilcnpgaaGreatDoor.Laid
open Go.ChangeShapes Go.WideShapes Go.ChangeAt Go.RowKit

def part1 : DataW Unit → List Value
  | .lit (.int k n) => [.int k n]
  | _ => []
def part2 : DataW Unit → List Value
  | .lit (.int k n) => [.int k n]
  | .agg l => l.flatMap part1
  | _ => []
/-- The cells of a table's data. -/
def flat : DataW Unit → List Value
  | .agg l => l.flatMap part2
  | _ => []
/-- The tables laid into a world. -/
def lay (P : Program) : List (String × DataW Unit) → World → World
  | [], w => w
  | (n, d) :: l, w => lay P l (match P.globalNamed n with
    | some g => { w with heap := w.heap.modify g fun
        | .cells _ t fr => .cells (flat d).toArray t fr
        | o => o }
    | none => w)
theorem pow_of {l : List (String × DataW Unit)} {W : World} (h : laidMetH Tryz.prog l W) (hl : l.filter (fun x => x.1 == "internal/strconv.uint64pow10") = [("internal/strconv.uint64pow10", Lib.tabData .u64 Lib.pow10Tab)]) {g n : Nat} {t e : TypeId}
    (hg : Tryz.prog.globalNamed "internal/strconv.uint64pow10" = some g) (hty : (Tryz.prog.globals[g]?).map (·.type) = some t) (ht : Tryz.prog.underlying t = some (.array n e)) (he : Tryz.prog.underlying e = some (.int .u64)) (hce : Tryz.prog.cellsOf e = 1) (hct : Tryz.prog.cellsOf t = n) :
    Lib.TabIs Tryz.prog W "internal/strconv.uint64pow10" .u64 Lib.pow10Tab := by
  have h2 := h.filter (fun x => x.1 == "internal/strconv.uint64pow10")
  rw [hl] at h2
  exact Lib.tabIs_of_head (rest := []) hg hty ht he hce hct (by rw [MakeChecks.laidMetH_plain _ _ _ (by rfl)] at h2; exact h2)
end Go.Proofs.YtbeeaikilcnpgaaGreatDoor.Laid

/- What these rows list: tables and two sentinels. -/
set_option linter.unusedVariables false
namespace Go.Proofs.YtbeeaikilcnpgaaGreatDoor.Laid
open Go.ChangeShapes Go.WideShapes Go.ChangeAt Go.RowKit

theorem star : "*" ++ "errors.errorString" = "*errors.errorString" := by decide
theorem rowErr (u : TypeId) (h : Tryz.prog.typeName? 3 u = some "*errors.errorString") : u = 169 :=
  typeName_ptr_named (nm := "errors.errorString") (by rw [star]; kernel_rfl) (by kernel_rfl) (by decide) u (by rw [star]; exact h)
theorem sent_of {l : List (String × DataW Unit)} {W : World} (h : laidMetH Tryz.prog l W) {n : String} {text : List UInt8} {g : Nat} (hl : l.filter (fun x => x.1 == n) = [(n, .iface "*errors.errorString" (.ptr (.agg [.lit (.string text)])))])
    (hg : Tryz.prog.globalNamed n = some g) (hty : (Tryz.prog.globals[g]?).map (·.type) = some 62) : ∃ t p, W.cell? ⟨g, 0, none⟩ = some (.iface t p) := by
  have h2 := h.filter (fun x => x.1 == n)
  rw [hl] at h2
  rw [MakeChecks.laidMetH_plain _ _ _ (by rfl)] at h2
  obtain ⟨a, s, hv, _⟩ := laid_sentinel h2 hg hty Tryz.underlying62 rowErr Tryz.underlying169 Tryz.underlying171 rfl rfl Tryz.underlying9 (by kernel_rfl) (by kernel_rfl)
  exact ⟨_, _, by simpa using World.var?_cell hg hv 0⟩
theorem lexW_of {l : List (String × DataW Unit)} {W : World} (hs : W.ShapedOpen Tryz.prog) (h : laidMetH Tryz.prog l W) {t3 t4 : List UInt8}
    (h3 : l.filter (fun x => x.1 == "strconv.ErrSyntax") = [("strconv.ErrSyntax", .iface "*errors.errorString" (.ptr (.agg [.lit (.string t3)])))])
    (h4 : l.filter (fun x => x.1 == "strconv.ErrRange") = [("strconv.ErrRange", .iface "*errors.errorString" (.ptr (.agg [.lit (.string t4)])))]) : Lex.LexW W :=
  ⟨hs, sent_of h h3 (by kernel_rfl) (by kernel_rfl), sent_of h h4 (by kernel_rfl) (by kernel_rfl)⟩

/-- A world in which all that is listed lies. -/
noncomputable def errWorld (w : World) : World :=
  let N := w.heap.size
  { w with heap := (((w.heap.modify 1 fun
      | .cells _ t fr => .cells #[.iface 169 (.pointer (some ⟨N, 0, none⟩))] t fr
      | o => o).modify 2 fun
      | .cells _ t fr => .cells #[.iface 169 (.pointer (some ⟨N + 1, 0, none⟩))] t fr
      | o => o).push (.cells #[.string ⟨#[105, 110, 118, 97, 108, 105, 100, 32, 115, 121, 110, 116, 97, 120]⟩] 171)).push (.cells #[.string ⟨#[118, 97, 108, 117, 101, 32, 111, 117, 116, 32, 111, 102, 32, 114, 97, 110, 103, 101]⟩] 171) }
end Go.Proofs.YtbeeaikilcnpgaaGreatDoor.Laid
