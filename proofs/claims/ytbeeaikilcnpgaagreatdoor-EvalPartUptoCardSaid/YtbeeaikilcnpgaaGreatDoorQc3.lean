/- Texts put together: Rd8, Rd10, Rd11, Rd12, Rd13, Rd14, Rd15. -/
import Derived.Test.YtbeeaikilcnpgaaGreatDoorQc2
import Derived.Deep.DeepCutAuto
/- The reader of expressions: within, name. -/
set_option linter.unusedVariables false
set_option linter.unusedSimpArgs false
namespace Go.Proofs.YtbeeaikilcnpgaaGreatDoor.Exp
open Go.RowKit Go.Proofs.YtbeeaikilcnpgaaGreatDoor.Base Go.Proofs.YtbeeaikilcnpgaaGreatDoor.App Go.Proofs.YtbeeaikilcnpgaaGreatDoor.Byt Go.Proofs.YtbeeaikilcnpgaaGreatDoor.Lex

/-- How what is read within something ends: Q holds behind it. -/
def Ins (R : Nat) (A : Option Addr) (m c : Nat) (l : Toks) (d : Nat) (r : Except (Nat × Int) Nat) (Q : World → Prop) (e : Ending) (w' : World) : Prop := match r with
  | .ok j => e = .returned (.tuple #[]) ∧ RdW w' R A m c l j d ∧ Q w'
  | .error x => Thrown e w' x.1 x.2

set_option maxRecDepth 100000 in
set_option maxHeartbeats 6400000 in
theorem within_calls (G : FuncId) (cap : Array Value) (S : Nat → Prop) (R : Nat) (A : Option Addr) (m c : Nat) (l : Toks) (i d : Nat) (r : Except (Nat × Int) Nat) (Q : World → Prop) (w : World) (hnear : Near l) (hS : S R) (hgo : IsGo G) (hi : i < l.length) (hd : d ≤ 32)
    (hQ : ∀ W v, Q W → Q (W.setCell ⟨R, 2, none⟩ v)) (h : RdW w R A m c l i d)
    (hin : d < 32 → ∀ w', Fr (fun k => k = R) w w' → RdW w' R A m c l (i + 1) (d + 1) → Calls Tryz.prog G cap w' fun e w'' => Fr S w' w'' ∧ Ins R A m c l (d + 1) r Q e w'') :
    Calls Tryz.prog 104 #[.pointer (some ⟨R, 0, none⟩), .func (.func G) #[] cap] w fun e w' => Fr S w w' ∧ Ins R A m c l d (if d < 32 then r else .error (stopAt l i, 21)) Q e w' := by
  have HH := Asd.mk h
  have HIN := Asd.mk hin
  have HQ := Asd.mk hQ
  have HNE := Asd.mk hnear
  have HS := Asd.mk hS
  have hcf : ∀ (args : Array Value) (w : World), (callFunc G args).run Tryz.prog w = .ok (.enter G args) w := hgo
  have r1 := (blk_cell h.blk 1).trans rfl
  have r2 := (blk_cell h.blk 2).trans rfl
  have z1 := blk_frozen h.blk 1
  have z2 := blk_frozen h.blk 2
  have hmb := h.tok.2.1
  have hml := h.tok.1
  have hib : i ≤ 16384 := by omega
  clear h hin hQ hnear hS hgo
  go_enter Tryz.func104, Tryz.ntmps104
  by_cases hlt : d < 32
  · rw [if_pos hlt]
    have hge : ¬ (32 : Int) ≤ (d : Int) := by omega
    have hs1 := HH.out.setD (d + 1)
    have hs2 := hs1.2.set (j := i + 1) (by omega)
    have HW2 := Asd.mk hs2.2
    have HF2 := Asd.mk (frR_trans hs1.1 hs2.1)
    have HLT := Asd.mk hlt
    clear hml hs1 hs2
    go_wp2_with fail
    change Calls _ _ _ ((w.setCell ⟨R, 2, none⟩ (.int .i64 ((d + 1 : Nat) : Int))).setCell ⟨R, 1, none⟩ (.int .i64 ((i + 1 : Nat) : Int))) _
    generalize ((w.setCell ⟨R, 2, none⟩ (.int .i64 ((d + 1 : Nat) : Int))).setCell ⟨R, 1, none⟩ (.int .i64 ((i + 1 : Nat) : Int))) = w2 at HW2 HF2 ⊢
    refine (HIN.out HLT.out w2 HF2.out HW2.out).mono ?_
    rintro e w3 ⟨hf3, hm⟩
    have HF3 : Asd (Fr S w w3) := Asd.mk ((HF2.out.mono (fun k hk _ => by rw [hk]; exact HS.out)).trans hf3 (fun _ h _ => h) (fun _ h _ => h))
    cases r with
    | error x =>
      obtain ⟨N, rfl, hN⟩ := hm
      go_wp2
      exact ⟨rfl, HF3.out, N, rfl, hN⟩
    | ok j =>
      obtain ⟨rfl, hr3, hq3⟩ := hm
      have HR3 := Asd.mk hr3
      have HQ3 := Asd.mk hq3
      have r1 := (blk_cell hr3.blk 1).trans rfl
      have r2 := (blk_cell hr3.blk 2).trans rfl
      have z2 := blk_frozen hr3.blk 2
      have hs3 := hr3.setD d
      have HS3 := Asd.mk hs3.2
      have HSF := Asd.mk hs3.1
      have hdd : ((d + 1 : Nat) : Int) - 1 = (d : Int) := by omega
      clear hr3 hq3 hf3 hs3
      go_wp2
      refine bodyPost_end (results_none rfl _ _ _) rfl ?_
      exact ⟨HF3.out.setCell HS.out _, rfl, HS3.out, HQ.out _ _ HQ3.out⟩
  · rw [if_neg hlt]
    have hge : (32 : Int) ≤ (d : Int) := by omega
    clear hml
    go_wp2_with fail
    refine (stop_calls R A m c l i d 21 w HNE.out HH.out).mono ?_
    rintro e w2 ⟨hb2, N, rfl, hN⟩
    exact ⟨rfl, Fr.of_below hb2, N, rfl, hN⟩

/-- How the reading of a name ends. -/
def Nmd (R : Nat) (A : Option Addr) (m c : Nat) (l : Toks) (d : Nat) (r : Res (List UInt8)) (e : Ending) (w' : World) : Prop := match r with
  | .ok x => e = .returned (.string ⟨x.1.toArray⟩) ∧ RdW w' R A m c l x.2 d
  | .error x => Thrown e w' x.1 x.2
def nmOk (s : List UInt8) : Bool := Cat.nameNo ⟨s.toArray⟩ == 0
set_option maxRecDepth 100000 in
set_option maxHeartbeats 6400000 in
theorem name_calls (R : Nat) (A : Option Addr) (m c : Nat) (l : Toks) (i d : Nat) (w : World) (hnear : Near l) (h : RdW w R A m c l i d) :
    Calls Tryz.prog 138 #[.pointer (some ⟨R, 0, none⟩)] w fun e w' => Fr (fun k => k = R) w w' ∧ Nmd R A m c l d (nameT nmOk l i) e w' := by
  have hle := h.le
  have HH := Asd.mk h
  have HNE := Asd.mk hnear
  have HSZ := Asd.mk fun x hx => (hnear x hx).2
  have HSH := Asd.mk h.sh
  have hml := Asd.mk h.tok.1
  have hib : i ≤ 16384 := by have h1 := h.tok.1; have h2 := h.tok.2.1; omega
  clear h hnear
  go_enter Tryz.func138, Tryz.ntmps138
  go_wp2_with fail
  refine (token_calls R A m c l i d w HH.out).mono ?_
  rintro e w1 ⟨rfl, hb1⟩
  have HB1 := Asd.mk hb1
  clear hb1
  by_cases hlt : i < l.length
  · rw [tkV_some hlt]
    have HL := Asd.mk (List.getElem?_eq_getElem hlt)
    have HX := Asd.mk (HSZ.out _ (List.getElem_mem hlt))
    generalize l[i] = x at HL HX ⊢
    obtain ⟨⟨kd, tx, nu⟩, pl⟩ := x
    simp only at HX ⊢
    have HTX : Asd ((⟨tx.toArray⟩ : ByteArray).size ≤ 140737488351232) := Asd.mk (by
      have h1 : (⟨tx.toArray⟩ : ByteArray).size = tx.length := by show tx.toArray.size = _; simp
      have := HX.out; rw [h1]; omega)
    by_cases h1 : kd = 1
    · subst h1
      have HB2 : Asd (Below w.heap.size w (w1.alloc (.cells #[.int .i64 1, .string ⟨tx.toArray⟩, .int .i64 ((pl : Nat) : Int), .int .i64 nu] 88 (0, 0)))) := Asd.mk (below_alloc HB1.out _)
      have HT2 := Asd.mk (blk_new w1 (.cells #[.int .i64 1, .string ⟨tx.toArray⟩, .int .i64 ((pl : Nat) : Int), .int .i64 nu] 88 (0, 0)))
      go_wp2_with fail
      change Calls _ _ _ (w1.alloc (.cells #[.int .i64 1, .string ⟨tx.toArray⟩, .int .i64 ((pl : Nat) : Int), .int .i64 nu] 88 (0, 0))) _
      generalize (w1.alloc (.cells #[.int .i64 1, .string ⟨tx.toArray⟩, .int .i64 ((pl : Nat) : Int), .int .i64 nu] 88 (0, 0))) = w2 at HB2 HT2 ⊢
      refine (Cat.name_calls ⟨tx.toArray⟩ w2 HTX.out (shaped_below HSH.out HB2.out)).mono ?_
      rintro e w' ⟨rfl, rfl⟩
      have HH2 := Asd.mk (HH.out.below HB2.out)
      cases hn : nmOk tx with
      | true =>
        have hz : Cat.nameNo ⟨tx.toArray⟩ = 0 := by simpa [nmOk] using hn
        have HN : Asd (nameT nmOk l i = .ok (tx, i + 1)) := Asd.mk (by unfold nameT; rw [HL.out]; simp only; rw [if_pos ⟨trivial, hn⟩])
        rw [hz]
        have t1 := (blk_cell HT2.out 1).trans rfl
        have r1 := (blk_cell HH2.out.blk 1).trans rfl
        have z1 := blk_frozen HH2.out.blk 1
        have hs := HH2.out.set (j := i + 1) (by omega)
        have HSS := Asd.mk hs.2
        have HSF := Asd.mk (frR_below HB2.out hs.1)
        have HNE1 : Asd (w1.heap.size ≠ R) := Asd.mk (by have := blk_lt HH.out.blk; have := HB1.out.size; omega)
        have t2 : (w2.setCell ⟨R, 1, none⟩ (.int .i64 ((i : Int) + 1))).cell? ⟨w1.heap.size, 1, none⟩ = some (.string ⟨tx.toArray⟩) := cell_frS hs.1 (fun h => HNE1.out h) t1
        clear hn hz hs
        go_wp2
        go_ret
        refine ⟨HSF.out, ?_⟩
        rw [HN.out]
        exact ⟨rfl, HSS.out⟩
      | false =>
        have hz : ¬ Cat.nameNo ⟨tx.toArray⟩ = 0 := by simpa [nmOk] using hn
        have HN : Asd (nameT nmOk l i = .error (stopAt l i, 20)) := Asd.mk (by unfold nameT; rw [HL.out]; simp only; rw [if_neg (by rintro ⟨_, h⟩; rw [hn] at h; cases h)])
        have hzb : (Cat.nameNo ⟨tx.toArray⟩ != 0) = true := by simpa using hz
        generalize Cat.nameNo ⟨tx.toArray⟩ = nn at hz hzb ⊢
        clear hn
        go_wp2_with fail
        refine (stop_calls R A m c l i d 20 w2 HNE.out HH2.out).mono ?_
        rintro e w3 ⟨hb3, N, rfl, hN⟩
        refine ⟨rfl, Fr.of_below (HB2.out.trans (hb3.mono HB2.out.size)), ?_⟩
        rw [HN.out]
        exact ⟨N, rfl, hN⟩
    · have h1' : ¬ ((kd : Nat) : Int) = 1 := by omega
      have HB2 : Asd (Below w.heap.size w (w1.alloc (.cells #[.int .i64 ((kd : Nat) : Int), .string ⟨tx.toArray⟩, .int .i64 ((pl : Nat) : Int), .int .i64 nu] 88 (0, 0)))) := Asd.mk (below_alloc HB1.out _)
      have HN : Asd (nameT nmOk l i = .error (stopAt l i, 20)) := Asd.mk (by unfold nameT; rw [HL.out]; simp only; rw [if_neg (by rintro ⟨h, _⟩; exact h1 h)])
      clear h1
      go_wp2_with fail
      generalize (w1.alloc (.cells #[.int .i64 ((kd : Nat) : Int), .string ⟨tx.toArray⟩, .int .i64 ((pl : Nat) : Int), .int .i64 nu] 88 (0, 0))) = w2 at HB2 ⊢
      refine (stop_calls R A m c l i d 20 w2 HNE.out (HH.out.below HB2.out)).mono ?_
      rintro e w3 ⟨hb3, N, rfl, hN⟩
      refine ⟨rfl, Fr.of_below (HB2.out.trans (hb3.mono HB2.out.size)), ?_⟩
      rw [HN.out]
      exact ⟨N, rfl, hN⟩
  · rw [tkV_none (by omega)]
    have HB2 : Asd (Below w.heap.size w (w1.alloc (.cells #[.int .i64 0, .string ⟨#[]⟩, .int .i64 0, .int .i64 0] 88 (0, 0)))) := Asd.mk (below_alloc HB1.out _)
    have HN : Asd (nameT nmOk l i = .error (stopAt l i, 20)) := Asd.mk (by unfold nameT; rw [List.getElem?_eq_none (by omega)])
    go_wp2_with fail
    generalize (w1.alloc (.cells #[.int .i64 0, .string ⟨#[]⟩, .int .i64 0, .int .i64 0] 88 (0, 0))) = w2 at HB2 ⊢
    refine (stop_calls R A m c l i d 20 w2 HNE.out (HH.out.below HB2.out)).mono ?_
    rintro e w3 ⟨hb3, N, rfl, hN⟩
    refine ⟨rfl, Fr.of_below (HB2.out.trans (hb3.mono HB2.out.size)), ?_⟩
    rw [HN.out]
    exact ⟨N, rfl, hN⟩
end Go.Proofs.YtbeeaikilcnpgaaGreatDoor.Exp

/- The reader of expressions: a sign ahead. -/
set_option linter.unusedVariables false
set_option linter.unusedSimpArgs false
namespace Go.Proofs.YtbeeaikilcnpgaaGreatDoor.Exp
open Go.RowKit Go.Proofs.YtbeeaikilcnpgaaGreatDoor.Base Go.Proofs.YtbeeaikilcnpgaaGreatDoor.App Go.Proofs.YtbeeaikilcnpgaaGreatDoor.Byt Go.Proofs.YtbeeaikilcnpgaaGreatDoor.Lex

/-- A part of the reader reads what f reads, d deep. -/
def PartOK (F : FuncId) (R : Nat) (A : Option Addr) (m c : Nat) (l : Toks) (f : Nat → Res Ex) (d : Nat) : Prop := ∀ w i, RdW w R A m c l i d → Calls Tryz.prog F #[.pointer (some ⟨R, 0, none⟩)] w (Got R A m c l d w (f i))
def resJ (r : Res Ex) : Except (Nat × Int) Nat := match r with
  | .ok x => .ok x.2
  | .error x => .error x
/-- The variable at b holds an expression of one operand, which was read. -/
def ArgAt (b base : Nat) (o : Int) (r : Res Ex) (W : World) : Prop := match r with
  | .ok x => ∃ A n c, W.heap[b]? = some (.cells (exC (unE o x.1) (.slice A n c)).toArray 26 (0, 0)) ∧ Held (fun g => base ≤ g ∧ g ≠ b) W [x.1] (.slice A n c)
  | .error _ => True
theorem ArgAt.set {b base : Nat} {o : Int} {r : Res Ex} {W : World} (h : ArgAt b base o r W) {R : Nat} (hb : b ≠ R) (hR : R < base) (j : Nat) (v : Value) : ArgAt b base o r (W.setCell ⟨R, j, none⟩ v) := by
  cases r with
  | error x => exact h
  | ok x =>
    obtain ⟨A, n, c, h1, h2⟩ := h
    exact ⟨A, n, c, blk_far h1 hb _, held_frS h2 (Fr.setCell (S := fun k => k = R) (Fr.refl _ W) (p := ⟨R, j, none⟩) rfl v) (fun g hg h => by have h1 := hg.1; have h2 : g = R := h; omega)⟩
/-- An expression's variable is no concern of the reader. -/
theorem RdW.var {W W' : World} {R b : Nat} {A : Option Addr} {m c : Nat} {l : Toks} {i d : Nat} (h : RdW W R A m c l i d) (hf : Fr (fun k => k = b) W W') (hn : b ≠ R) (hR : R < b) {x y : Ex} {s s' : Value} (h1 : W.heap[b]? = some (.cells (exC x s).toArray 26 (0, 0))) (h2 : W'.heap[b]? = some (.cells (exC y s').toArray 26 (0, 0))) : RdW W' R A m c l i d := by
  refine ⟨blk_fr h.blk hf (fun e => hn e.symm), ⟨h.tok.1, h.tok.2.1, fun h0 => ?_⟩, h.le, ?_, h.low⟩
  · obtain ⟨g, rfl, hc⟩ := h.tok.2.2 h0
    have hg : ¬ g = b := by
      rintro rfl
      have := (hc 0 (by have := h.tok.1; omega)).2.1
      rw [blk_cell h1] at this
      simp [exC] at this
    refine ⟨g, rfl, fun i hi => ?_⟩
    obtain ⟨a, b, c, e⟩ := hc i hi
    exact ⟨cell_frS hf hg a, cell_frS hf hg b, cell_frS hf hg c, cell_frS hf hg e⟩
  · refine h.sh.keptBut (may := fun p => p.block = b) ⟨hf.os, hf.output, fun k hk => ?_⟩ (fun p hp => by rw [hp]; have := h.low; omega)
    by_cases hkb : k = b
    · subst hkb
      rw [h1, h2]
      exact ⟨rfl, rfl, rfl, fun j hj => absurd rfl hj⟩
    · rw [hf.block k hk hkb]
      cases hx : W.heap[k]? with
      | none => rfl
      | some o => cases o <;> simp
theorem blk_set9 {W : World} {b : Nat} {T : TypeId} {x y : Ex} {s : Value} (h : W.heap[b]? = some (.cells (exC x s).toArray T (0, 0))) (v : Value) (hxy : exC y v = (exC x s).set 9 v) : (W.setCell ⟨b, 9, none⟩ v).heap[b]? = some (.cells (exC y v).toArray T (0, 0)) := by
  rw [blk_set h 9 v, hxy]
  simp

set_option maxRecDepth 100000 in
set_option maxHeartbeats 6400000 in
theorem sign1_calls (b1 b3 R : Nat) (A : Option Addr) (m c : Nat) (l : Toks) (f : Nat → Res Ex) (i d : Nat) (w : World)
    (p1 : w.heap[b1]? = some (.cells #[.pointer (some ⟨R, 0, none⟩)] 91 (0, 0))) (p3 : w.heap[b3]? = some (.cells (exC (.mk 3 1 vNull [] [] 0 0 []) (.slice none 0 0)).toArray 26 (0, 0)))
    (n3 : b3 ≠ R) (hrb : R < b3) (hf : PartOK 83 R A m c l f d) (h : RdW w R A m c l i d) :
    Calls Tryz.prog 105 #[.pointer (some ⟨b1, 0, none⟩), .pointer (some ⟨b3, 0, none⟩)] w fun e w' => Fr (fun k => k = R ∨ k = b3) w w' ∧ Ins R A m c l d (resJ (f i)) (ArgAt b3 w.heap.size 1 (f i)) e w' := by
  have HH := Asd.mk h
  have HP3 := Asd.mk p3
  have HN3 := Asd.mk n3
  have HRB := Asd.mk hrb
  have HF := Asd.mk hf
  have c1 := (blk_cell p1 0).trans rfl
  have HB3 := Asd.mk (blk_lt p3)
  clear h p1 p3 n3 hrb hf
  go_enter Tryz.func105, Tryz.ntmps105
  go_wp2_with fail
  refine (HF.out w i HH.out).mono ?_
  rintro e w1 ⟨hf1, hm⟩
  have HF1 := Asd.mk hf1
  have HQ1 : Asd (w1.heap[b3]? = some (.cells (exC (.mk 3 1 vNull [] [] 0 0 []) (.slice none 0 0)).toArray 26 (0, 0))) := Asd.mk (blk_fr HP3.out hf1 HN3.out)
  clear hf1
  cases hfi : f i with
  | error er =>
    rw [hfi] at hm
    obtain ⟨N, rfl, hN⟩ := hm
    have HR0 : Asd (Fr (fun k => k = R ∨ k = b3) w w1) := Asd.mk (HF1.out.mono fun k h _ => .inl h)
    have HFI := Asd.mk hfi
    clear hfi
    go_wp2
    refine ⟨rfl, HR0.out, ?_⟩
    rw [HFI.out]
    exact ⟨N, rfl, hN⟩
  | ok y =>
    obtain ⟨x, j⟩ := y
    rw [hfi] at hm
    obtain ⟨s, rfl, hh, hr⟩ := hm
    obtain ⟨As, ms, cs, rfl⟩ := held_slice hh
    have HHX := Asd.mk hh
    have HRX := Asd.mk hr
    have HFI := Asd.mk hfi
    clear hfi hh hr
    unfold exV
    have HBA := Asd.mk (below_alloc (Below.refl _ w1) (.cells #[.int .i64 x.kind, .int .i64 x.op, .int .i64 x.v.kind, .int .i64 x.v.int, .string ⟨x.v.text.toArray⟩, .string ⟨x.table.toArray⟩, .string ⟨x.name.toArray⟩, .int .i64 x.col, .int .i64 x.ty, .slice As ms cs] 26 (0, 0)))
    have HNB := Asd.mk (blk_new w1 (.cells #[.int .i64 x.kind, .int .i64 x.op, .int .i64 x.v.kind, .int .i64 x.v.int, .string ⟨x.v.text.toArray⟩, .string ⟨x.table.toArray⟩, .string ⟨x.name.toArray⟩, .int .i64 x.col, .int .i64 x.ty, .slice As ms cs] 26 (0, 0)))
    have HQ2 := Asd.mk (blk_below HBA.out HQ1.out)
    have HR2 := Asd.mk (HRX.out.below HBA.out)
    have HH2 := Asd.mk (held_below HHX.out HBA.out)
    have HL3 : Asd (b3 < w1.heap.size) := Asd.mk (blk_lt HQ1.out)
    have HS3 : Asd (w.heap.size ≤ w1.heap.size) := Asd.mk HF1.out.size
    have z9 := blk_frozen HQ2.out 9
    have y9 := (ex_cells HQ2.out).2.2.2.2.2.2.2.2.2
    go_wp2
    refine bodyPost_end (results_none rfl _ _ _) rfl ?_
    have hst := Fr.setCell (S := fun k => k = b3) (Fr.refl _ (w1.alloc (.cells #[.int .i64 x.kind, .int .i64 x.op, .int .i64 x.v.kind, .int .i64 x.v.int, .string ⟨x.v.text.toArray⟩, .string ⟨x.table.toArray⟩, .string ⟨x.name.toArray⟩, .int .i64 x.col, .int .i64 x.ty, .slice As ms cs] 26 (0, 0)))) (p := ⟨b3, 9, none⟩) rfl (.slice (some ⟨w1.heap.size, 0, none⟩) 1 1)
    have hfr : Fr (fun k => k = R ∨ k = b3) w _ := (below_frR HF1.out HBA.out).trans hst (fun k h _ => .inl h) (fun k h _ => .inr h)
    have hb9 := blk_set9 (y := unE 1 x) HQ2.out (.slice (some ⟨w1.heap.size, 0, none⟩) 1 1) rfl
    have hld : Held (fun g => w.heap.size ≤ g ∧ g ≠ b3) (w1.alloc (.cells #[.int .i64 x.kind, .int .i64 x.op, .int .i64 x.v.kind, .int .i64 x.v.int, .string ⟨x.v.text.toArray⟩, .string ⟨x.table.toArray⟩, .string ⟨x.name.toArray⟩, .int .i64 x.col, .int .i64 x.ty, .slice As ms cs] 26 (0, 0))) [x] (.slice (some ⟨w1.heap.size, 0, none⟩) 1 1) := by
      refine held_of_blk (P := fun g => w.heap.size ≤ g ∧ g ≠ b3) (c := 1) ⟨HS3.out, by have := HL3.out; omega⟩ [(x, .slice As ms cs)] HNB.out ?_
      intro p hp
      simp only [List.mem_singleton] at hp
      subst hp
      exact held_mono HH2.out (fun g _ hg => ⟨hg, by have := HB3.out; have h1 : w.heap.size ≤ g := hg; omega⟩)
    refine ⟨hfr, ?_⟩
    rw [HFI.out]
    exact ⟨rfl, HR2.out.var hst HN3.out HRB.out HQ2.out hb9, _, _, _, hb9, held_frS hld hst (fun g hg h => hg.2 h)⟩
end Go.Proofs.YtbeeaikilcnpgaaGreatDoor.Exp

/- The reader of expressions: how a part's result is handed over; sign. -/
set_option linter.unusedVariables false
set_option linter.unusedSimpArgs false
namespace Go.Proofs.YtbeeaikilcnpgaaGreatDoor.Exp
open Go.RowKit Go.Proofs.YtbeeaikilcnpgaaGreatDoor.Base Go.Proofs.YtbeeaikilcnpgaaGreatDoor.App Go.Proofs.YtbeeaikilcnpgaaGreatDoor.Byt Go.Proofs.YtbeeaikilcnpgaaGreatDoor.Lex

theorem fin_got {R : Nat} {A : Option Addr} {m c : Nat} {l : Toks} {i0 d : Nat} {w w2 : World} {b2 : Nat} {x : Ex} {j : Nat} {A' : Option Addr} {n' c' : Nat} (h0 : RdW w R A m c l i0 d) (hF : Fr (fun k => k = R) w w2) (hb2 : w.heap.size ≤ b2) (hr : RdW w2 R A m c l j d) (hh : Held (fun g => w.heap.size ≤ g ∧ g ≠ b2) w2 x.args (.slice A' n' c')) :
    Got R A m c l d w (.ok (x, j)) (.returned (exV x (.slice A' n' c'))) ((((((((((w2.setCell ⟨b2, 0, none⟩ (.int .i64 x.kind)).setCell ⟨b2, 1, none⟩ (.int .i64 x.op)).setCell ⟨b2, 2, none⟩ (.int .i64 x.v.kind)).setCell ⟨b2, 3, none⟩ (.int .i64 x.v.int)).setCell ⟨b2, 4, none⟩ (.string ⟨x.v.text.toArray⟩)).setCell ⟨b2, 5, none⟩ (.string ⟨x.table.toArray⟩)).setCell ⟨b2, 6, none⟩ (.string ⟨x.name.toArray⟩)).setCell ⟨b2, 7, none⟩ (.int .i64 x.col)).setCell ⟨b2, 8, none⟩ (.int .i64 x.ty)).setCell ⟨b2, 9, none⟩ (.slice A' n' c')) := by
  have hfb := put10_fr (W := w2) (b := b2) (S := fun k => k = b2) rfl (.int .i64 x.kind) (.int .i64 x.op) (.int .i64 x.v.kind) (.int .i64 x.v.int) (.string ⟨x.v.text.toArray⟩) (.string ⟨x.table.toArray⟩) (.string ⟨x.name.toArray⟩) (.int .i64 x.col) (.int .i64 x.ty) (.slice A' n' c')
  have hR := blk_lt h0.blk
  have hff := fr_new hF hfb (fun k hk => .inr (by have h1 : k = b2 := hk; omega))
  exact ⟨hff, _, rfl, held_mono (held_frS hh hfb (fun g hg h => hg.2 h)) (fun g _ hg => hg.1), h0.move hff hr.le (blk_fr hr.blk hfb (by show ¬ R = b2; omega))⟩
theorem ArgAt.mono {b base base' : Nat} {o : Int} {r : Res Ex} {W : World} (h : ArgAt b base o r W) (hb : base' ≤ base) : ArgAt b base' o r W := by
  cases r with
  | error x => exact h
  | ok x =>
    obtain ⟨A, n, c, h1, h2⟩ := h
    exact ⟨A, n, c, h1, held_mono h2 (fun g _ hg => ⟨by have := hg.1; omega, hg.2⟩)⟩
theorem ins_mono {R : Nat} {A : Option Addr} {m c : Nat} {l : Toks} {d : Nat} {r : Except (Nat × Int) Nat} {Q Q' : World → Prop} {e : Ending} {w : World} (h : Ins R A m c l d r Q e w) (hq : ∀ w, Q w → Q' w) : Ins R A m c l d r Q' e w := by
  cases r with
  | error x => exact h
  | ok j => exact ⟨h.1, h.2.1, hq _ h.2.2⟩
theorem got_error {R : Nat} {A : Option Addr} {m c : Nat} {l : Toks} {d : Nat} {w w' : World} {x : Nat × Int} {e : Ending} (hF : Fr (fun k => k = R) w w') (h : Thrown e w' x.1 x.2) : Got R A m c l d w (.error x) e w' := ⟨hF, h⟩

set_option maxRecDepth 100000 in
set_option maxHeartbeats 6400000 in
theorem sign_calls (nm : List UInt8 → Bool) (R : Nat) (A : Option Addr) (m c : Nat) (l : Toks) (sub : Option PF) (i d : Nat) (w : World) (hnear : Near l) (hd : d ≤ 32)
    (hitem : PartOK 103 R A m c l (itemP nm l sub) d) (hsome : ∀ p, sub = some p → d < 32 ∧ PartOK 83 R A m c l p.sign (d + 1)) (hnone : sub = none → ¬ d < 32) (h : RdW w R A m c l i d) :
    Calls Tryz.prog 83 #[.pointer (some ⟨R, 0, none⟩)] w (Got R A m c l d w (signP nm l sub i)) := by
  have HH := Asd.mk h
  have HIT := Asd.mk hitem
  have HSO := Asd.mk hsome
  have HNO := Asd.mk hnone
  have HNE := Asd.mk hnear
  have HD := Asd.mk hd
  clear h hitem hsome hnone hnear hd
  have hmf := mk_func
  have HBA := Asd.mk (below_alloc (below_alloc (Below.refl _ w) (.cells #[.pointer (some ⟨R, 0, none⟩)] 91 (0, 0))) (.cells #[.int .i64 0, .int .i64 0, .int .i64 0, .int .i64 0, .string ⟨#[]⟩, .string ⟨#[]⟩, .string ⟨#[]⟩, .int .i64 0, .int .i64 0, .slice none 0 0] 26 (0, 0)))
  have HP1 := Asd.mk (blk_alloc (blk_new w (.cells #[.pointer (some ⟨R, 0, none⟩)] 91 (0, 0))) (.cells #[.int .i64 0, .int .i64 0, .int .i64 0, .int .i64 0, .string ⟨#[]⟩, .string ⟨#[]⟩, .string ⟨#[]⟩, .int .i64 0, .int .i64 0, .slice none 0 0] 26 (0, 0)))
  have HZ0 := Asd.mk (nb1 w (.cells #[.pointer (some ⟨R, 0, none⟩)] 91 (0, 0)) (.cells #[.int .i64 0, .int .i64 0, .int .i64 0, .int .i64 0, .string ⟨#[]⟩, .string ⟨#[]⟩, .string ⟨#[]⟩, .int .i64 0, .int .i64 0, .slice none 0 0] 26 (0, 0)))
  have HRW : Asd (R < w.heap.size) := Asd.mk (blk_lt HH.out.blk)
  go_enter Tryz.func83, Tryz.ntmps83
  go_wp2_with fail
  generalize (w.alloc (.cells #[.pointer (some ⟨R, 0, none⟩)] 91 (0, 0))).alloc (.cells #[.int .i64 0, .int .i64 0, .int .i64 0, .int .i64 0, .string ⟨#[]⟩, .string ⟨#[]⟩, .string ⟨#[]⟩, .int .i64 0, .int .i64 0, .slice none 0 0] 26 (0, 0)) = w0 at HBA HP1 HZ0 ⊢
  refine (is_calls R A m c l i d 5 [45] w0 (by omega) (HH.out.below HBA.out)).mono ?_
  rintro e w1 ⟨rfl, hb1⟩
  have HB1 : Asd (Below w.heap.size w w1) := Asd.mk (HBA.out.trans (hb1.mono HBA.out.size))
  have HP2 := Asd.mk (blk_below hb1 HP1.out)
  have HZ1 := Asd.mk (blk_below hb1 HZ0.out)
  have c1 := (blk_cell HP2.out 0).trans rfl
  clear hb1 HBA HP1 HZ0
  cases hT : isT l i 5 [45] with
  | false =>
    have HC : Asd (signP nm l sub i = itemP nm l sub i) := Asd.mk (by unfold signP; rw [if_neg (by rw [hT]; decide)])
    clear hT
    go_wp2_with fail
    refine (HIT.out w1 i (HH.out.below HB1.out)).mono ?_
    rintro e w2 ⟨hf2, hm⟩
    have HF2 := Asd.mk (frR_below HB1.out hf2)
    have HZ2 := Asd.mk (blk_fr HZ1.out hf2 (by show ¬ w.heap.size + 1 = R; have := HRW.out; omega))
    clear hf2
    cases hfi : itemP nm l sub i with
    | error er =>
      rw [hfi] at hm
      have HE : Asd (signP nm l sub i = .error er) := Asd.mk (by rw [HC.out, hfi])
      obtain ⟨N, rfl, hN⟩ := hm
      clear hfi
      go_wp2
      refine ⟨rfl, ?_⟩
      rw [HE.out]
      exact got_error HF2.out ⟨N, rfl, hN⟩
    | ok y =>
      obtain ⟨x, j⟩ := y
      rw [hfi] at hm
      have HE : Asd (signP nm l sub i = .ok (x, j)) := Asd.mk (by rw [HC.out, hfi])
      obtain ⟨s, rfl, hh, hr⟩ := hm
      obtain ⟨As, ms, cs, rfl⟩ := held_slice hh
      have HHX := Asd.mk hh
      have HRX := Asd.mk hr
      have HSZ : Asd (w.heap.size + 1 < w1.heap.size) := Asd.mk (blk_lt HZ1.out)
      clear hfi hh hr
      unfold exV
      have y0 := (blk_cell HZ2.out 0).trans rfl
      have y1 := (blk_cell HZ2.out 1).trans rfl
      have y2 := (blk_cell HZ2.out 2).trans rfl
      have y3 := (blk_cell HZ2.out 3).trans rfl
      have y4 := (blk_cell HZ2.out 4).trans rfl
      have y5 := (blk_cell HZ2.out 5).trans rfl
      have y6 := (blk_cell HZ2.out 6).trans rfl
      have y7 := (blk_cell HZ2.out 7).trans rfl
      have y8 := (blk_cell HZ2.out 8).trans rfl
      have y9 := (blk_cell HZ2.out 9).trans rfl
      have z0 := blk_frozen HZ2.out 0
      have z1 := blk_frozen HZ2.out 1
      have z2 := blk_frozen HZ2.out 2
      have z3 := blk_frozen HZ2.out 3
      have z4 := blk_frozen HZ2.out 4
      have z5 := blk_frozen HZ2.out 5
      have z6 := blk_frozen HZ2.out 6
      have z7 := blk_frozen HZ2.out 7
      have z8 := blk_frozen HZ2.out 8
      have z9 := blk_frozen HZ2.out 9
      go_wp2
      refine bodyPost_ret (results_cell_row rfl _ _ (w.heap.size + 1) 26 _ (0, 0) _ rfl (put10_blk HZ2.out _ _ _ _ _ _ _ _ _ _) Tryz.underlying26 rfl (by kernel_rfl)) rfl ?_
      rw [HE.out]
      exact fin_got HH.out HF2.out (by omega) HRX.out (held_mono HHX.out fun g _ hg => by have h1 : w1.heap.size ≤ g := hg; have := HSZ.out; exact ⟨by omega, by omega⟩)
  | true =>
    have HLT := Asd.mk (isT_lt hT)
    have HT := Asd.mk hT
    clear hT
    have HBB := Asd.mk (below_alloc HB1.out (.cells #[.int .i64 3, .int .i64 1, .int .i64 0, .int .i64 0, .string ⟨#[]⟩, .string ⟨#[]⟩, .string ⟨#[]⟩, .int .i64 0, .int .i64 0, .slice none 0 0] 26 (0, 0)))
    have HU0 := Asd.mk (blk_new w1 (.cells #[.int .i64 3, .int .i64 1, .int .i64 0, .int .i64 0, .string ⟨#[]⟩, .string ⟨#[]⟩, .string ⟨#[]⟩, .int .i64 0, .int .i64 0, .slice none 0 0] 26 (0, 0)))
    have HP3 := Asd.mk (blk_alloc HP2.out (.cells #[.int .i64 3, .int .i64 1, .int .i64 0, .int .i64 0, .string ⟨#[]⟩, .string ⟨#[]⟩, .string ⟨#[]⟩, .int .i64 0, .int .i64 0, .slice none 0 0] 26 (0, 0)))
    have HZ3 := Asd.mk (blk_alloc HZ1.out (.cells #[.int .i64 3, .int .i64 1, .int .i64 0, .int .i64 0, .string ⟨#[]⟩, .string ⟨#[]⟩, .string ⟨#[]⟩, .int .i64 0, .int .i64 0, .slice none 0 0] 26 (0, 0)))
    have HSW : Asd (w.heap.size ≤ w1.heap.size) := Asd.mk HB1.out.size
    have HSZ : Asd (w.heap.size + 1 < w1.heap.size) := Asd.mk (blk_lt HZ1.out)
    have c1a := (blk_cell HP3.out 0).trans rfl
    go_wp2_with fail
    generalize w1.alloc (.cells #[.int .i64 3, .int .i64 1, .int .i64 0, .int .i64 0, .string ⟨#[]⟩, .string ⟨#[]⟩, .string ⟨#[]⟩, .int .i64 0, .int .i64 0, .slice none 0 0] 26 (0, 0)) = w4 at HBB HU0 HP3 HZ3 ⊢
    have HRD := Asd.mk (HH.out.below HBB.out)
    have HB3 : Asd (w1.heap.size < w4.heap.size) := Asd.mk (blk_lt HU0.out)
    generalize w1.heap.size = b3 at HU0 HSW HSZ HB3 ⊢
    cases hs : sub with
    | none =>
      have HE : Asd (signP nm l sub i = .error (stopAt l i, 21)) := Asd.mk (by unfold signP; rw [if_pos HT.out, hs])
      have hnd := HNO.out hs
      refine (within_calls 105 #[.pointer (some ⟨w.heap.size, 0, none⟩), .pointer (some ⟨b3, 0, none⟩)] (fun k => k = R) R A m c l i d (.error (stopAt l i, 21)) (fun _ => True) w4 HNE.out rfl (isGo_of Tryz.func105 (by kernel_rfl) rfl) HLT.out HD.out (fun _ _ _ => trivial) HRD.out (fun h => absurd h hnd)).mono ?_
      rintro e w5 ⟨hf5, hm⟩
      rw [if_neg hnd] at hm
      obtain ⟨N, rfl, hN⟩ := hm
      refine ⟨rfl, ?_⟩
      rw [← hs, HE.out]
      exact got_error (frR_below HBB.out hf5) ⟨N, rfl, hN⟩
    | some p =>
      obtain ⟨hd32, hpart⟩ := HSO.out p hs
      have HPA := Asd.mk hpart
      have HE : Asd (signP nm l sub i = match p.sign (i + 1) with | .error x => .error x | .ok (e, j) => .ok (unE 1 e, j)) := Asd.mk (by unfold signP; rw [if_pos HT.out, hs]; rfl)
      have HS := Asd.mk hs
      refine (within_calls 105 #[.pointer (some ⟨w.heap.size, 0, none⟩), .pointer (some ⟨b3, 0, none⟩)] (fun k => k = R ∨ k = b3) R A m c l i d (resJ (p.sign (i + 1))) (ArgAt b3 w4.heap.size 1 (p.sign (i + 1))) w4 HNE.out (.inl rfl) (isGo_of Tryz.func105 (by kernel_rfl) rfl) HLT.out HD.out (fun W v hq => hq.set (by have := HSW.out; have := HRW.out; omega) (by have := HB3.out; have := HSW.out; have := HRW.out; omega) 2 v) HRD.out (fun _ w' hf' hr' => ?_)).mono ?_
      · refine (sign1_calls w.heap.size b3 R A m c l p.sign (i + 1) (d + 1) w' (blk_fr HP3.out hf' (by show ¬ w.heap.size = R; have := HRW.out; omega)) (blk_fr HU0.out hf' (by show ¬ b3 = R; have := HSW.out; have := HRW.out; omega)) (by have := HSW.out; have := HRW.out; omega) (by have := HSW.out; have := HRW.out; omega) HPA.out hr').mono ?_
        rintro e w'' ⟨h1, h2⟩
        exact ⟨h1, ins_mono h2 fun W hq => hq.mono hf'.size⟩
      · rintro e w5 ⟨hf5, hm⟩
        rw [if_pos hd32] at hm
        have HF5 : Asd (Fr (fun k => k = R) w w5) := Asd.mk (fr_new (Fr.of_below HBB.out) hf5 (fun k hk => by rcases hk with h | h; exact .inl h; exact .inr (by have := HSW.out; omega)))
        have HZ5 := Asd.mk (blk_fr HZ3.out hf5 (by show ¬ (w.heap.size + 1 = R ∨ w.heap.size + 1 = b3); have := HSZ.out; have := HRW.out; omega))
        clear hf5
        cases hfi : p.sign (i + 1) with
        | error er =>
          rw [hfi] at hm
          obtain ⟨N, rfl, hN⟩ := hm
          have HE2 : Asd (signP nm l sub i = .error er) := Asd.mk (by rw [HE.out, hfi])
          clear hfi
          go_wp2
          refine ⟨rfl, ?_⟩
          first | rw [HE2.out] | rw [← HS.out, HE2.out]
          exact got_error HF5.out ⟨N, rfl, hN⟩
        | ok y =>
          obtain ⟨x, j⟩ := y
          rw [hfi] at hm
          obtain ⟨rfl, hr5, A5, n5, c5, hb5, hh5⟩ := hm
          have HE2 : Asd (signP nm l sub i = .ok (unE 1 x, j)) := Asd.mk (by rw [HE.out, hfi])
          have HR5 := Asd.mk hr5
          have HH5 := Asd.mk hh5
          obtain ⟨e0, e1, e2, e3, e4, e5, e6, e7, e8, e9⟩ := ex_cells hb5
          clear hfi hr5 hh5 hb5
          have y0 := (blk_cell HZ5.out 0).trans rfl
          have y1 := (blk_cell HZ5.out 1).trans rfl
          have y2 := (blk_cell HZ5.out 2).trans rfl
          have y3 := (blk_cell HZ5.out 3).trans rfl
          have y4 := (blk_cell HZ5.out 4).trans rfl
          have y5 := (blk_cell HZ5.out 5).trans rfl
          have y6 := (blk_cell HZ5.out 6).trans rfl
          have y7 := (blk_cell HZ5.out 7).trans rfl
          have y8 := (blk_cell HZ5.out 8).trans rfl
          have y9 := (blk_cell HZ5.out 9).trans rfl
          have z0 := blk_frozen HZ5.out 0
          have z1 := blk_frozen HZ5.out 1
          have z2 := blk_frozen HZ5.out 2
          have z3 := blk_frozen HZ5.out 3
          have z4 := blk_frozen HZ5.out 4
          have z5 := blk_frozen HZ5.out 5
          have z6 := blk_frozen HZ5.out 6
          have z7 := blk_frozen HZ5.out 7
          have z8 := blk_frozen HZ5.out 8
          have z9 := blk_frozen HZ5.out 9
          go_wp2
          refine bodyPost_ret (results_cell_row rfl _ _ (w.heap.size + 1) 26 _ (0, 0) _ rfl (put10_blk HZ5.out _ _ _ _ _ _ _ _ _ _) Tryz.underlying26 rfl (by kernel_rfl)) rfl ?_
          first | rw [HE2.out] | rw [← HS.out, HE2.out]
          exact fin_got HH.out HF5.out (by omega) HR5.out (held_mono HH5.out fun g _ hg => by have h1 := hg.1; have := HB3.out; have := HSZ.out; exact ⟨by omega, by omega⟩)
end Go.Proofs.YtbeeaikilcnpgaaGreatDoor.Exp

/- The reader of expressions: not. -/
set_option linter.unusedVariables false
set_option linter.unusedSimpArgs false
namespace Go.Proofs.YtbeeaikilcnpgaaGreatDoor.Exp
open Go.RowKit Go.Proofs.YtbeeaikilcnpgaaGreatDoor.Base Go.Proofs.YtbeeaikilcnpgaaGreatDoor.App Go.Proofs.YtbeeaikilcnpgaaGreatDoor.Byt Go.Proofs.YtbeeaikilcnpgaaGreatDoor.Lex

/-- A part of the reader that takes the closure for chains of '||' reads what f reads, d deep, where K holds. -/
def PartK (F : FuncId) (cap : Array Value) (K : World → Prop) (R : Nat) (A : Option Addr) (m c : Nat) (l : Toks) (f : Nat → Res Ex) (d : Nat) : Prop := ∀ w i, RdW w R A m c l i d → K w → Calls Tryz.prog F #[.pointer (some ⟨R, 0, none⟩), .func (.func 99) #[] cap] w (Got R A m c l d w (f i))
/-- What outlives the reader's moves. -/
def Stays (R : Nat) (K : World → Prop) : Prop := ∀ w w', Fr (fun k => k = R) w w' → K w → K w'
set_option maxRecDepth 100000 in
set_option maxHeartbeats 6400000 in
theorem not1_calls (cap : Array Value) (K : World → Prop) (b1 bc b3 R : Nat) (A : Option Addr) (m c : Nat) (l : Toks) (f : Nat → Res Ex) (i d : Nat) (w : World)
    (p1 : w.heap[b1]? = some (.cells #[.pointer (some ⟨R, 0, none⟩)] 91 (0, 0))) (p3 : w.heap[b3]? = some (.cells (exC (.mk 3 2 vNull [] [] 0 0 []) (.slice none 0 0)).toArray 26 (0, 0)))
    (pc : w.heap[bc]? = some (.cells #[.func (.func 99) #[] cap] 94 (0, 0))) (hK : K w) (n3 : b3 ≠ R) (hrb : R < b3) (hf : PartK 85 cap K R A m c l f d) (h : RdW w R A m c l i d) :
    Calls Tryz.prog 107 #[.pointer (some ⟨b1, 0, none⟩), .pointer (some ⟨bc, 0, none⟩), .pointer (some ⟨b3, 0, none⟩)] w fun e w' => Fr (fun k => k = R ∨ k = b3) w w' ∧ Ins R A m c l d (resJ (f i)) (ArgAt b3 w.heap.size 2 (f i)) e w' := by
  have HH := Asd.mk h
  have HP3 := Asd.mk p3
  have HN3 := Asd.mk n3
  have HRB := Asd.mk hrb
  have HF := Asd.mk hf
  have c1 := (blk_cell p1 0).trans rfl
  have cc := (blk_cell pc 0).trans rfl
  have HK := Asd.mk hK
  have HB3 := Asd.mk (blk_lt p3)
  clear h p1 p3 pc n3 hrb hf hK
  go_enter Tryz.func107, Tryz.ntmps107
  go_wp2_with fail
  refine (HF.out w i HH.out HK.out).mono ?_
  rintro e w1 ⟨hf1, hm⟩
  have HF1 := Asd.mk hf1
  have HQ1 : Asd (w1.heap[b3]? = some (.cells (exC (.mk 3 2 vNull [] [] 0 0 []) (.slice none 0 0)).toArray 26 (0, 0))) := Asd.mk (blk_fr HP3.out hf1 HN3.out)
  clear hf1
  cases hfi : f i with
  | error er =>
    rw [hfi] at hm
    obtain ⟨N, rfl, hN⟩ := hm
    have HR0 : Asd (Fr (fun k => k = R ∨ k = b3) w w1) := Asd.mk (HF1.out.mono fun k h _ => .inl h)
    have HFI := Asd.mk hfi
    clear hfi
    go_wp2
    refine ⟨rfl, HR0.out, ?_⟩
    rw [HFI.out]
    exact ⟨N, rfl, hN⟩
  | ok y =>
    obtain ⟨x, j⟩ := y
    rw [hfi] at hm
    obtain ⟨s, rfl, hh, hr⟩ := hm
    obtain ⟨As, ms, cs, rfl⟩ := held_slice hh
    have HHX := Asd.mk hh
    have HRX := Asd.mk hr
    have HFI := Asd.mk hfi
    clear hfi hh hr
    unfold exV
    have HBA := Asd.mk (below_alloc (Below.refl _ w1) (.cells #[.int .i64 x.kind, .int .i64 x.op, .int .i64 x.v.kind, .int .i64 x.v.int, .string ⟨x.v.text.toArray⟩, .string ⟨x.table.toArray⟩, .string ⟨x.name.toArray⟩, .int .i64 x.col, .int .i64 x.ty, .slice As ms cs] 26 (0, 0)))
    have HNB := Asd.mk (blk_new w1 (.cells #[.int .i64 x.kind, .int .i64 x.op, .int .i64 x.v.kind, .int .i64 x.v.int, .string ⟨x.v.text.toArray⟩, .string ⟨x.table.toArray⟩, .string ⟨x.name.toArray⟩, .int .i64 x.col, .int .i64 x.ty, .slice As ms cs] 26 (0, 0)))
    have HQ2 := Asd.mk (blk_below HBA.out HQ1.out)
    have HR2 := Asd.mk (HRX.out.below HBA.out)
    have HH2 := Asd.mk (held_below HHX.out HBA.out)
    have HL3 : Asd (b3 < w1.heap.size) := Asd.mk (blk_lt HQ1.out)
    have HS3 : Asd (w.heap.size ≤ w1.heap.size) := Asd.mk HF1.out.size
    have z9 := blk_frozen HQ2.out 9
    have y9 := (ex_cells HQ2.out).2.2.2.2.2.2.2.2.2
    go_wp2
    refine bodyPost_end (results_none rfl _ _ _) rfl ?_
    have hst := Fr.setCell (S := fun k => k = b3) (Fr.refl _ (w1.alloc (.cells #[.int .i64 x.kind, .int .i64 x.op, .int .i64 x.v.kind, .int .i64 x.v.int, .string ⟨x.v.text.toArray⟩, .string ⟨x.table.toArray⟩, .string ⟨x.name.toArray⟩, .int .i64 x.col, .int .i64 x.ty, .slice As ms cs] 26 (0, 0)))) (p := ⟨b3, 9, none⟩) rfl (.slice (some ⟨w1.heap.size, 0, none⟩) 1 1)
    have hfr : Fr (fun k => k = R ∨ k = b3) w _ := (below_frR HF1.out HBA.out).trans hst (fun k h _ => .inl h) (fun k h _ => .inr h)
    have hb9 := blk_set9 (y := unE 2 x) HQ2.out (.slice (some ⟨w1.heap.size, 0, none⟩) 1 1) rfl
    have hld : Held (fun g => w.heap.size ≤ g ∧ g ≠ b3) (w1.alloc (.cells #[.int .i64 x.kind, .int .i64 x.op, .int .i64 x.v.kind, .int .i64 x.v.int, .string ⟨x.v.text.toArray⟩, .string ⟨x.table.toArray⟩, .string ⟨x.name.toArray⟩, .int .i64 x.col, .int .i64 x.ty, .slice As ms cs] 26 (0, 0))) [x] (.slice (some ⟨w1.heap.size, 0, none⟩) 1 1) := by
      refine held_of_blk (P := fun g => w.heap.size ≤ g ∧ g ≠ b3) (c := 1) ⟨HS3.out, by have := HL3.out; omega⟩ [(x, .slice As ms cs)] HNB.out ?_
      intro p hp
      simp only [List.mem_singleton] at hp
      subst hp
      exact held_mono HH2.out (fun g _ hg => ⟨hg, by have := HB3.out; have h1 : w.heap.size ≤ g := hg; omega⟩)
    refine ⟨hfr, ?_⟩
    rw [HFI.out]
    exact ⟨rfl, HR2.out.var hst HN3.out HRB.out HQ2.out hb9, _, _, _, hb9, held_frS hld hst (fun g hg h => hg.2 h)⟩
set_option maxRecDepth 100000 in
set_option maxHeartbeats 6400000 in
theorem not_calls (cap : Array Value) (K : World → Prop) (nm : List UInt8 → Bool) (R : Nat) (A : Option Addr) (m c : Nat) (l : Toks) (sub : Option PF) (i d : Nat) (w : World) (hKs : Stays R K) (hK : K w) (hnear : Near l) (hd : d ≤ 32)
    (hitem : PartK 106 cap K R A m c l (testP nm l sub) d) (hsome : ∀ p, sub = some p → d < 32 ∧ PartK 85 cap K R A m c l p.not (d + 1)) (hnone : sub = none → ¬ d < 32) (h : RdW w R A m c l i d) :
    Calls Tryz.prog 85 #[.pointer (some ⟨R, 0, none⟩), .func (.func 99) #[] cap] w (Got R A m c l d w (notP nm l sub i)) := by
  have HH := Asd.mk h
  have HIT := Asd.mk hitem
  have HSO := Asd.mk hsome
  have HNO := Asd.mk hnone
  have HNE := Asd.mk hnear
  have HD := Asd.mk hd
  have HK := Asd.mk hK
  have HKS := Asd.mk hKs
  have hst := st_func
  clear h hitem hsome hnone hnear hd hK hKs
  have hmf := mk_func
  have HBA := Asd.mk (below_alloc (below_alloc (below_alloc (Below.refl _ w) (.cells #[.pointer (some ⟨R, 0, none⟩)] 91 (0, 0))) (.cells #[.func (.func 99) #[] cap] 94 (0, 0))) (.cells #[.int .i64 0, .int .i64 0, .int .i64 0, .int .i64 0, .string ⟨#[]⟩, .string ⟨#[]⟩, .string ⟨#[]⟩, .int .i64 0, .int .i64 0, .slice none 0 0] 26 (0, 0)))
  have HP1 := Asd.mk (blk_alloc (blk_alloc (blk_new w (.cells #[.pointer (some ⟨R, 0, none⟩)] 91 (0, 0))) (.cells #[.func (.func 99) #[] cap] 94 (0, 0))) (.cells #[.int .i64 0, .int .i64 0, .int .i64 0, .int .i64 0, .string ⟨#[]⟩, .string ⟨#[]⟩, .string ⟨#[]⟩, .int .i64 0, .int .i64 0, .slice none 0 0] 26 (0, 0)))
  have HC1 := Asd.mk (blk_alloc (nb1 w (.cells #[.pointer (some ⟨R, 0, none⟩)] 91 (0, 0)) (.cells #[.func (.func 99) #[] cap] 94 (0, 0))) (.cells #[.int .i64 0, .int .i64 0, .int .i64 0, .int .i64 0, .string ⟨#[]⟩, .string ⟨#[]⟩, .string ⟨#[]⟩, .int .i64 0, .int .i64 0, .slice none 0 0] 26 (0, 0)))
  have HZ0 := Asd.mk (nb2 w (.cells #[.pointer (some ⟨R, 0, none⟩)] 91 (0, 0)) (.cells #[.func (.func 99) #[] cap] 94 (0, 0)) (.cells #[.int .i64 0, .int .i64 0, .int .i64 0, .int .i64 0, .string ⟨#[]⟩, .string ⟨#[]⟩, .string ⟨#[]⟩, .int .i64 0, .int .i64 0, .slice none 0 0] 26 (0, 0)))
  have HRW : Asd (R < w.heap.size) := Asd.mk (blk_lt HH.out.blk)
  go_enter Tryz.func85, Tryz.ntmps85
  go_wp2_with fail
  generalize ((w.alloc (.cells #[.pointer (some ⟨R, 0, none⟩)] 91 (0, 0))).alloc (.cells #[.func (.func 99) #[] cap] 94 (0, 0))).alloc (.cells #[.int .i64 0, .int .i64 0, .int .i64 0, .int .i64 0, .string ⟨#[]⟩, .string ⟨#[]⟩, .string ⟨#[]⟩, .int .i64 0, .int .i64 0, .slice none 0 0] 26 (0, 0)) = w0 at HBA HP1 HC1 HZ0 ⊢
  refine (is_calls R A m c l i d 1 [110, 111, 116] w0 (by omega) (HH.out.below HBA.out)).mono ?_
  rintro e w1 ⟨rfl, hb1⟩
  have HB1 : Asd (Below w.heap.size w w1) := Asd.mk (HBA.out.trans (hb1.mono HBA.out.size))
  have HP2 := Asd.mk (blk_below hb1 HP1.out)
  have HC2 := Asd.mk (blk_below hb1 HC1.out)
  have cc := (blk_cell HC2.out 0).trans rfl
  have HZ1 := Asd.mk (blk_below hb1 HZ0.out)
  have c1 := (blk_cell HP2.out 0).trans rfl
  clear hb1 HBA HP1 HC1 HZ0
  cases hT : isT l i 1 [110, 111, 116] with
  | false =>
    have HC : Asd (notP nm l sub i = testP nm l sub i) := Asd.mk (by unfold notP; rw [if_neg (by rw [hT]; decide)])
    clear hT
    go_wp2_with fail
    refine (HIT.out w1 i (HH.out.below HB1.out) (HKS.out _ _ (Fr.of_below HB1.out) HK.out)).mono ?_
    rintro e w2 ⟨hf2, hm⟩
    have HF2 := Asd.mk (frR_below HB1.out hf2)
    have HZ2 := Asd.mk (blk_fr HZ1.out hf2 (by show ¬ w.heap.size + 1 + 1 = R; have := HRW.out; omega))
    clear hf2
    cases hfi : testP nm l sub i with
    | error er =>
      rw [hfi] at hm
      have HE : Asd (notP nm l sub i = .error er) := Asd.mk (by rw [HC.out, hfi])
      obtain ⟨N, rfl, hN⟩ := hm
      clear hfi
      go_wp2
      refine ⟨rfl, ?_⟩
      rw [HE.out]
      exact got_error HF2.out ⟨N, rfl, hN⟩
    | ok y =>
      obtain ⟨x, j⟩ := y
      rw [hfi] at hm
      have HE : Asd (notP nm l sub i = .ok (x, j)) := Asd.mk (by rw [HC.out, hfi])
      obtain ⟨s, rfl, hh, hr⟩ := hm
      obtain ⟨As, ms, cs, rfl⟩ := held_slice hh
      have HHX := Asd.mk hh
      have HRX := Asd.mk hr
      have HSZ : Asd (w.heap.size + 1 + 1 < w1.heap.size) := Asd.mk (blk_lt HZ1.out)
      clear hfi hh hr
      unfold exV
      have y0 := (blk_cell HZ2.out 0).trans rfl
      have y1 := (blk_cell HZ2.out 1).trans rfl
      have y2 := (blk_cell HZ2.out 2).trans rfl
      have y3 := (blk_cell HZ2.out 3).trans rfl
      have y4 := (blk_cell HZ2.out 4).trans rfl
      have y5 := (blk_cell HZ2.out 5).trans rfl
      have y6 := (blk_cell HZ2.out 6).trans rfl
      have y7 := (blk_cell HZ2.out 7).trans rfl
      have y8 := (blk_cell HZ2.out 8).trans rfl
      have y9 := (blk_cell HZ2.out 9).trans rfl
      have z0 := blk_frozen HZ2.out 0
      have z1 := blk_frozen HZ2.out 1
      have z2 := blk_frozen HZ2.out 2
      have z3 := blk_frozen HZ2.out 3
      have z4 := blk_frozen HZ2.out 4
      have z5 := blk_frozen HZ2.out 5
      have z6 := blk_frozen HZ2.out 6
      have z7 := blk_frozen HZ2.out 7
      have z8 := blk_frozen HZ2.out 8
      have z9 := blk_frozen HZ2.out 9
      go_wp2
      refine bodyPost_ret (results_cell_row rfl _ _ (w.heap.size + 1 + 1) 26 _ (0, 0) _ rfl (put10_blk HZ2.out _ _ _ _ _ _ _ _ _ _) Tryz.underlying26 rfl (by kernel_rfl)) rfl ?_
      rw [HE.out]
      exact fin_got HH.out HF2.out (by omega) HRX.out (held_mono HHX.out fun g _ hg => by have h1 : w1.heap.size ≤ g := hg; have := HSZ.out; exact ⟨by omega, by omega⟩)
  | true =>
    have HLT := Asd.mk (isT_lt hT)
    have HT := Asd.mk hT
    clear hT
    have HBB := Asd.mk (below_alloc HB1.out (.cells #[.int .i64 3, .int .i64 2, .int .i64 0, .int .i64 0, .string ⟨#[]⟩, .string ⟨#[]⟩, .string ⟨#[]⟩, .int .i64 0, .int .i64 0, .slice none 0 0] 26 (0, 0)))
    have HU0 := Asd.mk (blk_new w1 (.cells #[.int .i64 3, .int .i64 2, .int .i64 0, .int .i64 0, .string ⟨#[]⟩, .string ⟨#[]⟩, .string ⟨#[]⟩, .int .i64 0, .int .i64 0, .slice none 0 0] 26 (0, 0)))
    have HC3 := Asd.mk (blk_alloc HC2.out (.cells #[.int .i64 3, .int .i64 2, .int .i64 0, .int .i64 0, .string ⟨#[]⟩, .string ⟨#[]⟩, .string ⟨#[]⟩, .int .i64 0, .int .i64 0, .slice none 0 0] 26 (0, 0)))
    have HP3 := Asd.mk (blk_alloc HP2.out (.cells #[.int .i64 3, .int .i64 2, .int .i64 0, .int .i64 0, .string ⟨#[]⟩, .string ⟨#[]⟩, .string ⟨#[]⟩, .int .i64 0, .int .i64 0, .slice none 0 0] 26 (0, 0)))
    have HZ3 := Asd.mk (blk_alloc HZ1.out (.cells #[.int .i64 3, .int .i64 2, .int .i64 0, .int .i64 0, .string ⟨#[]⟩, .string ⟨#[]⟩, .string ⟨#[]⟩, .int .i64 0, .int .i64 0, .slice none 0 0] 26 (0, 0)))
    have HSW : Asd (w.heap.size ≤ w1.heap.size) := Asd.mk HB1.out.size
    have HSZ : Asd (w.heap.size + 1 + 1 < w1.heap.size) := Asd.mk (blk_lt HZ1.out)
    have c1a := (blk_cell HP3.out 0).trans rfl
    have c1c := (blk_cell HC3.out 0).trans rfl
    go_wp2_with fail
    generalize w1.alloc (.cells #[.int .i64 3, .int .i64 2, .int .i64 0, .int .i64 0, .string ⟨#[]⟩, .string ⟨#[]⟩, .string ⟨#[]⟩, .int .i64 0, .int .i64 0, .slice none 0 0] 26 (0, 0)) = w4 at HBB HU0 HP3 HC3 HZ3 ⊢
    have HRD := Asd.mk (HH.out.below HBB.out)
    have HB3 : Asd (w1.heap.size < w4.heap.size) := Asd.mk (blk_lt HU0.out)
    generalize w1.heap.size = b3 at HU0 HSW HSZ HB3 ⊢
    cases hs : sub with
    | none =>
      have HE : Asd (notP nm l sub i = .error (stopAt l i, 21)) := Asd.mk (by unfold notP; rw [if_pos HT.out, hs])
      have hnd := HNO.out hs
      refine (within_calls 107 #[.pointer (some ⟨w.heap.size, 0, none⟩), .pointer (some ⟨w.heap.size + 1, 0, none⟩), .pointer (some ⟨b3, 0, none⟩)] (fun k => k = R) R A m c l i d (.error (stopAt l i, 21)) (fun _ => True) w4 HNE.out rfl (isGo_of Tryz.func107 (by kernel_rfl) rfl) HLT.out HD.out (fun _ _ _ => trivial) HRD.out (fun h => absurd h hnd)).mono ?_
      rintro e w5 ⟨hf5, hm⟩
      rw [if_neg hnd] at hm
      obtain ⟨N, rfl, hN⟩ := hm
      refine ⟨rfl, ?_⟩
      rw [← hs, HE.out]
      exact got_error (frR_below HBB.out hf5) ⟨N, rfl, hN⟩
    | some p =>
      obtain ⟨hd32, hpart⟩ := HSO.out p hs
      have HPA := Asd.mk hpart
      have HE : Asd (notP nm l sub i = match p.not (i + 1) with | .error x => .error x | .ok (e, j) => .ok (unE 2 e, j)) := Asd.mk (by unfold notP; rw [if_pos HT.out, hs]; rfl)
      have HS := Asd.mk hs
      refine (within_calls 107 #[.pointer (some ⟨w.heap.size, 0, none⟩), .pointer (some ⟨w.heap.size + 1, 0, none⟩), .pointer (some ⟨b3, 0, none⟩)] (fun k => k = R ∨ k = b3) R A m c l i d (resJ (p.not (i + 1))) (ArgAt b3 w4.heap.size 2 (p.not (i + 1))) w4 HNE.out (.inl rfl) (isGo_of Tryz.func107 (by kernel_rfl) rfl) HLT.out HD.out (fun W v hq => hq.set (by have := HSW.out; have := HRW.out; omega) (by have := HB3.out; have := HSW.out; have := HRW.out; omega) 2 v) HRD.out (fun _ w' hf' hr' => ?_)).mono ?_
      · refine (not1_calls cap K w.heap.size (w.heap.size + 1) b3 R A m c l p.not (i + 1) (d + 1) w' (blk_fr HP3.out hf' (by show ¬ w.heap.size = R; have := HRW.out; omega)) (blk_fr HU0.out hf' (by show ¬ b3 = R; have := HSW.out; have := HRW.out; omega)) (blk_fr HC3.out hf' (by show ¬ w.heap.size + 1 = R; have := HRW.out; omega)) (HKS.out _ _ (frR_below HBB.out hf') HK.out) (by have := HSW.out; have := HRW.out; omega) (by have := HSW.out; have := HRW.out; omega) HPA.out hr').mono ?_
        rintro e w'' ⟨h1, h2⟩
        exact ⟨h1, ins_mono h2 fun W hq => hq.mono hf'.size⟩
      · rintro e w5 ⟨hf5, hm⟩
        rw [if_pos hd32] at hm
        have HF5 : Asd (Fr (fun k => k = R) w w5) := Asd.mk (fr_new (Fr.of_below HBB.out) hf5 (fun k hk => by rcases hk with h | h; exact .inl h; exact .inr (by have := HSW.out; omega)))
        have HZ5 := Asd.mk (blk_fr HZ3.out hf5 (by show ¬ (w.heap.size + 1 + 1 = R ∨ w.heap.size + 1 + 1 = b3); have := HSZ.out; have := HRW.out; omega))
        clear hf5
        cases hfi : p.not (i + 1) with
        | error er =>
          rw [hfi] at hm
          obtain ⟨N, rfl, hN⟩ := hm
          have HE2 : Asd (notP nm l sub i = .error er) := Asd.mk (by rw [HE.out, hfi])
          clear hfi
          go_wp2
          refine ⟨rfl, ?_⟩
          first | rw [HE2.out] | rw [← HS.out, HE2.out]
          exact got_error HF5.out ⟨N, rfl, hN⟩
        | ok y =>
          obtain ⟨x, j⟩ := y
          rw [hfi] at hm
          obtain ⟨rfl, hr5, A5, n5, c5, hb5, hh5⟩ := hm
          have HE2 : Asd (notP nm l sub i = .ok (unE 2 x, j)) := Asd.mk (by rw [HE.out, hfi])
          have HR5 := Asd.mk hr5
          have HH5 := Asd.mk hh5
          obtain ⟨e0, e1, e2, e3, e4, e5, e6, e7, e8, e9⟩ := ex_cells hb5
          clear hfi hr5 hh5 hb5
          have y0 := (blk_cell HZ5.out 0).trans rfl
          have y1 := (blk_cell HZ5.out 1).trans rfl
          have y2 := (blk_cell HZ5.out 2).trans rfl
          have y3 := (blk_cell HZ5.out 3).trans rfl
          have y4 := (blk_cell HZ5.out 4).trans rfl
          have y5 := (blk_cell HZ5.out 5).trans rfl
          have y6 := (blk_cell HZ5.out 6).trans rfl
          have y7 := (blk_cell HZ5.out 7).trans rfl
          have y8 := (blk_cell HZ5.out 8).trans rfl
          have y9 := (blk_cell HZ5.out 9).trans rfl
          have z0 := blk_frozen HZ5.out 0
          have z1 := blk_frozen HZ5.out 1
          have z2 := blk_frozen HZ5.out 2
          have z3 := blk_frozen HZ5.out 3
          have z4 := blk_frozen HZ5.out 4
          have z5 := blk_frozen HZ5.out 5
          have z6 := blk_frozen HZ5.out 6
          have z7 := blk_frozen HZ5.out 7
          have z8 := blk_frozen HZ5.out 8
          have z9 := blk_frozen HZ5.out 9
          go_wp2
          refine bodyPost_ret (results_cell_row rfl _ _ (w.heap.size + 1 + 1) 26 _ (0, 0) _ rfl (put10_blk HZ5.out _ _ _ _ _ _ _ _ _ _) Tryz.underlying26 rfl (by kernel_rfl)) rfl ?_
          first | rw [HE2.out] | rw [← HS.out, HE2.out]
          exact fin_got HH.out HF5.out (by omega) HR5.out (held_mono HH5.out fun g _ hg => by have h1 := hg.1; have := HB3.out; have := HSZ.out; exact ⟨by omega, by omega⟩)
end Go.Proofs.YtbeeaikilcnpgaaGreatDoor.Exp

/- The reader of expressions: test. -/
set_option linter.unusedVariables false
set_option linter.unusedSimpArgs false
namespace Go.Proofs.YtbeeaikilcnpgaaGreatDoor.Exp
open Go.RowKit Go.Proofs.YtbeeaikilcnpgaaGreatDoor.Base Go.Proofs.YtbeeaikilcnpgaaGreatDoor.App Go.Proofs.YtbeeaikilcnpgaaGreatDoor.Byt Go.Proofs.YtbeeaikilcnpgaaGreatDoor.Lex

theorem sgTest_ok : SgOK sgTest := ⟨by decide, by decide, by decide, by decide⟩
set_option maxRecDepth 100000 in
set_option maxHeartbeats 6400000 in
theorem or1_calls (cap : Array Value) (K : World → Prop) (b1 bc R : Nat) (A : Option Addr) (m c : Nat) (l : Toks) (f : Nat → Res Ex) (i d : Nat) (w : World) (hK : K w) (hKs : Stays R K)
    (p1 : w.heap[b1]? = some (.cells #[.pointer (some ⟨R, 0, none⟩)] 91 (0, 0))) (pc : w.heap[bc]? = some (.cells #[.func (.func 99) #[] cap] 94 (0, 0)))
    (hf : PartK 85 cap K R A m c l f d) (h : RdW w R A m c l i d) :
    Calls Tryz.prog 84 #[.pointer (some ⟨b1, 0, none⟩), .pointer (some ⟨bc, 0, none⟩)] w (Got R A m c l d w (f i)) := by
  have HH := Asd.mk h
  have HF := Asd.mk hf
  have HK := Asd.mk hK
  have HKS := Asd.mk hKs
  have hst := st_func
  have HBA := Asd.mk (below_alloc (Below.refl _ w) (.cells #[.int .i64 0, .int .i64 0, .int .i64 0, .int .i64 0, .string ⟨#[]⟩, .string ⟨#[]⟩, .string ⟨#[]⟩, .int .i64 0, .int .i64 0, .slice none 0 0] 26 (0, 0)))
  have HZ0 := Asd.mk (blk_new w (.cells #[.int .i64 0, .int .i64 0, .int .i64 0, .int .i64 0, .string ⟨#[]⟩, .string ⟨#[]⟩, .string ⟨#[]⟩, .int .i64 0, .int .i64 0, .slice none 0 0] 26 (0, 0)))
  have HRW : Asd (R < w.heap.size) := Asd.mk (blk_lt h.blk)
  have HP1 := Asd.mk (blk_alloc p1 (.cells #[.int .i64 0, .int .i64 0, .int .i64 0, .int .i64 0, .string ⟨#[]⟩, .string ⟨#[]⟩, .string ⟨#[]⟩, .int .i64 0, .int .i64 0, .slice none 0 0] 26 (0, 0)))
  have HC1 := Asd.mk (blk_alloc pc (.cells #[.int .i64 0, .int .i64 0, .int .i64 0, .int .i64 0, .string ⟨#[]⟩, .string ⟨#[]⟩, .string ⟨#[]⟩, .int .i64 0, .int .i64 0, .slice none 0 0] 26 (0, 0)))
  clear h hf hK hKs p1 pc
  go_enter Tryz.func84, Tryz.ntmps84
  have c1 := (blk_cell HP1.out 0).trans rfl
  have c2 := (blk_cell HC1.out 0).trans rfl
  go_wp2_with fail
  generalize w.alloc (.cells #[.int .i64 0, .int .i64 0, .int .i64 0, .int .i64 0, .string ⟨#[]⟩, .string ⟨#[]⟩, .string ⟨#[]⟩, .int .i64 0, .int .i64 0, .slice none 0 0] 26 (0, 0)) = w0 at HBA HZ0 HP1 HC1 ⊢
  refine (HF.out w0 i (HH.out.below HBA.out) (HKS.out _ _ (Fr.of_below HBA.out) HK.out)).mono ?_
  rintro e w2 ⟨hf2, hm⟩
  have HF2 := Asd.mk (frR_below HBA.out hf2)
  have HSZ : Asd (w.heap.size < w0.heap.size) := Asd.mk (blk_lt HZ0.out)
  have HZ2 := Asd.mk (blk_fr HZ0.out hf2 (by show ¬ w.heap.size = R; have := HRW.out; omega))
  clear hf2
  cases hfi : f i with
  | error er =>
    rw [hfi] at hm
    obtain ⟨N, rfl, hN⟩ := hm
    have HE := Asd.mk hfi
    clear hfi
    go_wp2
    refine ⟨rfl, ?_⟩
    exact got_error HF2.out ⟨N, rfl, hN⟩
  | ok y =>
    obtain ⟨x, j⟩ := y
    rw [hfi] at hm
    have HE := Asd.mk hfi
    obtain ⟨s, rfl, hh, hr⟩ := hm
    obtain ⟨As, ms, cs, rfl⟩ := held_slice hh
    have HHX := Asd.mk hh
    have HRX := Asd.mk hr
    clear hfi hh hr
    unfold exV
    have y0 := (blk_cell HZ2.out 0).trans rfl
    have y1 := (blk_cell HZ2.out 1).trans rfl
    have y2 := (blk_cell HZ2.out 2).trans rfl
    have y3 := (blk_cell HZ2.out 3).trans rfl
    have y4 := (blk_cell HZ2.out 4).trans rfl
    have y5 := (blk_cell HZ2.out 5).trans rfl
    have y6 := (blk_cell HZ2.out 6).trans rfl
    have y7 := (blk_cell HZ2.out 7).trans rfl
    have y8 := (blk_cell HZ2.out 8).trans rfl
    have y9 := (blk_cell HZ2.out 9).trans rfl
    have z0 := blk_frozen HZ2.out 0
    have z1 := blk_frozen HZ2.out 1
    have z2 := blk_frozen HZ2.out 2
    have z3 := blk_frozen HZ2.out 3
    have z4 := blk_frozen HZ2.out 4
    have z5 := blk_frozen HZ2.out 5
    have z6 := blk_frozen HZ2.out 6
    have z7 := blk_frozen HZ2.out 7
    have z8 := blk_frozen HZ2.out 8
    have z9 := blk_frozen HZ2.out 9
    go_wp2
    refine bodyPost_ret (results_cell_row rfl _ _ w.heap.size 26 _ (0, 0) _ rfl (put10_blk HZ2.out _ _ _ _ _ _ _ _ _ _) Tryz.underlying26 rfl (by kernel_rfl)) rfl ?_
    rw [HE.out]
    exact fin_got HH.out HF2.out (Nat.le_refl _) HRX.out (held_mono HHX.out fun g _ hg => by have h1 : w0.heap.size ≤ g := hg; have := HSZ.out; exact ⟨by omega, by omega⟩)
set_option maxRecDepth 100000 in
set_option maxHeartbeats 12800000 in
theorem test_calls (cap : Array Value) (K : World → Prop) (nm : List UInt8 → Bool) (R : Nat) (A : Option Addr) (m c : Nat) (l : Toks) (sub : Option PF) (i d : Nat) (w : World) (hnear : Near l) (hahd : Ahd (catP nm l sub))
    (hKs : Stays R K) (hK : K w) (hcat : ∀ w, K w → OpOK 99 cap R A m c l (catP nm l sub) d w) (h : RdW w R A m c l i d) :
    Calls Tryz.prog 106 #[.pointer (some ⟨R, 0, none⟩), .func (.func 99) #[] cap] w (Got R A m c l d w (testP nm l sub i)) := by
  have HH := Asd.mk h
  have HCAT := Asd.mk hcat
  have HK := Asd.mk hK
  have HKS := Asd.mk hKs
  have HNE := Asd.mk hnear
  have HBA := Asd.mk (below_alloc (Below.refl _ w) (.cells #[.int .i64 0, .int .i64 0, .int .i64 0, .int .i64 0, .string ⟨#[]⟩, .string ⟨#[]⟩, .string ⟨#[]⟩, .int .i64 0, .int .i64 0, .slice none 0 0] 26 (0, 0)))
  have HZ0 := Asd.mk (blk_new w (.cells #[.int .i64 0, .int .i64 0, .int .i64 0, .int .i64 0, .string ⟨#[]⟩, .string ⟨#[]⟩, .string ⟨#[]⟩, .int .i64 0, .int .i64 0, .slice none 0 0] 26 (0, 0)))
  have HRW : Asd (R < w.heap.size) := Asd.mk (blk_lt h.blk)
  clear h hcat hK hKs hnear hahd
  go_enter Tryz.func106, Tryz.ntmps106
  go_wp2_with fail
  generalize w.alloc (.cells #[.int .i64 0, .int .i64 0, .int .i64 0, .int .i64 0, .string ⟨#[]⟩, .string ⟨#[]⟩, .string ⟨#[]⟩, .int .i64 0, .int .i64 0, .slice none 0 0] 26 (0, 0)) = w0 at HBA HZ0 ⊢
  try simp only [Array.empty_append]
  refine (HCAT.out w HK.out w0 (Fr.of_below HBA.out) i (HH.out.below HBA.out)).mono ?_
  rintro e w1 ⟨hf1, hm⟩
  have HF1 := Asd.mk (frR_below HBA.out hf1)
  have HSZ : Asd (w.heap.size < w0.heap.size) := Asd.mk (blk_lt HZ0.out)
  have HZ1 := Asd.mk (blk_fr HZ0.out hf1 (by show ¬ w.heap.size = R; have := HRW.out; omega))
  clear hf1
  cases hfi : catP nm l sub i with
  | error er =>
    rw [hfi] at hm
    obtain ⟨N, rfl, hN⟩ := hm
    have HE : Asd (testP nm l sub i = .error er) := Asd.mk (by unfold testP; rw [hfi])
    clear hfi
    go_wp2
    refine ⟨rfl, ?_⟩
    rw [HE.out]
    exact got_error HF1.out ⟨N, rfl, hN⟩
  | ok y =>
    obtain ⟨x, j⟩ := y
    rw [hfi] at hm
    have HCI := Asd.mk hfi
    obtain ⟨s, rfl, hh, hr⟩ := hm
    obtain ⟨As, ms, cs, rfl⟩ := held_slice hh
    have HHX : Asd (Held (fun g => w.heap.size < g) w1 x.args (.slice As ms cs)) := Asd.mk (held_mono hh fun g _ hg => by have h1 : w0.heap.size ≤ g := hg; have := HSZ.out; show w.heap.size < g; omega)
    have HRX := Asd.mk hr
    clear hfi hh hr
    unfold exV
    have HBB := Asd.mk (below_alloc (Below.refl _ w1) (.cells #[.int .i64 x.kind, .int .i64 x.op, .int .i64 x.v.kind, .int .i64 x.v.int, .string ⟨x.v.text.toArray⟩, .string ⟨x.table.toArray⟩, .string ⟨x.name.toArray⟩, .int .i64 x.col, .int .i64 x.ty, .slice As ms cs] 26 (0, 0)))
    have HX0 := Asd.mk (blk_new w1 (.cells #[.int .i64 x.kind, .int .i64 x.op, .int .i64 x.v.kind, .int .i64 x.v.int, .string ⟨x.v.text.toArray⟩, .string ⟨x.table.toArray⟩, .string ⟨x.name.toArray⟩, .int .i64 x.col, .int .i64 x.ty, .slice As ms cs] 26 (0, 0)))
    have HZ2 := Asd.mk (blk_alloc HZ1.out (.cells #[.int .i64 x.kind, .int .i64 x.op, .int .i64 x.v.kind, .int .i64 x.v.int, .string ⟨x.v.text.toArray⟩, .string ⟨x.table.toArray⟩, .string ⟨x.name.toArray⟩, .int .i64 x.col, .int .i64 x.ty, .slice As ms cs] 26 (0, 0)))
    have HLX : Asd (w.heap.size < w1.heap.size) := Asd.mk (blk_lt HZ1.out)
    go_wp2_with fail
    generalize w1.alloc (.cells #[.int .i64 x.kind, .int .i64 x.op, .int .i64 x.v.kind, .int .i64 x.v.int, .string ⟨x.v.text.toArray⟩, .string ⟨x.table.toArray⟩, .string ⟨x.name.toArray⟩, .int .i64 x.col, .int .i64 x.ty, .slice As ms cs] 26 (0, 0)) = w2 at HBB HX0 HZ2 ⊢
    have HR2 := Asd.mk (HRX.out.below HBB.out)
    have HH2 : Asd (Held (fun g => w.heap.size < g ∧ g ≠ w1.heap.size) w2 x.args (.slice As ms cs)) := Asd.mk (held_below (held_mono HHX.out fun g h1 hg => ⟨hg, by omega⟩) HBB.out)
    have HF2 := Asd.mk (below_frR HF1.out HBB.out)
    generalize w1.heap.size = b5 at HX0 HLX HH2 ⊢
    refine (take_calls R A m c l j d 1 [105, 115] w2 (by omega) HR2.out).mono ?_
    rintro e w3 ⟨rfl, hf3, hr3⟩
    have HF3 := Asd.mk (frR_trans HF2.out hf3)
    have HZ3 := Asd.mk (blk_fr HZ2.out hf3 (by show ¬ w.heap.size = R; have := HRW.out; omega))
    have HX3 := Asd.mk (blk_fr HX0.out hf3 (by show ¬ b5 = R; have := HRW.out; have := HLX.out; omega))
    have HH3 := Asd.mk (held_frS HH2.out hf3 (fun g hg h => by have h1 := hg.1; have h2 : g = R := h; have := HRW.out; omega))
    have HRT := Asd.mk hr3
    clear hf3 hr3
    have x0 := (blk_cell HX3.out 0).trans rfl
    have x1 := (blk_cell HX3.out 1).trans rfl
    have x2 := (blk_cell HX3.out 2).trans rfl
    have x3 := (blk_cell HX3.out 3).trans rfl
    have x4 := (blk_cell HX3.out 4).trans rfl
    have x5 := (blk_cell HX3.out 5).trans rfl
    have x6 := (blk_cell HX3.out 6).trans rfl
    have x7 := (blk_cell HX3.out 7).trans rfl
    have x8 := (blk_cell HX3.out 8).trans rfl
    have x9 := (blk_cell HX3.out 9).trans rfl
    cases hT : isT l j 1 [105, 115] with
    | true =>
      have HR3 : Asd (RdW w3 R A m c l (j + 1) d) := Asd.mk (by have := HRT.out; unfold tookT at this; rw [hT] at this; exact this)
      have HT := Asd.mk hT
      clear hT
      have HBC := Asd.mk (below_alloc (below_alloc (Below.refl _ w3) (.cells #[.int .i64 x.kind, .int .i64 x.op, .int .i64 x.v.kind, .int .i64 x.v.int, .string ⟨x.v.text.toArray⟩, .string ⟨x.table.toArray⟩, .string ⟨x.name.toArray⟩, .int .i64 x.col, .int .i64 x.ty, .slice As ms cs] 26 (0, 0))) (.cells #[.int .i64 7, .int .i64 0, .int .i64 0, .int .i64 0, .string ⟨#[]⟩, .string ⟨#[]⟩, .string ⟨#[]⟩, .int .i64 0, .int .i64 0, .slice (some ⟨w3.heap.size, 0, none⟩) 1 1] 26 (0, 0)))
      have HS0 := Asd.mk (blk_alloc (blk_new w3 (.cells #[.int .i64 x.kind, .int .i64 x.op, .int .i64 x.v.kind, .int .i64 x.v.int, .string ⟨x.v.text.toArray⟩, .string ⟨x.table.toArray⟩, .string ⟨x.name.toArray⟩, .int .i64 x.col, .int .i64 x.ty, .slice As ms cs] 26 (0, 0))) (.cells #[.int .i64 7, .int .i64 0, .int .i64 0, .int .i64 0, .string ⟨#[]⟩, .string ⟨#[]⟩, .string ⟨#[]⟩, .int .i64 0, .int .i64 0, .slice (some ⟨w3.heap.size, 0, none⟩) 1 1] 26 (0, 0)))
      have HV0 := Asd.mk (nb1 w3 (.cells #[.int .i64 x.kind, .int .i64 x.op, .int .i64 x.v.kind, .int .i64 x.v.int, .string ⟨x.v.text.toArray⟩, .string ⟨x.table.toArray⟩, .string ⟨x.name.toArray⟩, .int .i64 x.col, .int .i64 x.ty, .slice As ms cs] 26 (0, 0)) (.cells #[.int .i64 7, .int .i64 0, .int .i64 0, .int .i64 0, .string ⟨#[]⟩, .string ⟨#[]⟩, .string ⟨#[]⟩, .int .i64 0, .int .i64 0, .slice (some ⟨w3.heap.size, 0, none⟩) 1 1] 26 (0, 0)))
      have HZ4 := Asd.mk (blk_below HBC.out HZ3.out)
      have HSZ3 : Asd (w.heap.size < w3.heap.size ∧ b5 < w3.heap.size) := Asd.mk ⟨blk_lt HZ3.out, blk_lt HX3.out⟩
      go_wp2_with fail
      generalize (w3.alloc (.cells #[.int .i64 x.kind, .int .i64 x.op, .int .i64 x.v.kind, .int .i64 x.v.int, .string ⟨x.v.text.toArray⟩, .string ⟨x.table.toArray⟩, .string ⟨x.name.toArray⟩, .int .i64 x.col, .int .i64 x.ty, .slice As ms cs] 26 (0, 0))).alloc (.cells #[.int .i64 7, .int .i64 0, .int .i64 0, .int .i64 0, .string ⟨#[]⟩, .string ⟨#[]⟩, .string ⟨#[]⟩, .int .i64 0, .int .i64 0, .slice (some ⟨w3.heap.size, 0, none⟩) 1 1] 26 (0, 0)) = w4 at HBC HS0 HV0 HZ4 ⊢
      have HR4 := Asd.mk (HR3.out.below HBC.out)
      have HF4 := Asd.mk (below_frR HF3.out HBC.out)
      have HH4 : Asd (Held (fun g => w.heap.size < g ∧ g < w3.heap.size) w4 x.args (.slice As ms cs)) := Asd.mk (held_below (held_mono HH3.out fun g h1 hg => ⟨hg.1, h1⟩) HBC.out)
      generalize w3.heap.size = b6 at HS0 HV0 HSZ3 HH4 ⊢
      refine (take_calls R A m c l (j + 1) d 1 [110, 111, 116] w4 (by omega) HR4.out).mono ?_
      rintro e w5 ⟨rfl, hf5, hr5⟩
      have HF5 := Asd.mk (frR_trans HF4.out hf5)
      have HZ5 := Asd.mk (blk_fr HZ4.out hf5 (by show ¬ w.heap.size = R; have := HRW.out; omega))
      have HS5 := Asd.mk (blk_fr HS0.out hf5 (by show ¬ b6 = R; have := HRW.out; have := HSZ3.out.1; omega))
      have HV5 := Asd.mk (blk_fr HV0.out hf5 (by show ¬ b6 + 1 = R; have := HRW.out; have := HSZ3.out.1; omega))
      have HH5 := Asd.mk (held_frS HH4.out hf5 (fun g hg h => by have h1 := hg.1; have h2 : g = R := h; have := HRW.out; omega))
      have HRU := Asd.mk hr5
      clear hf5 hr5 x0 x1 x2 x3 x4 x5 x6 x7 x8 x9
      cases hU : isT l (j + 1) 1 [110, 111, 116] with
      | true =>
        have HR5 : Asd (RdW w5 R A m c l (j + 2) d) := Asd.mk (by have := HRU.out; unfold tookT at this; rw [hU] at this; exact this)
        have HU := Asd.mk hU
        clear hU
        have v1 := (blk_cell HV5.out 1).trans rfl
        have f1 := blk_frozen HV5.out 1
        have hst := Fr.setCell (S := fun k => k = b6 + 1) (Fr.refl _ w5) (p := ⟨b6 + 1, 1, none⟩) rfl (.int .i64 1)
        have HV6 : Asd ((w5.setCell ⟨b6 + 1, 1, none⟩ (.int .i64 1)).heap[b6 + 1]? = some (.cells #[.int .i64 7, .int .i64 1, .int .i64 0, .int .i64 0, .string ⟨#[]⟩, .string ⟨#[]⟩, .string ⟨#[]⟩, .int .i64 0, .int .i64 0, .slice (some ⟨b6, 0, none⟩) 1 1] 26 (0, 0))) := Asd.mk ((blk_set HV5.out 1 (.int .i64 1)).trans rfl)
        have HF6 := Asd.mk (fr_new HF5.out hst (fun k hk => .inr (by have h1 : k = b6 + 1 := hk; have := HSZ3.out.1; omega)))
        have HR6 := Asd.mk (HR5.out.var hst (by have := HRW.out; have := HSZ3.out.1; omega) (by have := HRW.out; have := HSZ3.out.1; omega) (x := nullE 0 x) (y := nullE 1 x) HV5.out HV6.out)
        have HZ6 := Asd.mk (blk_fr HZ5.out hst (by show ¬ w.heap.size = b6 + 1; have := HSZ3.out.1; omega))
        have HS6 := Asd.mk (blk_fr HS5.out hst (by show ¬ b6 = b6 + 1; omega))
        have HH6 := Asd.mk (held_frS HH5.out hst (fun g hg h => by have h1 := hg.2; have h2 : g = b6 + 1 := h; omega))
        clear hst
        go_wp2_with fail
        refine (must_calls R A m c l (j + 2) d 1 [110, 117, 108, 108] _ HNE.out (by omega) HR6.out).mono ?_
        rintro e w7 ⟨hf7, hm⟩
        have HF7 := Asd.mk (frR_trans HF6.out hf7)
        have HZ7 := Asd.mk (blk_fr HZ6.out hf7 (by show ¬ w.heap.size = R; have := HRW.out; omega))
        have HS7 := Asd.mk (blk_fr HS6.out hf7 (by show ¬ b6 = R; have := HRW.out; have := HSZ3.out.1; omega))
        have HV7 := Asd.mk (blk_fr HV6.out hf7 (by show ¬ b6 + 1 = R; have := HRW.out; have := HSZ3.out.1; omega))
        have HH7 := Asd.mk (held_frS HH6.out hf7 (fun g hg h => by have h1 := hg.1; have h2 : g = R := h; have := HRW.out; omega))
        clear hf7
        cases hM : mustT l (j + 2) 1 [110, 117, 108, 108] with
        | error er =>
          rw [hM] at hm
          obtain ⟨N, rfl, hN⟩ := hm
          have HE : Asd (testP nm l sub i = .error er) := Asd.mk (by unfold testP; rw [HCI.out]; simp only; rw [if_pos HT.out, HU.out]; simp only [if_true, if_false, Bool.false_eq_true]; rw [hM])
          clear hM
          go_wp2
          refine ⟨rfl, ?_⟩
          rw [HE.out]
          exact got_error HF7.out ⟨N, rfl, hN⟩
        | ok q =>
          rw [hM] at hm
          obtain ⟨rfl, hr7⟩ := hm
          have HE : Asd (testP nm l sub i = .ok (nullE 1 x, q)) := Asd.mk (by unfold testP; rw [HCI.out]; simp only; rw [if_pos HT.out, HU.out]; simp only [if_true, if_false, Bool.false_eq_true]; rw [hM])
          have HR7 := Asd.mk hr7
          clear hM hr7
          have x0 := (blk_cell HV7.out 0).trans rfl
          have x1 := (blk_cell HV7.out 1).trans rfl
          have x2 := (blk_cell HV7.out 2).trans rfl
          have x3 := (blk_cell HV7.out 3).trans rfl
          have x4 := (blk_cell HV7.out 4).trans rfl
          have x5 := (blk_cell HV7.out 5).trans rfl
          have x6 := (blk_cell HV7.out 6).trans rfl
          have x7 := (blk_cell HV7.out 7).trans rfl
          have x8 := (blk_cell HV7.out 8).trans rfl
          have x9 := (blk_cell HV7.out 9).trans rfl
          have y0 := (blk_cell HZ7.out 0).trans rfl
          have y1 := (blk_cell HZ7.out 1).trans rfl
          have y2 := (blk_cell HZ7.out 2).trans rfl
          have y3 := (blk_cell HZ7.out 3).trans rfl
          have y4 := (blk_cell HZ7.out 4).trans rfl
          have y5 := (blk_cell HZ7.out 5).trans rfl
          have y6 := (blk_cell HZ7.out 6).trans rfl
          have y7 := (blk_cell HZ7.out 7).trans rfl
          have y8 := (blk_cell HZ7.out 8).trans rfl
          have y9 := (blk_cell HZ7.out 9).trans rfl
          have z0 := blk_frozen HZ7.out 0
          have z1 := blk_frozen HZ7.out 1
          have z2 := blk_frozen HZ7.out 2
          have z3 := blk_frozen HZ7.out 3
          have z4 := blk_frozen HZ7.out 4
          have z5 := blk_frozen HZ7.out 5
          have z6 := blk_frozen HZ7.out 6
          have z7 := blk_frozen HZ7.out 7
          have z8 := blk_frozen HZ7.out 8
          have z9 := blk_frozen HZ7.out 9
          go_wp2
          refine bodyPost_ret (results_cell_row rfl _ _ w.heap.size 26 _ (0, 0) _ rfl (put10_blk HZ7.out _ _ _ _ _ _ _ _ _ _) Tryz.underlying26 rfl (by kernel_rfl)) rfl ?_
          rw [HE.out]
          refine fin_got (x := nullE 1 x) HH.out HF7.out (Nat.le_refl _) HR7.out ?_
          refine held_of_blk (P := fun g => w.heap.size ≤ g ∧ g ≠ w.heap.size) (c := 1) ⟨by have := HSZ3.out.1; omega, by have := HSZ3.out.1; omega⟩ [(x, .slice As ms cs)] HS7.out ?_
          intro p hp
          simp only [List.mem_singleton] at hp
          subst hp
          exact held_mono HH7.out (fun g _ hg => ⟨Nat.le_of_lt hg.1, by have := hg.1; omega⟩)
      | false =>
        have HR5 : Asd (RdW w5 R A m c l (j + 1) d) := Asd.mk (by have := HRU.out; unfold tookT at this; rw [hU] at this; exact this)
        have HU := Asd.mk hU
        clear hU
        go_wp2_with fail
        refine (must_calls R A m c l (j + 1) d 1 [110, 117, 108, 108] _ HNE.out (by omega) HR5.out).mono ?_
        rintro e w7 ⟨hf7, hm⟩
        have HF7 := Asd.mk (frR_trans HF5.out hf7)
        have HZ7 := Asd.mk (blk_fr HZ5.out hf7 (by show ¬ w.heap.size = R; have := HRW.out; omega))
        have HS7 := Asd.mk (blk_fr HS5.out hf7 (by show ¬ b6 = R; have := HRW.out; have := HSZ3.out.1; omega))
        have HV7 := Asd.mk (blk_fr HV5.out hf7 (by show ¬ b6 + 1 = R; have := HRW.out; have := HSZ3.out.1; omega))
        have HH7 := Asd.mk (held_frS HH5.out hf7 (fun g hg h => by have h1 := hg.1; have h2 : g = R := h; have := HRW.out; omega))
        clear hf7
        cases hM : mustT l (j + 1) 1 [110, 117, 108, 108] with
        | error er =>
          rw [hM] at hm
          obtain ⟨N, rfl, hN⟩ := hm
          have HE : Asd (testP nm l sub i = .error er) := Asd.mk (by unfold testP; rw [HCI.out]; simp only; rw [if_pos HT.out, HU.out]; simp only [if_true, if_false, Bool.false_eq_true]; rw [hM])
          clear hM
          go_wp2
          refine ⟨rfl, ?_⟩
          rw [HE.out]
          exact got_error HF7.out ⟨N, rfl, hN⟩
        | ok q =>
          rw [hM] at hm
          obtain ⟨rfl, hr7⟩ := hm
          have HE : Asd (testP nm l sub i = .ok (nullE 0 x, q)) := Asd.mk (by unfold testP; rw [HCI.out]; simp only; rw [if_pos HT.out, HU.out]; simp only [if_true, if_false, Bool.false_eq_true]; rw [hM])
          have HR7 := Asd.mk hr7
          clear hM hr7
          have x0 := (blk_cell HV7.out 0).trans rfl
          have x1 := (blk_cell HV7.out 1).trans rfl
          have x2 := (blk_cell HV7.out 2).trans rfl
          have x3 := (blk_cell HV7.out 3).trans rfl
          have x4 := (blk_cell HV7.out 4).trans rfl
          have x5 := (blk_cell HV7.out 5).trans rfl
          have x6 := (blk_cell HV7.out 6).trans rfl
          have x7 := (blk_cell HV7.out 7).trans rfl
          have x8 := (blk_cell HV7.out 8).trans rfl
          have x9 := (blk_cell HV7.out 9).trans rfl
          have y0 := (blk_cell HZ7.out 0).trans rfl
          have y1 := (blk_cell HZ7.out 1).trans rfl
          have y2 := (blk_cell HZ7.out 2).trans rfl
          have y3 := (blk_cell HZ7.out 3).trans rfl
          have y4 := (blk_cell HZ7.out 4).trans rfl
          have y5 := (blk_cell HZ7.out 5).trans rfl
          have y6 := (blk_cell HZ7.out 6).trans rfl
          have y7 := (blk_cell HZ7.out 7).trans rfl
          have y8 := (blk_cell HZ7.out 8).trans rfl
          have y9 := (blk_cell HZ7.out 9).trans rfl
          have z0 := blk_frozen HZ7.out 0
          have z1 := blk_frozen HZ7.out 1
          have z2 := blk_frozen HZ7.out 2
          have z3 := blk_frozen HZ7.out 3
          have z4 := blk_frozen HZ7.out 4
          have z5 := blk_frozen HZ7.out 5
          have z6 := blk_frozen HZ7.out 6
          have z7 := blk_frozen HZ7.out 7
          have z8 := blk_frozen HZ7.out 8
          have z9 := blk_frozen HZ7.out 9
          go_wp2
          refine bodyPost_ret (results_cell_row rfl _ _ w.heap.size 26 _ (0, 0) _ rfl (put10_blk HZ7.out _ _ _ _ _ _ _ _ _ _) Tryz.underlying26 rfl (by kernel_rfl)) rfl ?_
          rw [HE.out]
          refine fin_got (x := nullE 0 x) HH.out HF7.out (Nat.le_refl _) HR7.out ?_
          refine held_of_blk (P := fun g => w.heap.size ≤ g ∧ g ≠ w.heap.size) (c := 1) ⟨by have := HSZ3.out.1; omega, by have := HSZ3.out.1; omega⟩ [(x, .slice As ms cs)] HS7.out ?_
          intro p hp
          simp only [List.mem_singleton] at hp
          subst hp
          exact held_mono HH7.out (fun g _ hg => ⟨Nat.le_of_lt hg.1, by have := hg.1; omega⟩)
    | false =>
      have HR3 : Asd (RdW w3 R A m c l j d) := Asd.mk (by have := HRT.out; unfold tookT at this; rw [hT] at this; exact this)
      have HT := Asd.mk hT
      clear hT
      go_wp2_with fail
      refine (tests_calls w3).mono ?_
      rintro e w4 ⟨⟨v, rfl, hv⟩, hb4⟩
      have HV := Asd.mk hv
      have HR4 := Asd.mk (HR3.out.below hb4)
      have HF4 := Asd.mk (below_frR HF3.out hb4)
      have HZ4 := Asd.mk (blk_below hb4 HZ3.out)
      have HX4 := Asd.mk (blk_below hb4 HX3.out)
      have HH4 := Asd.mk (held_below HH3.out hb4)
      clear hb4 hv x0 x1 x2 x3 x4 x5 x6 x7 x8 x9
      go_wp2_with fail
      refine (operator_calls R A m c l j d sgTest v w4 sgTest_ok.pos sgTest_ok.kind sgTest_ok.few HV.out HR4.out).mono ?_
      rintro e w5 ⟨rfl, hf5, hr5⟩
      have HF5 := Asd.mk (frR_trans HF4.out hf5)
      have HZ5 := Asd.mk (blk_fr HZ4.out hf5 (by show ¬ w.heap.size = R; have := HRW.out; omega))
      have HX5 := Asd.mk (blk_fr HX4.out hf5 (by show ¬ b5 = R; have := HRW.out; have := HLX.out; omega))
      have HH5 := Asd.mk (held_frS HH4.out hf5 (fun g hg h => by have h1 := hg.1; have h2 : g = R := h; have := HRW.out; omega))
      have HRO := Asd.mk hr5
      clear hf5 hr5
      cases hO : operT sgTest l j with
      | none =>
        have HR5 : Asd (RdW w5 R A m c l j d) := Asd.mk (by have := HRO.out; unfold tookO at this; rw [hO] at this; exact this)
        have HE : Asd (testP nm l sub i = .ok (x, j)) := Asd.mk (by unfold testP; rw [HCI.out]; simp only; rw [if_neg (by rw [HT.out]; decide), hO])
        rw [show (none : Option Int).getD 0 = 0 from rfl]
        clear hO
        have x0 := (blk_cell HX5.out 0).trans rfl
        have x1 := (blk_cell HX5.out 1).trans rfl
        have x2 := (blk_cell HX5.out 2).trans rfl
        have x3 := (blk_cell HX5.out 3).trans rfl
        have x4 := (blk_cell HX5.out 4).trans rfl
        have x5 := (blk_cell HX5.out 5).trans rfl
        have x6 := (blk_cell HX5.out 6).trans rfl
        have x7 := (blk_cell HX5.out 7).trans rfl
        have x8 := (blk_cell HX5.out 8).trans rfl
        have x9 := (blk_cell HX5.out 9).trans rfl
        have y0 := (blk_cell HZ5.out 0).trans rfl
        have y1 := (blk_cell HZ5.out 1).trans rfl
        have y2 := (blk_cell HZ5.out 2).trans rfl
        have y3 := (blk_cell HZ5.out 3).trans rfl
        have y4 := (blk_cell HZ5.out 4).trans rfl
        have y5 := (blk_cell HZ5.out 5).trans rfl
        have y6 := (blk_cell HZ5.out 6).trans rfl
        have y7 := (blk_cell HZ5.out 7).trans rfl
        have y8 := (blk_cell HZ5.out 8).trans rfl
        have y9 := (blk_cell HZ5.out 9).trans rfl
        have z0 := blk_frozen HZ5.out 0
        have z1 := blk_frozen HZ5.out 1
        have z2 := blk_frozen HZ5.out 2
        have z3 := blk_frozen HZ5.out 3
        have z4 := blk_frozen HZ5.out 4
        have z5 := blk_frozen HZ5.out 5
        have z6 := blk_frozen HZ5.out 6
        have z7 := blk_frozen HZ5.out 7
        have z8 := blk_frozen HZ5.out 8
        have z9 := blk_frozen HZ5.out 9
        go_wp2
        refine bodyPost_ret (results_cell_row rfl _ _ w.heap.size 26 _ (0, 0) _ rfl (put10_blk HZ5.out _ _ _ _ _ _ _ _ _ _) Tryz.underlying26 rfl (by kernel_rfl)) rfl ?_
        rw [HE.out]
        exact fin_got HH.out HF5.out (Nat.le_refl _) HR5.out (held_mono HH5.out fun g _ hg => ⟨Nat.le_of_lt hg.1, by have := hg.1; omega⟩)
      | some o =>
        obtain ⟨xo, hmem, hxo⟩ := operT_mem hO
        have ho : ¬ o = 0 := by rw [← hxo]; exact sgTest_ok.op xo hmem
        have hob : (o != 0) = true := by simp [ho]
        have HO := Asd.mk hO
        have HR5 : Asd (RdW w5 R A m c l (j + 1) d) := Asd.mk (by have := HRO.out; unfold tookO at this; rw [hO] at this; exact this)
        clear hO hmem hxo
        rw [show (some o).getD 0 = o from rfl]
        go_upto_region 10 with fail
        have HFD : Asd (Fr (fun k => k = R) w w5.drew) := Asd.mk HF5.out.drew
        have HXD : Asd (w5.drew.heap[b5]? = some (.cells (exC x (.slice As ms cs)).toArray 26 (0, 0))) := Asd.mk HX5.out
        have HZD : Asd (w5.drew.heap[w.heap.size]? = some (.cells #[.int .i64 0, .int .i64 0, .int .i64 0, .int .i64 0, .string ⟨#[]⟩, .string ⟨#[]⟩, .string ⟨#[]⟩, .int .i64 0, .int .i64 0, .slice none 0 0] 26 (0, 0))) := Asd.mk HZ5.out
        have HHD := Asd.mk (held_below HH5.out (below_drewN' w5 1))
        have HRD := Asd.mk (HR5.out.below (below_drewN' w5 1))
        have HB5D : Asd (b5 < w5.drew.heap.size) := Asd.mk (blk_lt HXD.out)
        have hcf : ∀ (args : Array Value) (w : World), (callFunc 99 args).run Tryz.prog w = .ok (.enter 99 args) w := isGo_chain
        refine wp_region_held_drew (S := fun w' => w'.cell? ⟨b5, 0, none⟩ = some (.int .i64 x.kind) ∧ w'.cell? ⟨b5, 1, none⟩ = some (.int .i64 x.op) ∧ w'.cell? ⟨b5, 2, none⟩ = some (.int .i64 x.v.kind) ∧ w'.cell? ⟨b5, 3, none⟩ = some (.int .i64 x.v.int) ∧ w'.cell? ⟨b5, 4, none⟩ = some (.string ⟨x.v.text.toArray⟩) ∧ w'.cell? ⟨b5, 5, none⟩ = some (.string ⟨x.table.toArray⟩) ∧ w'.cell? ⟨b5, 6, none⟩ = some (.string ⟨x.name.toArray⟩) ∧ w'.cell? ⟨b5, 7, none⟩ = some (.int .i64 x.col) ∧ w'.cell? ⟨b5, 8, none⟩ = some (.int .i64 x.ty) ∧ w'.cell? ⟨b5, 9, none⟩ = some (.slice As ms cs)) (by kernel_rfl) (ex_cells HXD.out) (fun hHeld => ?_)
        refine wpAnyH_take (i := 0) (oi := ({ dst := some 26, op := Op.move (Operand.tmp 7), type := 3, pos := "expr.go:160", after := #[], guard := none } : Oper)) (v := ?va0) rfl (by kernel_rfl) (by kernel_rfl) (by kernel_rfl) (fun _ _ _ h => h) (Or.inl ⟨by rfl, ?ha0⟩) (by assumption) ?ra0
        case ha0 => (intro w hSw; (try dsimp only at hSw); obtain ⟨g0, g1, g2, g3, g4, g5, g6, g7, g8, g9⟩ := hSw; go_simp; try (with_reducible rfl))
        try simp only [Act.put, List.setIfInBounds_toArray, List.set_cons_zero, List.set_cons_succ]
        refine wpAnyH_take (i := 1) (oi := ({ dst := some 27, op := Op.load 26 (Operand.tmp 5), type := 26, pos := "expr.go:160", after := #[], guard := none } : Oper)) (v := ?va1) rfl (by kernel_rfl) (by kernel_rfl) (by kernel_rfl) (fun _ _ _ h => h) (Or.inl ⟨by rfl, ?ha1⟩) (by assumption) ?ra1
        case ha1 => (intro w hSw; (try dsimp only at hSw); obtain ⟨g0, g1, g2, g3, g4, g5, g6, g7, g8, g9⟩ := hSw; go_simp; try (with_reducible rfl))
        try simp only [Act.put, List.setIfInBounds_toArray, List.set_cons_zero, List.set_cons_succ]
        refine wpAnyH_take (i := 2) (oi := ({ dst := some 28, op := Op.move (Operand.tmp 1), type := 94, pos := "expr.go:160", after := #[], guard := none } : Oper)) (v := ?va2) rfl (by kernel_rfl) (by kernel_rfl) (by kernel_rfl) (fun _ _ _ h => h) (Or.inl ⟨by rfl, ?ha2⟩) (by assumption) ?ra2
        case ha2 => (intro w hSw; (try dsimp only at hSw); obtain ⟨g0, g1, g2, g3, g4, g5, g6, g7, g8, g9⟩ := hSw; go_simp; try (with_reducible rfl))
        try simp only [Act.put, List.setIfInBounds_toArray, List.set_cons_zero, List.set_cons_succ]
        refine wpAnyH_ready (rs := [3]) (by kernel_rfl) (by simp) ?_
        refine AllReadyH.cons (o := ({ dst := some 29, op := Op.call { callee := Callee.value (Operand.tmp 28), args := #[], argTypes := #[] }, type := 26, pos := "expr.go:160", after := #[{ on := 2, ground := Ground.data }], guard := none } : Oper)) rfl (fun K0 hK0 => ?_) AllReadyH.nil
        go_simp
        refine (HCAT.out w HK.out _ HFD.out (j + 1) HRD.out).mono ?_
        rintro e w6 ⟨hf6, hm⟩
        have HF6 := Asd.mk (frR_trans HFD.out hf6)
        have HX6 : Asd (w6.heap[b5]? = some (.cells (exC x (.slice As ms cs)).toArray 26 (0, 0))) := Asd.mk (blk_fr HXD.out hf6 (by show ¬ b5 = R; have := HRW.out; have := HLX.out; omega))
        have HZ6 := Asd.mk (blk_fr HZD.out hf6 (by show ¬ w.heap.size = R; have := HRW.out; omega))
        have HH6 := Asd.mk (held_frS HHD.out hf6 (fun g hg h => by have h1 := hg.1; have h2 : g = R := h; have := HRW.out; omega))
        clear hf6
        cases hfy : catP nm l sub (j + 1) with
        | error er =>
          rw [hfy] at hm
          have HE : Asd (testP nm l sub i = .error er) := Asd.mk (by unfold testP; rw [HCI.out]; simp only; rw [if_neg (by rw [HT.out]; decide), HO.out]; simp only; rw [hfy])
          obtain ⟨N, rfl, hN⟩ := hm
          refine ⟨rfl, ?_⟩
          rw [HE.out]
          exact got_error HF6.out ⟨N, rfl, hN⟩
        | ok yy =>
          obtain ⟨y, q⟩ := yy
          rw [hfy] at hm
          have HE : Asd (testP nm l sub i = .ok (pairE o x y, q)) := Asd.mk (by unfold testP; rw [HCI.out]; simp only; rw [if_neg (by rw [HT.out]; decide), HO.out]; simp only; rw [hfy])
          obtain ⟨s6, rfl, hh6, hr6⟩ := hm
          obtain ⟨A6, m6, c6, rfl⟩ := held_slice hh6
          have HR6 := Asd.mk hr6
          have HY6 : Asd (Held (fun g => w.heap.size < g ∧ g ≠ b5) w6 y.args (.slice A6 m6 c6)) := Asd.mk (held_mono hh6 fun g _ hg => by have h1 : w5.drew.heap.size ≤ g := hg; have := HB5D.out; have := HLX.out; exact ⟨by omega, by omega⟩)
          clear hfy hh6 hr6
          unfold exV
          go_wp2_with fail
          refine hK0.out _ _ (ex_cells HX6.out) (fun hHeld => ?_)
          clear hK0 K0
          try simp only [Act.put, List.setIfInBounds_toArray, List.set_cons_zero, List.set_cons_succ]
          refine wpAnyH_ready (rs := [4]) (by kernel_rfl) (by simp) ?_
          refine AllReadyH.cons (o := ({ dst := some 30, op := Op.call { callee := Callee.value (Operand.func 101), args := #[Operand.tmp 26, Operand.tmp 27, Operand.tmp 29], argTypes := #[3, 26, 26] }, type := 26, pos := "expr.go:160", after := #[{ on := 0, ground := Ground.data }, { on := 1, ground := Ground.data }, { on := 3, ground := Ground.data }, { on := 3, ground := Ground.chain }], guard := none } : Oper)) rfl (fun K0 hK0 => ?_) AllReadyH.nil
          go_simp
          refine (pair_calls o x y (.slice As ms cs) (.slice A6 m6 c6) w6 HH6.out HY6.out).mono ?_
          rintro e w7 ⟨⟨s7, rfl, hh7⟩, hb7⟩
          obtain ⟨A7, m7, c7, rfl⟩ := held_slice hh7
          unfold exV
          have HF7 := Asd.mk (below_frR HF6.out hb7)
          have HX7 := Asd.mk (blk_below hb7 HX6.out)
          have HZ7 := Asd.mk (blk_below hb7 HZ6.out)
          have HR7 := Asd.mk (HR6.out.below hb7)
          have HH7 : Asd (Held (fun g => w.heap.size ≤ g ∧ g ≠ w.heap.size) w7 (pairE o x y).args (.slice A7 m7 c7)) := Asd.mk (held_mono hh7 fun g _ hg => by rcases hg with hg | hg; exact ⟨Nat.le_of_lt hg.1, by have := hg.1; omega⟩; have := blk_lt HZ6.out; exact ⟨by omega, by omega⟩)
          clear hb7 hh7
          go_wp2_with fail
          refine hK0.out _ _ (ex_cells HX7.out) (fun hHeld => ?_)
          clear hK0 K0
          try simp only [Act.put, List.setIfInBounds_toArray, List.set_cons_zero, List.set_cons_succ]
          have y0 := (blk_cell HZ7.out 0).trans rfl
          have y1 := (blk_cell HZ7.out 1).trans rfl
          have y2 := (blk_cell HZ7.out 2).trans rfl
          have y3 := (blk_cell HZ7.out 3).trans rfl
          have y4 := (blk_cell HZ7.out 4).trans rfl
          have y5 := (blk_cell HZ7.out 5).trans rfl
          have y6 := (blk_cell HZ7.out 6).trans rfl
          have y7 := (blk_cell HZ7.out 7).trans rfl
          have y8 := (blk_cell HZ7.out 8).trans rfl
          have y9 := (blk_cell HZ7.out 9).trans rfl
          have z0 := blk_frozen HZ7.out 0
          have z1 := blk_frozen HZ7.out 1
          have z2 := blk_frozen HZ7.out 2
          have z3 := blk_frozen HZ7.out 3
          have z4 := blk_frozen HZ7.out 4
          have z5 := blk_frozen HZ7.out 5
          have z6 := blk_frozen HZ7.out 6
          have z7 := blk_frozen HZ7.out 7
          have z8 := blk_frozen HZ7.out 8
          have z9 := blk_frozen HZ7.out 9
          have hx8 := ex_cells (blk_fr HX7.out (put10_fr (W := w7) (b := w.heap.size) (S := fun k => k = w.heap.size) rfl (.int .i64 (pairE o x y).kind) (.int .i64 (pairE o x y).op) (.int .i64 (pairE o x y).v.kind) (.int .i64 (pairE o x y).v.int) (.string ⟨(pairE o x y).v.text.toArray⟩) (.string ⟨(pairE o x y).table.toArray⟩) (.string ⟨(pairE o x y).name.toArray⟩) (.int .i64 (pairE o x y).col) (.int .i64 (pairE o x y).ty) (.slice A7 m7 c7)) (by show ¬ b5 = w.heap.size; have := HLX.out; omega))
          refine wpAnyH_ready (rs := [5]) (by kernel_rfl) (by simp) ?_
          refine AllReadyH.cons (o := ({ dst := none, op := Op.store 26 (Operand.tmp 4) (Operand.tmp 30), type := 0, pos := "expr.go:160", after := #[{ on := 4, ground := Ground.data }, { on := 4, ground := Ground.chain }, { on := 0, ground := Ground.phase }, { on := 1, ground := Ground.phase }, { on := 2, ground := Ground.phase }, { on := 3, ground := Ground.phase }, { on := 4, ground := Ground.phase }], guard := none } : Oper)) rfl (fun K0 hK0 => ?_) AllReadyH.nil
          go_simp
          go_wp2_with fail
          refine hK0.out _ _ hx8 (fun hHeld => ?_)
          clear hK0 K0
          try simp only [Act.put, List.setIfInBounds_toArray, List.set_cons_zero, List.set_cons_succ]
          refine wpAnyH_done (by kernel_rfl) ?_ _
          go_wp2
          refine bodyPost_ret (results_cell_row rfl _ _ w.heap.size 26 _ (0, 0) _ rfl (put10_blk HZ7.out _ _ _ _ _ _ _ _ _ _) Tryz.underlying26 rfl (by kernel_rfl)) rfl ?_
          rw [HE.out]
          exact fin_got HH.out HF7.out (Nat.le_refl _) HR7.out HH7.out
end Go.Proofs.YtbeeaikilcnpgaaGreatDoor.Exp

/- The reader of expressions: or. -/
set_option linter.unusedVariables false
set_option linter.unusedSimpArgs false
namespace Go.Proofs.YtbeeaikilcnpgaaGreatDoor.Exp
open Go.RowKit Go.Proofs.YtbeeaikilcnpgaaGreatDoor.Base Go.Proofs.YtbeeaikilcnpgaaGreatDoor.App Go.Proofs.YtbeeaikilcnpgaaGreatDoor.Byt Go.Proofs.YtbeeaikilcnpgaaGreatDoor.Lex

theorem isGo_sign : IsGo 83 := isGo_of Tryz.func83 (by kernel_rfl) rfl
theorem isGo_or1 : IsGo 84 := isGo_of Tryz.func84 (by kernel_rfl) rfl
/-- The closure for chains of '||'. -/
def CatK (R : Nat) (cap : Array Value) (w : World) : Prop := ∃ cap0 cap1, ChainAt R 83 #[.pointer (some ⟨R, 0, none⟩)] #[] sgProd cap0 w ∧ ChainAt R 99 #[] cap0 sgSum cap1 w ∧ ChainAt R 99 #[] cap1 sgCat cap w
theorem catK_stays (R : Nat) (cap : Array Value) : Stays R (CatK R cap) := fun w w' hf ⟨cap0, cap1, h0, h1, h2⟩ => ⟨cap0, cap1, h0.fr hf, h1.fr hf, h2.fr hf⟩
theorem opOK_part {F : FuncId} {R : Nat} {A : Option Addr} {m c : Nat} {l : Toks} {f : Nat → Res Ex} {d : Nat} (h : PartOK F R A m c l f d) (w : World) : OpOK F #[.pointer (some ⟨R, 0, none⟩)] R A m c l f d w := fun w' _ i hr => h w' i hr
theorem catK_op {nm : List UInt8 → Bool} {R : Nat} {A : Option Addr} {m c : Nat} {l : Toks} {sub : Option PF} {d : Nat} {cap : Array Value} {w : World} (h : CatK R cap w) (hnear : Near l) (hah : ∀ p, sub = some p → Ahds p) (hsign : PartOK 83 R A m c l (signP nm l sub) d) : OpOK 99 cap R A m c l (catP nm l sub) d w := by
  obtain ⟨cap0, cap1, h0, h1, h2⟩ := h
  have o0 : OpOK 99 cap0 R A m c l (prodP nm l sub) d w := h0.op sgProd_ok isGo_sign hnear (signP_ahd hah) (by rw [Array.append_empty]; exact opOK_part hsign w)
  have o1 : OpOK 99 cap1 R A m c l (sumP nm l sub) d w := h1.op sgSum_ok isGo_chain hnear (prodP_ahd hah) (by rw [Array.empty_append]; exact o0)
  exact h2.op sgCat_ok isGo_chain hnear (sumP_ahd hah) (by rw [Array.empty_append]; exact o1)
/-- What 'or' leans on behind its boxes. -/
structure OrW (b1 b2 g : Nat) (R : Nat) (v0 v1 v2 v3 v4 : Value) (w : World) : Prop where
  p1 : w.heap[b1]? = some (.cells #[.pointer (some ⟨R, 0, none⟩)] 91 (0, 0))
  z : w.heap[b2]? = some (.cells #[.int .i64 0, .int .i64 0, .int .i64 0, .int .i64 0, .string ⟨#[]⟩, .string ⟨#[]⟩, .string ⟨#[]⟩, .int .i64 0, .int .i64 0, .slice none 0 0] 26 (0, 0))
  p3 : w.heap[g]? = some (.cells #[v0, v1, v2, v3, v4] 115 (0, 0))
  s0 : SgA w sgOr v0
  s1 : SgA w sgAnd v1
  s2 : SgA w sgCat v2
  s3 : SgA w sgSum v3
  s4 : SgA w sgProd v4
theorem OrW.below {b1 b2 g R : Nat} {v0 v1 v2 v3 v4 : Value} {w w' : World} (h : OrW b1 b2 g R v0 v1 v2 v3 v4 w) (hb : Below w.heap.size w w') : OrW b1 b2 g R v0 v1 v2 v3 v4 w' :=
  ⟨blk_below hb h.p1, blk_below hb h.z, blk_below hb h.p3, h.s0.below hb, h.s1.below hb, h.s2.below hb, h.s3.below hb, h.s4.below hb⟩
theorem keep2 {b1 b2 g R : Nat} {v0 v1 v2 v3 v4 : Value} {w : World} (h : OrW b1 b2 g R v0 v1 v2 v3 v4 w) : w.cell? ⟨b1, 0, none⟩ = some (.pointer (some ⟨R, 0, none⟩)) ∧ w.cell? ⟨g, 2, none⟩ = some v2 ∧ w.cell? ⟨g, 3, none⟩ = some v3 ∧ w.cell? ⟨g, 4, none⟩ = some v4 :=
  ⟨(blk_cell h.p1 0).trans rfl, (blk_cell h.p3 2).trans rfl, (blk_cell h.p3 3).trans rfl, (blk_cell h.p3 4).trans rfl⟩
theorem keep4 {b1 b2 g R : Nat} {v0 v1 v2 v3 v4 : Value} {w : World} (h : OrW b1 b2 g R v0 v1 v2 v3 v4 w) : w.cell? ⟨b1, 0, none⟩ = some (.pointer (some ⟨R, 0, none⟩)) ∧ w.cell? ⟨g, 0, none⟩ = some v0 ∧ w.cell? ⟨g, 1, none⟩ = some v1 :=
  ⟨(blk_cell h.p1 0).trans rfl, (blk_cell h.p3 0).trans rfl, (blk_cell h.p3 1).trans rfl⟩
theorem keep4S {b1 g R : Nat} {v0 v1 : Value} {w w' : World} {S : Nat → Prop} (h : w.cell? ⟨b1, 0, none⟩ = some (.pointer (some ⟨R, 0, none⟩)) ∧ w.cell? ⟨g, 0, none⟩ = some v0 ∧ w.cell? ⟨g, 1, none⟩ = some v1) (hf : Fr S w w') (h1 : ¬ S b1) (h2 : ¬ S g) : w'.cell? ⟨b1, 0, none⟩ = some (.pointer (some ⟨R, 0, none⟩)) ∧ w'.cell? ⟨g, 0, none⟩ = some v0 ∧ w'.cell? ⟨g, 1, none⟩ = some v1 :=
  ⟨cell_frS hf h1 h.1, cell_frS hf h2 h.2.1, cell_frS hf h2 h.2.2⟩
theorem cellsT_ne {W : World} {a b : Nat} {c1 c2 : Array Value} {t1 t2 : TypeId} {f1 f2 : Nat × Nat} (h1 : W.heap[a]? = some (.cells c1 t1 f1)) (h2 : W.heap[b]? = some (.cells c2 t2 f2)) (h : c1.size ≠ c2.size) : a ≠ b := by
  rintro rfl
  rw [h1] at h2
  injection h2 with h2
  injection h2 with h2
  exact h (by rw [h2])
theorem OrW.store {b1 b2 g R : Nat} {v0 v1 v2 v3 v4 : Value} {w : World} (h : OrW b1 b2 g R v0 v1 v2 v3 v4 w) {b : Nat} {u v : Value} (hb : w.heap[b]? = some (.cells #[u] 94 (0, 0))) : OrW b1 b2 g R v0 v1 v2 v3 v4 (w.setCell ⟨b, 0, none⟩ v) := by
  have hf := Fr.setCell (S := fun k => k = b) (Fr.refl _ w) (p := ⟨b, 0, none⟩) rfl v
  have sg : ∀ {ops : List Sg} {x : Value}, SgA w ops x → SgA (w.setCell ⟨b, 0, none⟩ v) ops x := by
    intro ops x hx
    obtain ⟨g', c', rfl, hc⟩ := hx
    refine ⟨g', c', rfl, fun i hi => ?_⟩
    obtain ⟨p, q, r⟩ := hc i hi
    have hg : ¬ g' = b := by
      rintro rfl
      rw [blk_cell hb] at q
      simp at q
    exact ⟨cell_frS hf hg p, cell_frS hf hg q, cell_frS hf hg r⟩
  have n1 : ¬ b1 = b := by
    rintro rfl
    have := h.p1
    rw [hb] at this
    simp at this
  have n2 : ¬ b2 = b := cellsT_ne h.z hb (by simp)
  have n3 : ¬ g = b := cellsT_ne h.p3 hb (by simp)
  exact ⟨blk_fr h.p1 hf n1, blk_fr h.z hf n2, blk_fr h.p3 hf n3, sg h.s0, sg h.s1, sg h.s2, sg h.s3, sg h.s4⟩
theorem keep4F {b1 b2 g R : Nat} {v0 v1 v2 v3 v4 : Value} {w w' : World} (h : OrW b1 b2 g R v0 v1 v2 v3 v4 w) (hf : Fr (fun k => k = R) w w') (h1 : ¬ b1 = R) (h2 : ¬ g = R) : w'.cell? ⟨b1, 0, none⟩ = some (.pointer (some ⟨R, 0, none⟩)) ∧ w'.cell? ⟨g, 0, none⟩ = some v0 ∧ w'.cell? ⟨g, 1, none⟩ = some v1 :=
  keep4S (keep4 h) hf h1 h2
set_option maxRecDepth 100000 in
set_option maxHeartbeats 12800000 in
theorem or_calls (nm : List UInt8 → Bool) (sub : Option PF) (R : Nat) (A : Option Addr) (m c : Nat) (l : Toks) (i d : Nat) (w : World) (hnear : Near l)
    (hah : ∀ p, sub = some p → Ahds p) (hnot : ∀ cap, PartK 85 cap (CatK R cap) R A m c l (notP nm l sub) d) (h : RdW w R A m c l i d) :
    Calls Tryz.prog 59 #[.pointer (some ⟨R, 0, none⟩)] w (Got R A m c l d w (orP nm l sub i)) := by
  have HH := Asd.mk h
  have HNT := Asd.mk hnot
  have HNE := Asd.mk hnear
  have HAH := Asd.mk hah
  have hmf := mk_func
  have hst := st_func
  have HBA := Asd.mk (below_alloc (below_alloc (Below.refl _ w) (.cells #[.pointer (some ⟨R, 0, none⟩)] 91 (0, 0))) (.cells #[.int .i64 0, .int .i64 0, .int .i64 0, .int .i64 0, .string ⟨#[]⟩, .string ⟨#[]⟩, .string ⟨#[]⟩, .int .i64 0, .int .i64 0, .slice none 0 0] 26 (0, 0)))
  have HP1 := Asd.mk (blk_alloc (blk_new w (.cells #[.pointer (some ⟨R, 0, none⟩)] 91 (0, 0))) (.cells #[.int .i64 0, .int .i64 0, .int .i64 0, .int .i64 0, .string ⟨#[]⟩, .string ⟨#[]⟩, .string ⟨#[]⟩, .int .i64 0, .int .i64 0, .slice none 0 0] 26 (0, 0)))
  have HZ0 := Asd.mk (nb1 w (.cells #[.pointer (some ⟨R, 0, none⟩)] 91 (0, 0)) (.cells #[.int .i64 0, .int .i64 0, .int .i64 0, .int .i64 0, .string ⟨#[]⟩, .string ⟨#[]⟩, .string ⟨#[]⟩, .int .i64 0, .int .i64 0, .slice none 0 0] 26 (0, 0)))
  have HRW : Asd (R < w.heap.size) := Asd.mk (blk_lt h.blk)
  clear h hnot hnear hah
  go_enter Tryz.func59, Tryz.ntmps59
  go_wp2_with fail
  generalize (w.alloc (.cells #[.pointer (some ⟨R, 0, none⟩)] 91 (0, 0))).alloc (.cells #[.int .i64 0, .int .i64 0, .int .i64 0, .int .i64 0, .string ⟨#[]⟩, .string ⟨#[]⟩, .string ⟨#[]⟩, .int .i64 0, .int .i64 0, .slice none 0 0] 26 (0, 0)) = w0 at HBA HP1 HZ0 ⊢
  refine (lines_calls w0).mono ?_
  rintro e w1 ⟨⟨g, cg, rfl, hg, v0, v1, v2, v3, v4, hg5, hs0, hs1, hs2, hs3, hs4⟩, hb1⟩
  have HB1 : Asd (Below w.heap.size w w1) := Asd.mk (HBA.out.trans (hb1.mono HBA.out.size))
  have HW1 : Asd (OrW w.heap.size (w.heap.size + 1) g R v0 v1 v2 v3 v4 w1) := Asd.mk ⟨blk_below hb1 HP1.out, blk_below hb1 HZ0.out, hg5, hs0, hs1, hs2, hs3, hs4⟩
  clear hb1 hg hg5 hs0 hs1 hs2 hs3 hs4 HBA HP1 HZ0
  go_upto_region 2 with fail
  go_cut [4] (fun s4 wx => ∃ (b4 : Nat) (cap' : Array Value), s4 = .pointer (some ⟨b4, 0, none⟩) ∧ Asd (wx.heap[b4]? = some (.cells #[.func (.func 99) #[] cap'] 94 (0, 0))) ∧ Asd (Below w.heap.size w wx) ∧ Asd (OrW w.heap.size (w.heap.size + 1) g R v0 v1 v2 v3 v4 wx) ∧ Asd (CatK R cap' wx) ∧ Asd (w.heap.size ≤ b4))
  case first =>
    have HWD : Asd (OrW w.heap.size (w.heap.size + 1) g R v0 v1 v2 v3 v4 w1.drew) := Asd.mk (HW1.out.below (below_drewN' w1 1))
    have HBD : Asd (Below w.heap.size w w1.drew) := Asd.mk HB1.out.drew
    refine wp_region_held_drew (S := fun w' => w'.cell? ⟨w.heap.size, 0, none⟩ = some (.pointer (some ⟨R, 0, none⟩)) ∧ w'.cell? ⟨g, 2, none⟩ = some v2 ∧ w'.cell? ⟨g, 3, none⟩ = some v3 ∧ w'.cell? ⟨g, 4, none⟩ = some v4) (by kernel_rfl) (keep2 HWD.out) (fun hHeld => ?_)
    generalize w1.drew = wd at HWD HBD hHeld ⊢
    refine wpAnyH_take (i := 0) (oi := ({ dst := some 7, op := Op.load 91 (Operand.tmp 1), type := 91, pos := "expr.go:135", after := #[], guard := none } : Oper)) (v := ?va0) rfl (by kernel_rfl) (by kernel_rfl) (by kernel_rfl) (fun _ _ _ h => h) (Or.inl ⟨by rfl, ?ha0⟩) (by assumption) ?ra0
    case ha0 => (intro w hSw; (try dsimp only at hSw); obtain ⟨g0, g1, g2, g3⟩ := hSw; go_simp; try (with_reducible rfl))
    try simp only [Act.put, List.setIfInBounds_toArray, List.set_cons_zero, List.set_cons_succ]
    refine wpAnyH_take (i := 1) (oi := ({ dst := some 8, op := Op.move (Operand.tmp 3), type := 112, pos := "expr.go:135", after := #[], guard := none } : Oper)) (v := ?va1) rfl (by kernel_rfl) (by kernel_rfl) (by kernel_rfl) (fun _ _ _ h => h) (Or.inl ⟨by rfl, ?ha1⟩) (by assumption) ?ra1
    case ha1 => (intro w hSw; (try dsimp only at hSw); obtain ⟨g0, g1, g2, g3⟩ := hSw; go_simp; try (with_reducible rfl))
    try simp only [Act.put, List.setIfInBounds_toArray, List.set_cons_zero, List.set_cons_succ]
    refine wpAnyH_take (i := 2) (oi := ({ dst := some 9, op := Op.indexAddr 112 (Operand.tmp 8) (Operand.const (Value.int IntKind.i64 2)), type := 0, pos := "expr.go:135", after := #[{ on := 1, ground := Ground.data }], guard := none } : Oper)) (v := ?va2) rfl (by kernel_rfl) (by kernel_rfl) (by kernel_rfl) (fun _ _ _ h => h) (Or.inl ⟨by rfl, ?ha2⟩) (by assumption) ?ra2
    case ha2 => (intro w hSw; (try dsimp only at hSw); obtain ⟨g0, g1, g2, g3⟩ := hSw; go_simp; try (with_reducible rfl))
    try simp only [Act.put, List.setIfInBounds_toArray, List.set_cons_zero, List.set_cons_succ]
    refine wpAnyH_take (i := 3) (oi := ({ dst := some 10, op := Op.load 115 (Operand.tmp 9), type := 115, pos := "expr.go:135", after := #[{ on := 2, ground := Ground.data }], guard := none } : Oper)) (v := ?va3) rfl (by kernel_rfl) (by kernel_rfl) (by kernel_rfl) (fun _ _ _ h => h) (Or.inl ⟨by rfl, ?ha3⟩) (by assumption) ?ra3
    case ha3 => (intro w hSw; (try dsimp only at hSw); obtain ⟨g0, g1, g2, g3⟩ := hSw; go_simp; try (with_reducible rfl))
    try simp only [Act.put, List.setIfInBounds_toArray, List.set_cons_zero, List.set_cons_succ]
    refine wpAnyH_take (i := 4) (oi := ({ dst := some 11, op := Op.load 91 (Operand.tmp 1), type := 91, pos := "expr.go:135", after := #[], guard := none } : Oper)) (v := ?va4) rfl (by kernel_rfl) (by kernel_rfl) (by kernel_rfl) (fun _ _ _ h => h) (Or.inl ⟨by rfl, ?ha4⟩) (by assumption) ?ra4
    case ha4 => (intro w hSw; (try dsimp only at hSw); obtain ⟨g0, g1, g2, g3⟩ := hSw; go_simp; try (with_reducible rfl))
    try simp only [Act.put, List.setIfInBounds_toArray, List.set_cons_zero, List.set_cons_succ]
    refine wpAnyH_take (i := 5) (oi := ({ dst := some 12, op := Op.move (Operand.tmp 3), type := 112, pos := "expr.go:135", after := #[], guard := none } : Oper)) (v := ?va5) rfl (by kernel_rfl) (by kernel_rfl) (by kernel_rfl) (fun _ _ _ h => h) (Or.inl ⟨by rfl, ?ha5⟩) (by assumption) ?ra5
    case ha5 => (intro w hSw; (try dsimp only at hSw); obtain ⟨g0, g1, g2, g3⟩ := hSw; go_simp; try (with_reducible rfl))
    try simp only [Act.put, List.setIfInBounds_toArray, List.set_cons_zero, List.set_cons_succ]
    refine wpAnyH_take (i := 6) (oi := ({ dst := some 13, op := Op.indexAddr 112 (Operand.tmp 12) (Operand.const (Value.int IntKind.i64 3)), type := 0, pos := "expr.go:135", after := #[{ on := 5, ground := Ground.data }], guard := none } : Oper)) (v := ?va6) rfl (by kernel_rfl) (by kernel_rfl) (by kernel_rfl) (fun _ _ _ h => h) (Or.inl ⟨by rfl, ?ha6⟩) (by assumption) ?ra6
    case ha6 => (intro w hSw; (try dsimp only at hSw); obtain ⟨g0, g1, g2, g3⟩ := hSw; go_simp; try (with_reducible rfl))
    try simp only [Act.put, List.setIfInBounds_toArray, List.set_cons_zero, List.set_cons_succ]
    refine wpAnyH_take (i := 7) (oi := ({ dst := some 14, op := Op.load 115 (Operand.tmp 13), type := 115, pos := "expr.go:135", after := #[{ on := 6, ground := Ground.data }], guard := none } : Oper)) (v := ?va7) rfl (by kernel_rfl) (by kernel_rfl) (by kernel_rfl) (fun _ _ _ h => h) (Or.inl ⟨by rfl, ?ha7⟩) (by assumption) ?ra7
    case ha7 => (intro w hSw; (try dsimp only at hSw); obtain ⟨g0, g1, g2, g3⟩ := hSw; go_simp; try (with_reducible rfl))
    try simp only [Act.put, List.setIfInBounds_toArray, List.set_cons_zero, List.set_cons_succ]
    refine wpAnyH_take (i := 8) (oi := ({ dst := some 15, op := Op.load 91 (Operand.tmp 1), type := 91, pos := "expr.go:135", after := #[], guard := none } : Oper)) (v := ?va8) rfl (by kernel_rfl) (by kernel_rfl) (by kernel_rfl) (fun _ _ _ h => h) (Or.inl ⟨by rfl, ?ha8⟩) (by assumption) ?ra8
    case ha8 => (intro w hSw; (try dsimp only at hSw); obtain ⟨g0, g1, g2, g3⟩ := hSw; go_simp; try (with_reducible rfl))
    try simp only [Act.put, List.setIfInBounds_toArray, List.set_cons_zero, List.set_cons_succ]
    refine wpAnyH_take (i := 9) (oi := ({ dst := some 16, op := Op.move (Operand.tmp 3), type := 112, pos := "expr.go:135", after := #[], guard := none } : Oper)) (v := ?va9) rfl (by kernel_rfl) (by kernel_rfl) (by kernel_rfl) (fun _ _ _ h => h) (Or.inl ⟨by rfl, ?ha9⟩) (by assumption) ?ra9
    case ha9 => (intro w hSw; (try dsimp only at hSw); obtain ⟨g0, g1, g2, g3⟩ := hSw; go_simp; try (with_reducible rfl))
    try simp only [Act.put, List.setIfInBounds_toArray, List.set_cons_zero, List.set_cons_succ]
    refine wpAnyH_take (i := 10) (oi := ({ dst := some 17, op := Op.indexAddr 112 (Operand.tmp 16) (Operand.const (Value.int IntKind.i64 4)), type := 0, pos := "expr.go:135", after := #[{ on := 9, ground := Ground.data }], guard := none } : Oper)) (v := ?va10) rfl (by kernel_rfl) (by kernel_rfl) (by kernel_rfl) (fun _ _ _ h => h) (Or.inl ⟨by rfl, ?ha10⟩) (by assumption) ?ra10
    case ha10 => (intro w hSw; (try dsimp only at hSw); obtain ⟨g0, g1, g2, g3⟩ := hSw; go_simp; try (with_reducible rfl))
    try simp only [Act.put, List.setIfInBounds_toArray, List.set_cons_zero, List.set_cons_succ]
    refine wpAnyH_take (i := 11) (oi := ({ dst := some 18, op := Op.load 115 (Operand.tmp 17), type := 115, pos := "expr.go:135", after := #[{ on := 10, ground := Ground.data }], guard := none } : Oper)) (v := ?va11) rfl (by kernel_rfl) (by kernel_rfl) (by kernel_rfl) (fun _ _ _ h => h) (Or.inl ⟨by rfl, ?ha11⟩) (by assumption) ?ra11
    case ha11 => (intro w hSw; (try dsimp only at hSw); obtain ⟨g0, g1, g2, g3⟩ := hSw; go_simp; try (with_reducible rfl))
    try simp only [Act.put, List.setIfInBounds_toArray, List.set_cons_zero, List.set_cons_succ]
    refine wpAnyH_take (i := 12) (oi := ({ dst := some 19, op := Op.load 91 (Operand.tmp 1), type := 91, pos := "expr.go:135", after := #[], guard := none } : Oper)) (v := ?va12) rfl (by kernel_rfl) (by kernel_rfl) (by kernel_rfl) (fun _ _ _ h => h) (Or.inl ⟨by rfl, ?ha12⟩) (by assumption) ?ra12
    case ha12 => (intro w hSw; (try dsimp only at hSw); obtain ⟨g0, g1, g2, g3⟩ := hSw; go_simp; try (with_reducible rfl))
    try simp only [Act.put, List.setIfInBounds_toArray, List.set_cons_zero, List.set_cons_succ]
    refine wpAnyH_take (i := 13) (oi := ({ dst := some 20, op := Op.makeFunc (Fn.func 83) #[Operand.tmp 19] #[], type := 94, pos := "expr.go:135", after := #[{ on := 12, ground := Ground.data }], guard := none } : Oper)) (v := ?va13) rfl (by kernel_rfl) (by kernel_rfl) (by kernel_rfl) (fun _ _ _ h => h) (Or.inl ⟨by rfl, ?ha13⟩) (by assumption) ?ra13
    case ha13 => (intro w hSw; (try dsimp only at hSw); obtain ⟨g0, g1, g2, g3⟩ := hSw; go_simp; try (with_reducible rfl))
    try simp only [Act.put, List.setIfInBounds_toArray, List.set_cons_zero, List.set_cons_succ]
    refine wpAnyH_ready (rs := [14, 17]) (by kernel_rfl) (by simp) ?_
    refine AllReadyH.cons (o := ({ dst := some 21, op := Op.call { callee := Callee.value (Operand.func 82), args := #[Operand.tmp 15, Operand.tmp 18, Operand.tmp 20], argTypes := #[91, 115, 94] }, type := 94, pos := "expr.go:135", after := #[{ on := 8, ground := Ground.data }, { on := 11, ground := Ground.data }, { on := 13, ground := Ground.data }], guard := none } : Oper)) rfl ?aq1 (AllReadyH.cons (o := ({ dst := some 4, op := Op.alloc 94, type := 0, pos := "expr.go:135", after := #[], guard := none } : Oper)) rfl ?bq1 AllReadyH.nil)
    case aq1 =>
      intro K hK
      go_simp
      refine (chain_calls 83 #[.pointer (some ⟨R, 0, none⟩)] #[] R sgProd v4 wd (HH.out.below HBD.out).blk (by decide) HWD.out.s4).mono ?_
      rintro e u0x ⟨⟨cap0, rfl, hcl0⟩, hbel⟩
      have HBD0 : Asd (Below w.heap.size w u0x) := Asd.mk (HBD.out.trans (hbel.mono HBD.out.size))
      have HWD0 := Asd.mk (HWD.out.below hbel)
      have HCL0 := Asd.mk hcl0
      clear hcl0 hbel
      go_wp2_with fail
      refine hK.out _ _ (keep2 HWD0.out) (fun hHeld => ?_)
      clear hK K
      try simp only [Act.put, List.setIfInBounds_toArray, List.set_cons_zero, List.set_cons_succ]
      refine wpAnyH_ready (rs := [15, 17]) (by kernel_rfl) (by simp) ?_
      refine AllReadyH.cons (o := ({ dst := some 22, op := Op.call { callee := Callee.value (Operand.func 82), args := #[Operand.tmp 11, Operand.tmp 14, Operand.tmp 21], argTypes := #[91, 115, 94] }, type := 94, pos := "expr.go:135", after := #[{ on := 4, ground := Ground.data }, { on := 7, ground := Ground.data }, { on := 14, ground := Ground.data }, { on := 14, ground := Ground.chain }], guard := none } : Oper)) rfl ?aq2 (AllReadyH.cons (o := ({ dst := some 4, op := Op.alloc 94, type := 0, pos := "expr.go:135", after := #[], guard := none } : Oper)) rfl ?bq2 AllReadyH.nil)
      case aq2 =>
        intro K hK
        go_simp
        refine (chain_calls 99 #[] cap0 R sgSum v3 u0x (HH.out.below HBD0.out).blk (by decide) HWD0.out.s3).mono ?_
        rintro e u1xc ⟨⟨cap1, rfl, hcl1⟩, hbel⟩
        have HBD01 : Asd (Below w.heap.size w u1xc) := Asd.mk (HBD0.out.trans (hbel.mono HBD0.out.size))
        have HWD01 := Asd.mk (HWD0.out.below hbel)
        have HCL1 := Asd.mk hcl1
        have HCL0 := Asd.mk (HCL0.out.below hbel)
        clear hcl1 hbel
        go_wp2_with fail
        refine hK.out _ _ (keep2 HWD01.out) (fun hHeld => ?_)
        clear hK K
        try simp only [Act.put, List.setIfInBounds_toArray, List.set_cons_zero, List.set_cons_succ]
        refine wpAnyH_ready (rs := [16, 17]) (by kernel_rfl) (by simp) ?_
        refine AllReadyH.cons (o := ({ dst := some 23, op := Op.call { callee := Callee.value (Operand.func 82), args := #[Operand.tmp 7, Operand.tmp 10, Operand.tmp 22], argTypes := #[91, 115, 94] }, type := 94, pos := "expr.go:135", after := #[{ on := 0, ground := Ground.data }, { on := 3, ground := Ground.data }, { on := 15, ground := Ground.data }, { on := 15, ground := Ground.chain }], guard := none } : Oper)) rfl ?aq3 (AllReadyH.cons (o := ({ dst := some 4, op := Op.alloc 94, type := 0, pos := "expr.go:135", after := #[], guard := none } : Oper)) rfl ?bq3 AllReadyH.nil)
        case aq3 =>
          intro K hK
          go_simp
          refine (chain_calls 99 #[] cap1 R sgCat v2 u1xc (HH.out.below HBD01.out).blk (by decide) HWD01.out.s2).mono ?_
          rintro e u2xcc ⟨⟨cap2, rfl, hcl2⟩, hbel⟩
          have HBD012 : Asd (Below w.heap.size w u2xcc) := Asd.mk (HBD01.out.trans (hbel.mono HBD01.out.size))
          have HWD012 := Asd.mk (HWD01.out.below hbel)
          have HCL2 := Asd.mk hcl2
          have HCL0 := Asd.mk (HCL0.out.below hbel)
          have HCL1 := Asd.mk (HCL1.out.below hbel)
          clear hcl2 hbel
          go_wp2_with fail
          refine hK.out _ _ (keep2 HWD012.out) (fun hHeld => ?_)
          clear hK K
          try simp only [Act.put, List.setIfInBounds_toArray, List.set_cons_zero, List.set_cons_succ]
          refine wpAnyH_ready (rs := [17]) (by kernel_rfl) (by simp) ?_
          refine AllReadyH.cons (o := ({ dst := some 4, op := Op.alloc 94, type := 0, pos := "expr.go:135", after := #[], guard := none } : Oper)) rfl (fun K hK => ?_) AllReadyH.nil
          go_simp
          have HBD012a : Asd (Below w.heap.size w (u2xcc.alloc (.cells #[.nilFunc] 94 (0, 0)))) := Asd.mk (below_alloc HBD012.out _)
          have HWD012a := Asd.mk (HWD012.out.below (below_alloc (Below.refl _ u2xcc) (.cells #[.nilFunc] 94 (0, 0))))
          have HAL := Asd.mk (blk_new u2xcc (.cells #[.nilFunc] 94 (0, 0)))
          have HGE : Asd (w.heap.size ≤ u2xcc.heap.size) := Asd.mk HBD012.out.size
          have HCL0 := Asd.mk (HCL0.out.below (below_alloc (Below.refl _ u2xcc) (.cells #[.nilFunc] 94 (0, 0))))
          have HCL1 := Asd.mk (HCL1.out.below (below_alloc (Below.refl _ u2xcc) (.cells #[.nilFunc] 94 (0, 0))))
          have HCL2 := Asd.mk (HCL2.out.below (below_alloc (Below.refl _ u2xcc) (.cells #[.nilFunc] 94 (0, 0))))
          go_wp2_with fail
          refine hK.out _ _ (keep2 HWD012a.out) (fun hHeld => ?_)
          clear hK K
          try simp only [Act.put, List.setIfInBounds_toArray, List.set_cons_zero, List.set_cons_succ]
          generalize hgb : u2xcc.heap.size = b4 at HAL HGE ⊢
          generalize u2xcc.alloc (.cells #[.nilFunc] 94 (0, 0)) = uaxccc at HBD012a HWD012a HAL HCL0 HCL1 HCL2 ⊢
          clear hgb
          have y0 := (blk_cell HAL.out 0).trans rfl
          have z0 := blk_frozen HAL.out 0
          have hstf := Fr.setCell (S := fun k => k = b4) (Fr.refl _ uaxccc) (p := ⟨b4, 0, none⟩) rfl (.func (.func 99) #[] cap2)
          have HWS := Asd.mk (HWD012a.out.store HAL.out (v := .func (.func 99) #[] cap2))
          have HBS : Asd (Below w.heap.size w (uaxccc.setCell ⟨b4, 0, none⟩ (.func (.func 99) #[] cap2))) := Asd.mk (HBD012a.out.setCell HGE.out _)
          have HAS : Asd ((uaxccc.setCell ⟨b4, 0, none⟩ (.func (.func 99) #[] cap2)).heap[b4]? = some (.cells #[.func (.func 99) #[] cap2] 94 (0, 0))) := Asd.mk ((blk_set HAL.out 0 _).trans rfl)
          have HKS : Asd (CatK R cap2 (uaxccc.setCell ⟨b4, 0, none⟩ (.func (.func 99) #[] cap2))) := Asd.mk ⟨cap0, cap1, HCL0.out.store (by decide) HAL.out _, HCL1.out.store (by decide) HAL.out _, HCL2.out.store (by decide) HAL.out _⟩
          refine wpAnyH_ready (rs := [18]) (by kernel_rfl) (by simp) ?_
          refine AllReadyH.cons (o := ({ dst := none, op := Op.store 94 (Operand.tmp 4) (Operand.tmp 23), type := 0, pos := "expr.go:135", after := #[{ on := 17, ground := Ground.data }, { on := 16, ground := Ground.data }, { on := 16, ground := Ground.chain }, { on := 0, ground := Ground.phase }, { on := 1, ground := Ground.phase }, { on := 2, ground := Ground.phase }, { on := 3, ground := Ground.phase }, { on := 4, ground := Ground.phase }, { on := 5, ground := Ground.phase }, { on := 6, ground := Ground.phase }, { on := 7, ground := Ground.phase }, { on := 8, ground := Ground.phase }, { on := 9, ground := Ground.phase }, { on := 10, ground := Ground.phase }, { on := 11, ground := Ground.phase }, { on := 12, ground := Ground.phase }, { on := 13, ground := Ground.phase }, { on := 14, ground := Ground.phase }, { on := 15, ground := Ground.phase }, { on := 16, ground := Ground.phase }, { on := 17, ground := Ground.phase }], guard := none } : Oper)) rfl (fun K hK => ?_) AllReadyH.nil
          go_simp
          go_wp2_with fail
          refine hK.out _ _ (keep2 HWS.out) (fun hHeld => ?_)
          clear hK K
          try simp only [Act.put, List.setIfInBounds_toArray, List.set_cons_zero, List.set_cons_succ]
          refine wpAnyH_done (by kernel_rfl) ?_ _
          go_wp2
          go_meet
          exact ⟨b4, cap2, rfl, HAS, HBS, HWS, HKS, HGE⟩
        case bq3 =>
          intro K hK
          go_simp
          have HBD01a : Asd (Below w.heap.size w (u1xc.alloc (.cells #[.nilFunc] 94 (0, 0)))) := Asd.mk (below_alloc HBD01.out _)
          have HWD01a := Asd.mk (HWD01.out.below (below_alloc (Below.refl _ u1xc) (.cells #[.nilFunc] 94 (0, 0))))
          have HAL := Asd.mk (blk_new u1xc (.cells #[.nilFunc] 94 (0, 0)))
          have HGE : Asd (w.heap.size ≤ u1xc.heap.size) := Asd.mk HBD01.out.size
          have HCL0 := Asd.mk (HCL0.out.below (below_alloc (Below.refl _ u1xc) (.cells #[.nilFunc] 94 (0, 0))))
          have HCL1 := Asd.mk (HCL1.out.below (below_alloc (Below.refl _ u1xc) (.cells #[.nilFunc] 94 (0, 0))))
          go_wp2_with fail
          refine hK.out _ _ (keep2 HWD01a.out) (fun hHeld => ?_)
          clear hK K
          try simp only [Act.put, List.setIfInBounds_toArray, List.set_cons_zero, List.set_cons_succ]
          generalize hgb : u1xc.heap.size = b4 at HAL HGE ⊢
          generalize u1xc.alloc (.cells #[.nilFunc] 94 (0, 0)) = uaxcc at HBD01a HWD01a HAL HCL0 HCL1 ⊢
          clear hgb
          refine wpAnyH_ready (rs := [16]) (by kernel_rfl) (by simp) ?_
          refine AllReadyH.cons (o := ({ dst := some 23, op := Op.call { callee := Callee.value (Operand.func 82), args := #[Operand.tmp 7, Operand.tmp 10, Operand.tmp 22], argTypes := #[91, 115, 94] }, type := 94, pos := "expr.go:135", after := #[{ on := 0, ground := Ground.data }, { on := 3, ground := Ground.data }, { on := 15, ground := Ground.data }, { on := 15, ground := Ground.chain }], guard := none } : Oper)) rfl (fun K hK => ?_) AllReadyH.nil
          go_simp
          refine (chain_calls 99 #[] cap1 R sgCat v2 uaxcc (HH.out.below HBD01a.out).blk (by decide) HWD01a.out.s2).mono ?_
          rintro e u2xcca ⟨⟨cap2, rfl, hcl2⟩, hbel⟩
          have HBD01a2 : Asd (Below w.heap.size w u2xcca) := Asd.mk (HBD01a.out.trans (hbel.mono HBD01a.out.size))
          have HWD01a2 := Asd.mk (HWD01a.out.below hbel)
          have HCL2 := Asd.mk hcl2
          have HCL0 := Asd.mk (HCL0.out.below hbel)
          have HCL1 := Asd.mk (HCL1.out.below hbel)
          have HAL := Asd.mk (blk_below hbel HAL.out)
          clear hcl2 hbel
          go_wp2_with fail
          refine hK.out _ _ (keep2 HWD01a2.out) (fun hHeld => ?_)
          clear hK K
          try simp only [Act.put, List.setIfInBounds_toArray, List.set_cons_zero, List.set_cons_succ]
          have y0 := (blk_cell HAL.out 0).trans rfl
          have z0 := blk_frozen HAL.out 0
          have hstf := Fr.setCell (S := fun k => k = b4) (Fr.refl _ u2xcca) (p := ⟨b4, 0, none⟩) rfl (.func (.func 99) #[] cap2)
          have HWS := Asd.mk (HWD01a2.out.store HAL.out (v := .func (.func 99) #[] cap2))
          have HBS : Asd (Below w.heap.size w (u2xcca.setCell ⟨b4, 0, none⟩ (.func (.func 99) #[] cap2))) := Asd.mk (HBD01a2.out.setCell HGE.out _)
          have HAS : Asd ((u2xcca.setCell ⟨b4, 0, none⟩ (.func (.func 99) #[] cap2)).heap[b4]? = some (.cells #[.func (.func 99) #[] cap2] 94 (0, 0))) := Asd.mk ((blk_set HAL.out 0 _).trans rfl)
          have HKS : Asd (CatK R cap2 (u2xcca.setCell ⟨b4, 0, none⟩ (.func (.func 99) #[] cap2))) := Asd.mk ⟨cap0, cap1, HCL0.out.store (by decide) HAL.out _, HCL1.out.store (by decide) HAL.out _, HCL2.out.store (by decide) HAL.out _⟩
          refine wpAnyH_ready (rs := [18]) (by kernel_rfl) (by simp) ?_
          refine AllReadyH.cons (o := ({ dst := none, op := Op.store 94 (Operand.tmp 4) (Operand.tmp 23), type := 0, pos := "expr.go:135", after := #[{ on := 17, ground := Ground.data }, { on := 16, ground := Ground.data }, { on := 16, ground := Ground.chain }, { on := 0, ground := Ground.phase }, { on := 1, ground := Ground.phase }, { on := 2, ground := Ground.phase }, { on := 3, ground := Ground.phase }, { on := 4, ground := Ground.phase }, { on := 5, ground := Ground.phase }, { on := 6, ground := Ground.phase }, { on := 7, ground := Ground.phase }, { on := 8, ground := Ground.phase }, { on := 9, ground := Ground.phase }, { on := 10, ground := Ground.phase }, { on := 11, ground := Ground.phase }, { on := 12, ground := Ground.phase }, { on := 13, ground := Ground.phase }, { on := 14, ground := Ground.phase }, { on := 15, ground := Ground.phase }, { on := 16, ground := Ground.phase }, { on := 17, ground := Ground.phase }], guard := none } : Oper)) rfl (fun K hK => ?_) AllReadyH.nil
          go_simp
          go_wp2_with fail
          refine hK.out _ _ (keep2 HWS.out) (fun hHeld => ?_)
          clear hK K
          try simp only [Act.put, List.setIfInBounds_toArray, List.set_cons_zero, List.set_cons_succ]
          refine wpAnyH_done (by kernel_rfl) ?_ _
          go_wp2
          go_meet
          exact ⟨b4, cap2, rfl, HAS, HBS, HWS, HKS, HGE⟩
      case bq2 =>
        intro K hK
        go_simp
        have HBD0a : Asd (Below w.heap.size w (u0x.alloc (.cells #[.nilFunc] 94 (0, 0)))) := Asd.mk (below_alloc HBD0.out _)
        have HWD0a := Asd.mk (HWD0.out.below (below_alloc (Below.refl _ u0x) (.cells #[.nilFunc] 94 (0, 0))))
        have HAL := Asd.mk (blk_new u0x (.cells #[.nilFunc] 94 (0, 0)))
        have HGE : Asd (w.heap.size ≤ u0x.heap.size) := Asd.mk HBD0.out.size
        have HCL0 := Asd.mk (HCL0.out.below (below_alloc (Below.refl _ u0x) (.cells #[.nilFunc] 94 (0, 0))))
        go_wp2_with fail
        refine hK.out _ _ (keep2 HWD0a.out) (fun hHeld => ?_)
        clear hK K
        try simp only [Act.put, List.setIfInBounds_toArray, List.set_cons_zero, List.set_cons_succ]
        generalize hgb : u0x.heap.size = b4 at HAL HGE ⊢
        generalize u0x.alloc (.cells #[.nilFunc] 94 (0, 0)) = uaxc at HBD0a HWD0a HAL HCL0 ⊢
        clear hgb
        refine wpAnyH_ready (rs := [15]) (by kernel_rfl) (by simp) ?_
        refine AllReadyH.cons (o := ({ dst := some 22, op := Op.call { callee := Callee.value (Operand.func 82), args := #[Operand.tmp 11, Operand.tmp 14, Operand.tmp 21], argTypes := #[91, 115, 94] }, type := 94, pos := "expr.go:135", after := #[{ on := 4, ground := Ground.data }, { on := 7, ground := Ground.data }, { on := 14, ground := Ground.data }, { on := 14, ground := Ground.chain }], guard := none } : Oper)) rfl (fun K hK => ?_) AllReadyH.nil
        go_simp
        refine (chain_calls 99 #[] cap0 R sgSum v3 uaxc (HH.out.below HBD0a.out).blk (by decide) HWD0a.out.s3).mono ?_
        rintro e u1xca ⟨⟨cap1, rfl, hcl1⟩, hbel⟩
        have HBD0a1 : Asd (Below w.heap.size w u1xca) := Asd.mk (HBD0a.out.trans (hbel.mono HBD0a.out.size))
        have HWD0a1 := Asd.mk (HWD0a.out.below hbel)
        have HCL1 := Asd.mk hcl1
        have HCL0 := Asd.mk (HCL0.out.below hbel)
        have HAL := Asd.mk (blk_below hbel HAL.out)
        clear hcl1 hbel
        go_wp2_with fail
        refine hK.out _ _ (keep2 HWD0a1.out) (fun hHeld => ?_)
        clear hK K
        try simp only [Act.put, List.setIfInBounds_toArray, List.set_cons_zero, List.set_cons_succ]
        refine wpAnyH_ready (rs := [16]) (by kernel_rfl) (by simp) ?_
        refine AllReadyH.cons (o := ({ dst := some 23, op := Op.call { callee := Callee.value (Operand.func 82), args := #[Operand.tmp 7, Operand.tmp 10, Operand.tmp 22], argTypes := #[91, 115, 94] }, type := 94, pos := "expr.go:135", after := #[{ on := 0, ground := Ground.data }, { on := 3, ground := Ground.data }, { on := 15, ground := Ground.data }, { on := 15, ground := Ground.chain }], guard := none } : Oper)) rfl (fun K hK => ?_) AllReadyH.nil
        go_simp
        refine (chain_calls 99 #[] cap1 R sgCat v2 u1xca (HH.out.below HBD0a1.out).blk (by decide) HWD0a1.out.s2).mono ?_
        rintro e u2xcac ⟨⟨cap2, rfl, hcl2⟩, hbel⟩
        have HBD0a12 : Asd (Below w.heap.size w u2xcac) := Asd.mk (HBD0a1.out.trans (hbel.mono HBD0a1.out.size))
        have HWD0a12 := Asd.mk (HWD0a1.out.below hbel)
        have HCL2 := Asd.mk hcl2
        have HCL0 := Asd.mk (HCL0.out.below hbel)
        have HCL1 := Asd.mk (HCL1.out.below hbel)
        have HAL := Asd.mk (blk_below hbel HAL.out)
        clear hcl2 hbel
        go_wp2_with fail
        refine hK.out _ _ (keep2 HWD0a12.out) (fun hHeld => ?_)
        clear hK K
        try simp only [Act.put, List.setIfInBounds_toArray, List.set_cons_zero, List.set_cons_succ]
        have y0 := (blk_cell HAL.out 0).trans rfl
        have z0 := blk_frozen HAL.out 0
        have hstf := Fr.setCell (S := fun k => k = b4) (Fr.refl _ u2xcac) (p := ⟨b4, 0, none⟩) rfl (.func (.func 99) #[] cap2)
        have HWS := Asd.mk (HWD0a12.out.store HAL.out (v := .func (.func 99) #[] cap2))
        have HBS : Asd (Below w.heap.size w (u2xcac.setCell ⟨b4, 0, none⟩ (.func (.func 99) #[] cap2))) := Asd.mk (HBD0a12.out.setCell HGE.out _)
        have HAS : Asd ((u2xcac.setCell ⟨b4, 0, none⟩ (.func (.func 99) #[] cap2)).heap[b4]? = some (.cells #[.func (.func 99) #[] cap2] 94 (0, 0))) := Asd.mk ((blk_set HAL.out 0 _).trans rfl)
        have HKS : Asd (CatK R cap2 (u2xcac.setCell ⟨b4, 0, none⟩ (.func (.func 99) #[] cap2))) := Asd.mk ⟨cap0, cap1, HCL0.out.store (by decide) HAL.out _, HCL1.out.store (by decide) HAL.out _, HCL2.out.store (by decide) HAL.out _⟩
        refine wpAnyH_ready (rs := [18]) (by kernel_rfl) (by simp) ?_
        refine AllReadyH.cons (o := ({ dst := none, op := Op.store 94 (Operand.tmp 4) (Operand.tmp 23), type := 0, pos := "expr.go:135", after := #[{ on := 17, ground := Ground.data }, { on := 16, ground := Ground.data }, { on := 16, ground := Ground.chain }, { on := 0, ground := Ground.phase }, { on := 1, ground := Ground.phase }, { on := 2, ground := Ground.phase }, { on := 3, ground := Ground.phase }, { on := 4, ground := Ground.phase }, { on := 5, ground := Ground.phase }, { on := 6, ground := Ground.phase }, { on := 7, ground := Ground.phase }, { on := 8, ground := Ground.phase }, { on := 9, ground := Ground.phase }, { on := 10, ground := Ground.phase }, { on := 11, ground := Ground.phase }, { on := 12, ground := Ground.phase }, { on := 13, ground := Ground.phase }, { on := 14, ground := Ground.phase }, { on := 15, ground := Ground.phase }, { on := 16, ground := Ground.phase }, { on := 17, ground := Ground.phase }], guard := none } : Oper)) rfl (fun K hK => ?_) AllReadyH.nil
        go_simp
        go_wp2_with fail
        refine hK.out _ _ (keep2 HWS.out) (fun hHeld => ?_)
        clear hK K
        try simp only [Act.put, List.setIfInBounds_toArray, List.set_cons_zero, List.set_cons_succ]
        refine wpAnyH_done (by kernel_rfl) ?_ _
        go_wp2
        go_meet
        exact ⟨b4, cap2, rfl, HAS, HBS, HWS, HKS, HGE⟩
    case bq1 =>
      intro K hK
      go_simp
      have HBDa : Asd (Below w.heap.size w (wd.alloc (.cells #[.nilFunc] 94 (0, 0)))) := Asd.mk (below_alloc HBD.out _)
      have HWDa := Asd.mk (HWD.out.below (below_alloc (Below.refl _ wd) (.cells #[.nilFunc] 94 (0, 0))))
      have HAL := Asd.mk (blk_new wd (.cells #[.nilFunc] 94 (0, 0)))
      have HGE : Asd (w.heap.size ≤ wd.heap.size) := Asd.mk HBD.out.size
      go_wp2_with fail
      refine hK.out _ _ (keep2 HWDa.out) (fun hHeld => ?_)
      clear hK K
      try simp only [Act.put, List.setIfInBounds_toArray, List.set_cons_zero, List.set_cons_succ]
      generalize hgb : wd.heap.size = b4 at HAL HGE ⊢
      generalize wd.alloc (.cells #[.nilFunc] 94 (0, 0)) = uax at HBDa HWDa HAL ⊢
      clear hgb
      refine wpAnyH_ready (rs := [14]) (by kernel_rfl) (by simp) ?_
      refine AllReadyH.cons (o := ({ dst := some 21, op := Op.call { callee := Callee.value (Operand.func 82), args := #[Operand.tmp 15, Operand.tmp 18, Operand.tmp 20], argTypes := #[91, 115, 94] }, type := 94, pos := "expr.go:135", after := #[{ on := 8, ground := Ground.data }, { on := 11, ground := Ground.data }, { on := 13, ground := Ground.data }], guard := none } : Oper)) rfl (fun K hK => ?_) AllReadyH.nil
      go_simp
      refine (chain_calls 83 #[.pointer (some ⟨R, 0, none⟩)] #[] R sgProd v4 uax (HH.out.below HBDa.out).blk (by decide) HWDa.out.s4).mono ?_
      rintro e u0xa ⟨⟨cap0, rfl, hcl0⟩, hbel⟩
      have HBDa0 : Asd (Below w.heap.size w u0xa) := Asd.mk (HBDa.out.trans (hbel.mono HBDa.out.size))
      have HWDa0 := Asd.mk (HWDa.out.below hbel)
      have HCL0 := Asd.mk hcl0
      have HAL := Asd.mk (blk_below hbel HAL.out)
      clear hcl0 hbel
      go_wp2_with fail
      refine hK.out _ _ (keep2 HWDa0.out) (fun hHeld => ?_)
      clear hK K
      try simp only [Act.put, List.setIfInBounds_toArray, List.set_cons_zero, List.set_cons_succ]
      refine wpAnyH_ready (rs := [15]) (by kernel_rfl) (by simp) ?_
      refine AllReadyH.cons (o := ({ dst := some 22, op := Op.call { callee := Callee.value (Operand.func 82), args := #[Operand.tmp 11, Operand.tmp 14, Operand.tmp 21], argTypes := #[91, 115, 94] }, type := 94, pos := "expr.go:135", after := #[{ on := 4, ground := Ground.data }, { on := 7, ground := Ground.data }, { on := 14, ground := Ground.data }, { on := 14, ground := Ground.chain }], guard := none } : Oper)) rfl (fun K hK => ?_) AllReadyH.nil
      go_simp
      refine (chain_calls 99 #[] cap0 R sgSum v3 u0xa (HH.out.below HBDa0.out).blk (by decide) HWDa0.out.s3).mono ?_
      rintro e u1xac ⟨⟨cap1, rfl, hcl1⟩, hbel⟩
      have HBDa01 : Asd (Below w.heap.size w u1xac) := Asd.mk (HBDa0.out.trans (hbel.mono HBDa0.out.size))
      have HWDa01 := Asd.mk (HWDa0.out.below hbel)
      have HCL1 := Asd.mk hcl1
      have HCL0 := Asd.mk (HCL0.out.below hbel)
      have HAL := Asd.mk (blk_below hbel HAL.out)
      clear hcl1 hbel
      go_wp2_with fail
      refine hK.out _ _ (keep2 HWDa01.out) (fun hHeld => ?_)
      clear hK K
      try simp only [Act.put, List.setIfInBounds_toArray, List.set_cons_zero, List.set_cons_succ]
      refine wpAnyH_ready (rs := [16]) (by kernel_rfl) (by simp) ?_
      refine AllReadyH.cons (o := ({ dst := some 23, op := Op.call { callee := Callee.value (Operand.func 82), args := #[Operand.tmp 7, Operand.tmp 10, Operand.tmp 22], argTypes := #[91, 115, 94] }, type := 94, pos := "expr.go:135", after := #[{ on := 0, ground := Ground.data }, { on := 3, ground := Ground.data }, { on := 15, ground := Ground.data }, { on := 15, ground := Ground.chain }], guard := none } : Oper)) rfl (fun K hK => ?_) AllReadyH.nil
      go_simp
      refine (chain_calls 99 #[] cap1 R sgCat v2 u1xac (HH.out.below HBDa01.out).blk (by decide) HWDa01.out.s2).mono ?_
      rintro e u2xacc ⟨⟨cap2, rfl, hcl2⟩, hbel⟩
      have HBDa012 : Asd (Below w.heap.size w u2xacc) := Asd.mk (HBDa01.out.trans (hbel.mono HBDa01.out.size))
      have HWDa012 := Asd.mk (HWDa01.out.below hbel)
      have HCL2 := Asd.mk hcl2
      have HCL0 := Asd.mk (HCL0.out.below hbel)
      have HCL1 := Asd.mk (HCL1.out.below hbel)
      have HAL := Asd.mk (blk_below hbel HAL.out)
      clear hcl2 hbel
      go_wp2_with fail
      refine hK.out _ _ (keep2 HWDa012.out) (fun hHeld => ?_)
      clear hK K
      try simp only [Act.put, List.setIfInBounds_toArray, List.set_cons_zero, List.set_cons_succ]
      have y0 := (blk_cell HAL.out 0).trans rfl
      have z0 := blk_frozen HAL.out 0
      have hstf := Fr.setCell (S := fun k => k = b4) (Fr.refl _ u2xacc) (p := ⟨b4, 0, none⟩) rfl (.func (.func 99) #[] cap2)
      have HWS := Asd.mk (HWDa012.out.store HAL.out (v := .func (.func 99) #[] cap2))
      have HBS : Asd (Below w.heap.size w (u2xacc.setCell ⟨b4, 0, none⟩ (.func (.func 99) #[] cap2))) := Asd.mk (HBDa012.out.setCell HGE.out _)
      have HAS : Asd ((u2xacc.setCell ⟨b4, 0, none⟩ (.func (.func 99) #[] cap2)).heap[b4]? = some (.cells #[.func (.func 99) #[] cap2] 94 (0, 0))) := Asd.mk ((blk_set HAL.out 0 _).trans rfl)
      have HKS : Asd (CatK R cap2 (u2xacc.setCell ⟨b4, 0, none⟩ (.func (.func 99) #[] cap2))) := Asd.mk ⟨cap0, cap1, HCL0.out.store (by decide) HAL.out _, HCL1.out.store (by decide) HAL.out _, HCL2.out.store (by decide) HAL.out _⟩
      refine wpAnyH_ready (rs := [18]) (by kernel_rfl) (by simp) ?_
      refine AllReadyH.cons (o := ({ dst := none, op := Op.store 94 (Operand.tmp 4) (Operand.tmp 23), type := 0, pos := "expr.go:135", after := #[{ on := 17, ground := Ground.data }, { on := 16, ground := Ground.data }, { on := 16, ground := Ground.chain }, { on := 0, ground := Ground.phase }, { on := 1, ground := Ground.phase }, { on := 2, ground := Ground.phase }, { on := 3, ground := Ground.phase }, { on := 4, ground := Ground.phase }, { on := 5, ground := Ground.phase }, { on := 6, ground := Ground.phase }, { on := 7, ground := Ground.phase }, { on := 8, ground := Ground.phase }, { on := 9, ground := Ground.phase }, { on := 10, ground := Ground.phase }, { on := 11, ground := Ground.phase }, { on := 12, ground := Ground.phase }, { on := 13, ground := Ground.phase }, { on := 14, ground := Ground.phase }, { on := 15, ground := Ground.phase }, { on := 16, ground := Ground.phase }, { on := 17, ground := Ground.phase }], guard := none } : Oper)) rfl (fun K hK => ?_) AllReadyH.nil
      go_simp
      go_wp2_with fail
      refine hK.out _ _ (keep2 HWS.out) (fun hHeld => ?_)
      clear hK K
      try simp only [Act.put, List.setIfInBounds_toArray, List.set_cons_zero, List.set_cons_succ]
      refine wpAnyH_done (by kernel_rfl) ?_ _
      go_wp2
      go_meet
      exact ⟨b4, cap2, rfl, HAS, HBS, HWS, HKS, HGE⟩
  case rest =>
    obtain ⟨b4, cap', rfl, HA4, HBX, HWX, HKX, HGE⟩ := hcut
    go_upto_region 4 with fail
    have HWD : Asd (OrW w.heap.size (w.heap.size + 1) g R v0 v1 v2 v3 v4 wc.drew) := Asd.mk (HWX.out.below (below_drewN' wc 1))
    have HBD : Asd (Below w.heap.size w wc.drew) := Asd.mk HBX.out.drew
    have HAD : Asd (wc.drew.heap[b4]? = some (.cells #[.func (.func 99) #[] cap'] 94 (0, 0))) := Asd.mk HA4.out
    have HKD : Asd (CatK R cap' wc.drew) := Asd.mk (catK_stays _ _ _ _ (Fr.of_below (below_drewN' wc 1)) HKX.out)
    have hcf : ∀ (args : Array Value) (w : World), (callFunc 99 args).run Tryz.prog w = .ok (.enter 99 args) w := isGo_chain
    refine wp_region_held_drew (S := fun w' => w'.cell? ⟨w.heap.size, 0, none⟩ = some (.pointer (some ⟨R, 0, none⟩)) ∧ w'.cell? ⟨g, 0, none⟩ = some v0 ∧ w'.cell? ⟨g, 1, none⟩ = some v1) (by kernel_rfl) (keep4 HWD.out) (fun hHeld => ?_)
    refine wpAnyH_take (i := 0) (oi := ({ dst := some 25, op := Op.load 91 (Operand.tmp 1), type := 91, pos := "expr.go:137", after := #[], guard := none } : Oper)) (v := ?vb0) rfl (by kernel_rfl) (by kernel_rfl) (by kernel_rfl) (fun _ _ _ h => h) (Or.inl ⟨by rfl, ?hb0⟩) (by assumption) ?rb0
    case hb0 => (intro w hSw; (try dsimp only at hSw); obtain ⟨g0, g1, g2⟩ := hSw; go_simp; try (with_reducible rfl))
    try simp only [Act.put, List.setIfInBounds_toArray, List.set_cons_zero, List.set_cons_succ]
    refine wpAnyH_take (i := 1) (oi := ({ dst := some 26, op := Op.move (Operand.tmp 3), type := 112, pos := "expr.go:137", after := #[], guard := none } : Oper)) (v := ?vb1) rfl (by kernel_rfl) (by kernel_rfl) (by kernel_rfl) (fun _ _ _ h => h) (Or.inl ⟨by rfl, ?hb1⟩) (by assumption) ?rb1
    case hb1 => (intro w hSw; (try dsimp only at hSw); obtain ⟨g0, g1, g2⟩ := hSw; go_simp; try (with_reducible rfl))
    try simp only [Act.put, List.setIfInBounds_toArray, List.set_cons_zero, List.set_cons_succ]
    refine wpAnyH_take (i := 2) (oi := ({ dst := some 27, op := Op.indexAddr 112 (Operand.tmp 26) (Operand.const (Value.int IntKind.i64 0)), type := 0, pos := "expr.go:137", after := #[{ on := 1, ground := Ground.data }], guard := none } : Oper)) (v := ?vb2) rfl (by kernel_rfl) (by kernel_rfl) (by kernel_rfl) (fun _ _ _ h => h) (Or.inl ⟨by rfl, ?hb2⟩) (by assumption) ?rb2
    case hb2 => (intro w hSw; (try dsimp only at hSw); obtain ⟨g0, g1, g2⟩ := hSw; go_simp; try (with_reducible rfl))
    try simp only [Act.put, List.setIfInBounds_toArray, List.set_cons_zero, List.set_cons_succ]
    refine wpAnyH_take (i := 3) (oi := ({ dst := some 28, op := Op.load 115 (Operand.tmp 27), type := 115, pos := "expr.go:137", after := #[{ on := 2, ground := Ground.data }], guard := none } : Oper)) (v := ?vb3) rfl (by kernel_rfl) (by kernel_rfl) (by kernel_rfl) (fun _ _ _ h => h) (Or.inl ⟨by rfl, ?hb3⟩) (by assumption) ?rb3
    case hb3 => (intro w hSw; (try dsimp only at hSw); obtain ⟨g0, g1, g2⟩ := hSw; go_simp; try (with_reducible rfl))
    try simp only [Act.put, List.setIfInBounds_toArray, List.set_cons_zero, List.set_cons_succ]
    refine wpAnyH_take (i := 4) (oi := ({ dst := some 29, op := Op.load 91 (Operand.tmp 1), type := 91, pos := "expr.go:137", after := #[], guard := none } : Oper)) (v := ?vb4) rfl (by kernel_rfl) (by kernel_rfl) (by kernel_rfl) (fun _ _ _ h => h) (Or.inl ⟨by rfl, ?hb4⟩) (by assumption) ?rb4
    case hb4 => (intro w hSw; (try dsimp only at hSw); obtain ⟨g0, g1, g2⟩ := hSw; go_simp; try (with_reducible rfl))
    try simp only [Act.put, List.setIfInBounds_toArray, List.set_cons_zero, List.set_cons_succ]
    refine wpAnyH_take (i := 5) (oi := ({ dst := some 30, op := Op.move (Operand.tmp 3), type := 112, pos := "expr.go:137", after := #[], guard := none } : Oper)) (v := ?vb5) rfl (by kernel_rfl) (by kernel_rfl) (by kernel_rfl) (fun _ _ _ h => h) (Or.inl ⟨by rfl, ?hb5⟩) (by assumption) ?rb5
    case hb5 => (intro w hSw; (try dsimp only at hSw); obtain ⟨g0, g1, g2⟩ := hSw; go_simp; try (with_reducible rfl))
    try simp only [Act.put, List.setIfInBounds_toArray, List.set_cons_zero, List.set_cons_succ]
    refine wpAnyH_take (i := 6) (oi := ({ dst := some 31, op := Op.indexAddr 112 (Operand.tmp 30) (Operand.const (Value.int IntKind.i64 1)), type := 0, pos := "expr.go:137", after := #[{ on := 5, ground := Ground.data }], guard := none } : Oper)) (v := ?vb6) rfl (by kernel_rfl) (by kernel_rfl) (by kernel_rfl) (fun _ _ _ h => h) (Or.inl ⟨by rfl, ?hb6⟩) (by assumption) ?rb6
    case hb6 => (intro w hSw; (try dsimp only at hSw); obtain ⟨g0, g1, g2⟩ := hSw; go_simp; try (with_reducible rfl))
    try simp only [Act.put, List.setIfInBounds_toArray, List.set_cons_zero, List.set_cons_succ]
    refine wpAnyH_take (i := 7) (oi := ({ dst := some 32, op := Op.load 115 (Operand.tmp 31), type := 115, pos := "expr.go:137", after := #[{ on := 6, ground := Ground.data }], guard := none } : Oper)) (v := ?vb7) rfl (by kernel_rfl) (by kernel_rfl) (by kernel_rfl) (fun _ _ _ h => h) (Or.inl ⟨by rfl, ?hb7⟩) (by assumption) ?rb7
    case hb7 => (intro w hSw; (try dsimp only at hSw); obtain ⟨g0, g1, g2⟩ := hSw; go_simp; try (with_reducible rfl))
    try simp only [Act.put, List.setIfInBounds_toArray, List.set_cons_zero, List.set_cons_succ]
    refine wpAnyH_take (i := 8) (oi := ({ dst := some 33, op := Op.move (Operand.tmp 5), type := 94, pos := "expr.go:137", after := #[], guard := none } : Oper)) (v := ?vb8) rfl (by kernel_rfl) (by kernel_rfl) (by kernel_rfl) (fun _ _ _ h => h) (Or.inl ⟨by rfl, ?hb8⟩) (by assumption) ?rb8
    case hb8 => (intro w hSw; (try dsimp only at hSw); obtain ⟨g0, g1, g2⟩ := hSw; go_simp; try (with_reducible rfl))
    try simp only [Act.put, List.setIfInBounds_toArray, List.set_cons_zero, List.set_cons_succ]
    refine wpAnyH_ready (rs := [9]) (by kernel_rfl) (by simp) ?_
    refine AllReadyH.cons (o := ({ dst := some 34, op := Op.call { callee := Callee.value (Operand.func 82), args := #[Operand.tmp 29, Operand.tmp 32, Operand.tmp 33], argTypes := #[91, 115, 94] }, type := 94, pos := "expr.go:137", after := #[{ on := 4, ground := Ground.data }, { on := 7, ground := Ground.data }, { on := 8, ground := Ground.data }], guard := none } : Oper)) rfl (fun K hK => ?_) AllReadyH.nil
    go_simp
    refine (chain_calls 84 #[] #[.pointer (some ⟨w.heap.size, 0, none⟩), .pointer (some ⟨b4, 0, none⟩)] R sgAnd v1 wc.drew (HH.out.below HBD.out).blk (by decide) HWD.out.s1).mono ?_
    rintro e u1 ⟨⟨cap1, rfl, hcl1⟩, hbel⟩
    have HKD1 := Asd.mk (catK_stays _ _ _ _ (Fr.of_below hbel) HKD.out)
    have HAD1 := Asd.mk (blk_below hbel HAD.out)
    have HW2 := Asd.mk (HWD.out.below hbel)
    have HCL1 : Asd (OpOK 99 cap1 R A m c l (andP nm l sub) d u1) := Asd.mk (hcl1.op sgAnd_ok isGo_or1 HNE.out (notP_ahd HAH.out) (fun w' hf i' hr => by
      have := or1_calls cap' (CatK R cap') w.heap.size b4 R A m c l (notP nm l sub) i' d w' (catK_stays _ _ _ _ hf HKD1.out) (catK_stays _ _) (blk_fr HW2.out.p1 hf (by show ¬ w.heap.size = R; have := HRW.out; omega)) (blk_fr HAD1.out hf (by show ¬ b4 = R; have := HRW.out; have := HGE.out; omega)) (HNT.out cap') hr
      rw [Array.empty_append]; exact this))
    have HB1 : Asd (Below w.heap.size w u1) := Asd.mk (HBD.out.trans (hbel.mono HBD.out.size))
    clear hcl1 hbel
    go_wp2_with fail
    refine hK.out _ _ (keep4 HW2.out) (fun hHeld => ?_)
    clear hK K
    try simp only [Act.put, List.setIfInBounds_toArray, List.set_cons_zero, List.set_cons_succ]
    refine wpAnyH_ready (rs := [10]) (by kernel_rfl) (by simp) ?_
    refine AllReadyH.cons (o := ({ dst := some 35, op := Op.call { callee := Callee.value (Operand.func 82), args := #[Operand.tmp 25, Operand.tmp 28, Operand.tmp 34], argTypes := #[91, 115, 94] }, type := 94, pos := "expr.go:137", after := #[{ on := 0, ground := Ground.data }, { on := 3, ground := Ground.data }, { on := 9, ground := Ground.data }, { on := 9, ground := Ground.chain }], guard := none } : Oper)) rfl (fun K hK => ?_) AllReadyH.nil
    go_simp
    refine (chain_calls 99 #[] cap1 R sgOr v0 u1 (HH.out.below HB1.out).blk (by decide) HW2.out.s0).mono ?_
    rintro e u2 ⟨⟨cap2, rfl, hcl2⟩, hbel⟩
    have HCL2 : Asd (OpOK 99 cap2 R A m c l (orP nm l sub) d u2) := Asd.mk (hcl2.op sgOr_ok isGo_chain HNE.out (andP_ahd HAH.out) (by rw [Array.empty_append]; exact HCL1.out.fr (Fr.of_below hbel)))
    have HB2 : Asd (Below w.heap.size w u2) := Asd.mk (HB1.out.trans (hbel.mono HB1.out.size))
    have HW3 := Asd.mk (HW2.out.below hbel)
    clear hcl2 hbel
    go_wp2_with fail
    refine hK.out _ _ (keep4 HW3.out) (fun hHeld => ?_)
    clear hK K
    try simp only [Act.put, List.setIfInBounds_toArray, List.set_cons_zero, List.set_cons_succ]
    refine wpAnyH_ready (rs := [11]) (by kernel_rfl) (by simp) ?_
    refine AllReadyH.cons (o := ({ dst := some 36, op := Op.call { callee := Callee.value (Operand.tmp 35), args := #[], argTypes := #[] }, type := 26, pos := "expr.go:137", after := #[{ on := 10, ground := Ground.data }, { on := 10, ground := Ground.chain }], guard := none } : Oper)) rfl (fun K hK => ?_) AllReadyH.nil
    go_simp
    refine (HCL2.out u2 (Fr.refl _ _) i (HH.out.below HB2.out)).mono ?_
    rintro e u3 ⟨hf3, hm⟩
    have HF3 := Asd.mk (frR_below HB2.out hf3)
    have HZ3 := Asd.mk (blk_fr HW3.out.z hf3 (by show ¬ w.heap.size + 1 = R; have := HRW.out; omega))
    have hkeep := keep4F HW3.out hf3 (by have := HRW.out; omega) (cellsT_ne HW3.out.p3 (HH.out.below HB2.out).blk (by simp))
    have HSZ : Asd (w.heap.size + 1 < u2.heap.size) := Asd.mk (blk_lt HW3.out.z)
    clear hf3
    cases hfi : orP nm l sub i with
    | error er =>
      rw [hfi] at hm
      obtain ⟨N, rfl, hN⟩ := hm
      have HE := Asd.mk hfi
      clear hfi
      refine ⟨rfl, ?_⟩
      exact got_error HF3.out ⟨N, rfl, hN⟩
    | ok y =>
      obtain ⟨x, j⟩ := y
      rw [hfi] at hm
      have HE := Asd.mk hfi
      obtain ⟨s, rfl, hh, hr⟩ := hm
      obtain ⟨As, ms, cs, rfl⟩ := held_slice hh
      have HHX := Asd.mk hh
      have HRX := Asd.mk hr
      clear hfi hh hr
      unfold exV
      go_wp2_with fail
      refine hK.out _ _ hkeep (fun hHeld => ?_)
      clear hK K
      try simp only [Act.put, List.setIfInBounds_toArray, List.set_cons_zero, List.set_cons_succ]
      have y0 := (blk_cell HZ3.out 0).trans rfl
      have y1 := (blk_cell HZ3.out 1).trans rfl
      have y2 := (blk_cell HZ3.out 2).trans rfl
      have y3 := (blk_cell HZ3.out 3).trans rfl
      have y4 := (blk_cell HZ3.out 4).trans rfl
      have y5 := (blk_cell HZ3.out 5).trans rfl
      have y6 := (blk_cell HZ3.out 6).trans rfl
      have y7 := (blk_cell HZ3.out 7).trans rfl
      have y8 := (blk_cell HZ3.out 8).trans rfl
      have y9 := (blk_cell HZ3.out 9).trans rfl
      have z0 := blk_frozen HZ3.out 0
      have z1 := blk_frozen HZ3.out 1
      have z2 := blk_frozen HZ3.out 2
      have z3 := blk_frozen HZ3.out 3
      have z4 := blk_frozen HZ3.out 4
      have z5 := blk_frozen HZ3.out 5
      have z6 := blk_frozen HZ3.out 6
      have z7 := blk_frozen HZ3.out 7
      have z8 := blk_frozen HZ3.out 8
      have z9 := blk_frozen HZ3.out 9
      have hk5 := keep4S hkeep (put10_fr (W := u3) (b := w.heap.size + 1) (S := fun k => k = w.heap.size + 1) rfl (.int .i64 x.kind) (.int .i64 x.op) (.int .i64 x.v.kind) (.int .i64 x.v.int) (.string ⟨x.v.text.toArray⟩) (.string ⟨x.table.toArray⟩) (.string ⟨x.name.toArray⟩) (.int .i64 x.col) (.int .i64 x.ty) (.slice As ms cs)) (by omega) (cellsT_ne HW3.out.p3 HW3.out.z (by simp))
      refine wpAnyH_ready (rs := [12]) (by kernel_rfl) (by simp) ?_
      refine AllReadyH.cons (o := ({ dst := none, op := Op.store 26 (Operand.tmp 2) (Operand.tmp 36), type := 0, pos := "expr.go:137", after := #[{ on := 11, ground := Ground.data }, { on := 11, ground := Ground.chain }, { on := 0, ground := Ground.phase }, { on := 1, ground := Ground.phase }, { on := 2, ground := Ground.phase }, { on := 3, ground := Ground.phase }, { on := 4, ground := Ground.phase }, { on := 5, ground := Ground.phase }, { on := 6, ground := Ground.phase }, { on := 7, ground := Ground.phase }, { on := 8, ground := Ground.phase }, { on := 9, ground := Ground.phase }, { on := 10, ground := Ground.phase }, { on := 11, ground := Ground.phase }], guard := none } : Oper)) rfl (fun K hK => ?_) AllReadyH.nil
      go_simp
      go_wp2_with fail
      refine hK.out _ _ hk5 (fun hHeld => ?_)
      clear hK K
      try simp only [Act.put, List.setIfInBounds_toArray, List.set_cons_zero, List.set_cons_succ]
      refine wpAnyH_done (by kernel_rfl) ?_ _
      go_wp2
      refine bodyPost_ret (results_cell_row rfl _ _ (w.heap.size + 1) 26 _ (0, 0) _ rfl (put10_blk HZ3.out _ _ _ _ _ _ _ _ _ _) Tryz.underlying26 rfl (by kernel_rfl)) rfl ?_
      rw [HE.out]
      exact fin_got HH.out HF3.out (by omega) HRX.out (held_mono HHX.out fun g' _ hg => by have h1 : u2.heap.size ≤ g' := hg; have := HSZ.out; exact ⟨by omega, by omega⟩)
end Go.Proofs.YtbeeaikilcnpgaaGreatDoor.Exp

/- The reader of expressions: item. -/
set_option linter.unusedVariables false
set_option linter.unusedSimpArgs false
namespace Go.Proofs.YtbeeaikilcnpgaaGreatDoor.Exp
open Go.RowKit Go.Proofs.YtbeeaikilcnpgaaGreatDoor.Base Go.Proofs.YtbeeaikilcnpgaaGreatDoor.App Go.Proofs.YtbeeaikilcnpgaaGreatDoor.Byt Go.Proofs.YtbeeaikilcnpgaaGreatDoor.Lex

/-- The variable at b holds an expression. -/
def ExAt (b base : Nat) (x : Ex) (W : World) : Prop := ∃ A n c, W.heap[b]? = some (.cells (exC x (.slice A n c)).toArray 26 (0, 0)) ∧ Held (fun g => base ≤ g ∧ g ≠ b) W x.args (.slice A n c)
theorem ExAt.set {b base : Nat} {x : Ex} {W : World} (h : ExAt b base x W) {R : Nat} (hb : b ≠ R) (hR : R < base) (j : Nat) (v : Value) : ExAt b base x (W.setCell ⟨R, j, none⟩ v) := by
  obtain ⟨A, n, c, h1, h2⟩ := h
  exact ⟨A, n, c, blk_far h1 hb _, held_frS h2 (Fr.setCell (S := fun k => k = R) (Fr.refl _ W) (p := ⟨R, j, none⟩) rfl v) (fun g hg h => by have h1 := hg.1; have h2 : g = R := h; omega)⟩
theorem ExAt.mono {b base base' : Nat} {x : Ex} {W : World} (h : ExAt b base x W) (hb : base' ≤ base) : ExAt b base' x W := by
  obtain ⟨A, n, c, h1, h2⟩ := h
  exact ⟨A, n, c, h1, held_mono h2 (fun g _ hg => ⟨by have := hg.1; omega, hg.2⟩)⟩
/-- What stands in brackets, with the bracket behind. -/
def inB (l : Toks) (r : Res Ex) : Except (Nat × Int) Nat := match r with
  | .ok x => mustT l x.2 5 [41]
  | .error x => .error x
def exOf (r : Res Ex) : Ex := match r with
  | .ok x => x.1
  | .error _ => litE vNull
set_option maxRecDepth 100000 in
set_option maxHeartbeats 6400000 in
theorem item1_calls (b1 b R : Nat) (A : Option Addr) (m c : Nat) (l : Toks) (f : Nat → Res Ex) (i d : Nat) (w : World) (hnear : Near l)
    (p1 : w.heap[b1]? = some (.cells #[.pointer (some ⟨R, 0, none⟩)] 91 (0, 0))) (pb : w.heap[b]? = some (.cells #[.int .i64 0, .int .i64 0, .int .i64 0, .int .i64 0, .string ⟨#[]⟩, .string ⟨#[]⟩, .string ⟨#[]⟩, .int .i64 0, .int .i64 0, .slice none 0 0] 26 (0, 0))) (n1 : b1 ≠ R) (hrb : R < b) (n1b : b1 ≠ b)
    (hf : PartOK 59 R A m c l f d) (h : RdW w R A m c l i d) :
    Calls Tryz.prog 122 #[.pointer (some ⟨b1, 0, none⟩), .pointer (some ⟨b, 0, none⟩)] w fun e w' => Fr (fun k => k = R ∨ k = b) w w' ∧ Ins R A m c l d (inB l (f i)) (ExAt b w.heap.size (exOf (f i))) e w' := by
  have HH := Asd.mk h
  have HF := Asd.mk hf
  have HNE := Asd.mk hnear
  have HRB := Asd.mk hrb
  have HLB : Asd (b < w.heap.size) := Asd.mk (blk_lt pb)
  have HP1 := Asd.mk p1
  have HPB := Asd.mk pb
  have HN1 := Asd.mk n1
  have HN1B := Asd.mk n1b
  have c1 := (blk_cell p1 0).trans rfl
  clear h hf hnear hrb p1 pb n1 n1b
  go_enter Tryz.func122, Tryz.ntmps122
  go_wp2_with fail
  refine (HF.out w i HH.out).mono ?_
  rintro e w1 ⟨hf1, hm⟩
  have HF1 := Asd.mk hf1
  have HP2 := Asd.mk (blk_fr HP1.out hf1 HN1.out)
  have HB2 := Asd.mk (blk_fr HPB.out hf1 (by show ¬ b = R; have := HRB.out; omega))
  clear hf1
  cases hfi : f i with
  | error er =>
    rw [hfi] at hm
    obtain ⟨N, rfl, hN⟩ := hm
    have HE := Asd.mk hfi
    clear hfi
    go_wp2
    refine ⟨rfl, HF1.out.mono (fun k h _ => .inl h), ?_⟩
    try rw [HE.out]
    exact ⟨N, rfl, hN⟩
  | ok y =>
    obtain ⟨x, j⟩ := y
    rw [hfi] at hm
    have HE := Asd.mk hfi
    obtain ⟨s, rfl, hh, hr⟩ := hm
    obtain ⟨As, ms, cs, rfl⟩ := held_slice hh
    have HHX := Asd.mk hh
    have HRX := Asd.mk hr
    clear hfi hh hr
    unfold exV
    have y0 := (blk_cell HB2.out 0).trans rfl
    have y1 := (blk_cell HB2.out 1).trans rfl
    have y2 := (blk_cell HB2.out 2).trans rfl
    have y3 := (blk_cell HB2.out 3).trans rfl
    have y4 := (blk_cell HB2.out 4).trans rfl
    have y5 := (blk_cell HB2.out 5).trans rfl
    have y6 := (blk_cell HB2.out 6).trans rfl
    have y7 := (blk_cell HB2.out 7).trans rfl
    have y8 := (blk_cell HB2.out 8).trans rfl
    have y9 := (blk_cell HB2.out 9).trans rfl
    have z0 := blk_frozen HB2.out 0
    have z1 := blk_frozen HB2.out 1
    have z2 := blk_frozen HB2.out 2
    have z3 := blk_frozen HB2.out 3
    have z4 := blk_frozen HB2.out 4
    have z5 := blk_frozen HB2.out 5
    have z6 := blk_frozen HB2.out 6
    have z7 := blk_frozen HB2.out 7
    have z8 := blk_frozen HB2.out 8
    have z9 := blk_frozen HB2.out 9
    have hst := put10_fr (W := w1) (b := b) (S := fun k => k = b) rfl (.int .i64 x.kind) (.int .i64 x.op) (.int .i64 x.v.kind) (.int .i64 x.v.int) (.string ⟨x.v.text.toArray⟩) (.string ⟨x.table.toArray⟩) (.string ⟨x.name.toArray⟩) (.int .i64 x.col) (.int .i64 x.ty) (.slice As ms cs)
    have HB3 : Asd (((((((((((w1.setCell ⟨b, 0, none⟩ (.int .i64 x.kind)).setCell ⟨b, 1, none⟩ (.int .i64 x.op)).setCell ⟨b, 2, none⟩ (.int .i64 x.v.kind)).setCell ⟨b, 3, none⟩ (.int .i64 x.v.int)).setCell ⟨b, 4, none⟩ (.string ⟨x.v.text.toArray⟩)).setCell ⟨b, 5, none⟩ (.string ⟨x.table.toArray⟩)).setCell ⟨b, 6, none⟩ (.string ⟨x.name.toArray⟩)).setCell ⟨b, 7, none⟩ (.int .i64 x.col)).setCell ⟨b, 8, none⟩ (.int .i64 x.ty)).setCell ⟨b, 9, none⟩ (.slice As ms cs)).heap[b]? = some (.cells (exC x (.slice As ms cs)).toArray 26 (0, 0))) := Asd.mk (put10_blk HB2.out _ _ _ _ _ _ _ _ _ _)
    have HF3 : Asd (Fr (fun k => k = R ∨ k = b) w ((((((((((w1.setCell ⟨b, 0, none⟩ (.int .i64 x.kind)).setCell ⟨b, 1, none⟩ (.int .i64 x.op)).setCell ⟨b, 2, none⟩ (.int .i64 x.v.kind)).setCell ⟨b, 3, none⟩ (.int .i64 x.v.int)).setCell ⟨b, 4, none⟩ (.string ⟨x.v.text.toArray⟩)).setCell ⟨b, 5, none⟩ (.string ⟨x.table.toArray⟩)).setCell ⟨b, 6, none⟩ (.string ⟨x.name.toArray⟩)).setCell ⟨b, 7, none⟩ (.int .i64 x.col)).setCell ⟨b, 8, none⟩ (.int .i64 x.ty)).setCell ⟨b, 9, none⟩ (.slice As ms cs))) := Asd.mk (HF1.out.trans hst (fun k h _ => .inl h) (fun k h _ => .inr h))
    have HR3 : Asd (RdW ((((((((((w1.setCell ⟨b, 0, none⟩ (.int .i64 x.kind)).setCell ⟨b, 1, none⟩ (.int .i64 x.op)).setCell ⟨b, 2, none⟩ (.int .i64 x.v.kind)).setCell ⟨b, 3, none⟩ (.int .i64 x.v.int)).setCell ⟨b, 4, none⟩ (.string ⟨x.v.text.toArray⟩)).setCell ⟨b, 5, none⟩ (.string ⟨x.table.toArray⟩)).setCell ⟨b, 6, none⟩ (.string ⟨x.name.toArray⟩)).setCell ⟨b, 7, none⟩ (.int .i64 x.col)).setCell ⟨b, 8, none⟩ (.int .i64 x.ty)).setCell ⟨b, 9, none⟩ (.slice As ms cs)) R A m c l j d) := Asd.mk (HRX.out.var (x := .mk 0 0 vNull [] [] 0 0 []) (y := x) hst (by have := HRB.out; omega) HRB.out HB2.out HB3.out)
    have HP3 := Asd.mk (blk_fr HP2.out hst HN1B.out)
    have HH3 := Asd.mk (held_frS (held_mono HHX.out (fun g _ hg => (⟨hg, by have h1 : w.heap.size ≤ g := hg; have := HLB.out; omega⟩ : w.heap.size ≤ g ∧ g ≠ b))) hst (fun g hg h => hg.2 h))
    clear hst
    have c2 := (blk_cell HP3.out 0).trans rfl
    go_wp2_with fail
    generalize ((((((((((w1.setCell ⟨b, 0, none⟩ (.int .i64 x.kind)).setCell ⟨b, 1, none⟩ (.int .i64 x.op)).setCell ⟨b, 2, none⟩ (.int .i64 x.v.kind)).setCell ⟨b, 3, none⟩ (.int .i64 x.v.int)).setCell ⟨b, 4, none⟩ (.string ⟨x.v.text.toArray⟩)).setCell ⟨b, 5, none⟩ (.string ⟨x.table.toArray⟩)).setCell ⟨b, 6, none⟩ (.string ⟨x.name.toArray⟩)).setCell ⟨b, 7, none⟩ (.int .i64 x.col)).setCell ⟨b, 8, none⟩ (.int .i64 x.ty)).setCell ⟨b, 9, none⟩ (.slice As ms cs)) = w3 at HB3 HF3 HR3 HP3 HH3 ⊢
    refine (must_calls R A m c l j d 5 [41] w3 HNE.out (by omega) HR3.out).mono ?_
    rintro e w4 ⟨hf4, hm⟩
    have HF4 : Asd (Fr (fun k => k = R ∨ k = b) w w4) := Asd.mk (HF3.out.trans hf4 (fun k h _ => h) (fun k h _ => .inl h))
    have HB4 := Asd.mk (blk_fr HB3.out hf4 (by show ¬ b = R; have := HRB.out; omega))
    have HH4 := Asd.mk (held_frS HH3.out hf4 (fun g hg h => by have h1 := hg.1; have h2 : g = R := h; have := blk_lt HH.out.blk; omega))
    clear hf4
    cases hM : mustT l j 5 [41] with
    | error er =>
      rw [hM] at hm
      obtain ⟨N, rfl, hN⟩ := hm
      have HM := Asd.mk hM
      clear hM
      go_wp2
      refine ⟨rfl, HF4.out, ?_⟩
      rw [HE.out]
      show Ins _ _ _ _ _ _ (mustT l j 5 [41]) _ _ _
      rw [HM.out]
      exact ⟨N, rfl, hN⟩
    | ok q =>
      rw [hM] at hm
      obtain ⟨rfl, hr4⟩ := hm
      have HR4 := Asd.mk hr4
      have HM := Asd.mk hM
      clear hM hr4
      go_wp2
      refine bodyPost_end (results_none rfl _ _ _) rfl ?_
      refine ⟨HF4.out, ?_⟩
      rw [HE.out]
      show Ins _ _ _ _ _ _ (mustT l j 5 [41]) _ _ _
      rw [HM.out]
      exact ⟨rfl, HR4.out, As, ms, cs, HB4.out, HH4.out⟩
set_option maxRecDepth 100000 in
set_option maxHeartbeats 12800000 in
theorem item_calls (nm : List UInt8 → Bool) (R : Nat) (A : Option Addr) (m c : Nat) (l : Toks) (sub : Option PF) (i d : Nat) (w : World) (hnear : Near l) (hd : d ≤ 32)
    (hword : ∀ (w : World) (i : Nat) (s : List UInt8), i < l.length → RdW w R A m c l i d → Calls Tryz.prog 120 #[.pointer (some ⟨R, 0, none⟩), .string ⟨s.toArray⟩] w (Got R A m c l d w (wordP nm l sub s i)))
    (hsome : ∀ p, sub = some p → d < 32 ∧ PartOK 59 R A m c l p.or (d + 1)) (hnone : sub = none → ¬ d < 32) (h : RdW w R A m c l i d) :
    Calls Tryz.prog 103 #[.pointer (some ⟨R, 0, none⟩)] w (Got R A m c l d w (itemP nm l sub i)) := by
  have HH := Asd.mk h
  have HWO := Asd.mk hword
  have HSO := Asd.mk hsome
  have HNO := Asd.mk hnone
  have HNE := Asd.mk hnear
  have HD := Asd.mk hd
  have hmf := mk_func
  have HBA := Asd.mk (below_alloc (below_alloc (Below.refl _ w) (.cells #[.pointer (some ⟨R, 0, none⟩)] 91 (0, 0))) (.cells #[.int .i64 0, .int .i64 0, .int .i64 0, .int .i64 0, .string ⟨#[]⟩, .string ⟨#[]⟩, .string ⟨#[]⟩, .int .i64 0, .int .i64 0, .slice none 0 0] 26 (0, 0)))
  have HP1 := Asd.mk (blk_alloc (blk_new w (.cells #[.pointer (some ⟨R, 0, none⟩)] 91 (0, 0))) (.cells #[.int .i64 0, .int .i64 0, .int .i64 0, .int .i64 0, .string ⟨#[]⟩, .string ⟨#[]⟩, .string ⟨#[]⟩, .int .i64 0, .int .i64 0, .slice none 0 0] 26 (0, 0)))
  have HZ0 := Asd.mk (nb1 w (.cells #[.pointer (some ⟨R, 0, none⟩)] 91 (0, 0)) (.cells #[.int .i64 0, .int .i64 0, .int .i64 0, .int .i64 0, .string ⟨#[]⟩, .string ⟨#[]⟩, .string ⟨#[]⟩, .int .i64 0, .int .i64 0, .slice none 0 0] 26 (0, 0)))
  have HRW : Asd (R < w.heap.size) := Asd.mk (blk_lt h.blk)
  have hib : i ≤ 16384 := by have h1 := h.tok.1; have h2 := h.tok.2.1; have h3 := h.le; omega
  clear h hword hsome hnone hnear hd
  go_enter Tryz.func103, Tryz.ntmps103
  go_wp2_with fail
  generalize (w.alloc (.cells #[.pointer (some ⟨R, 0, none⟩)] 91 (0, 0))).alloc (.cells #[.int .i64 0, .int .i64 0, .int .i64 0, .int .i64 0, .string ⟨#[]⟩, .string ⟨#[]⟩, .string ⟨#[]⟩, .int .i64 0, .int .i64 0, .slice none 0 0] 26 (0, 0)) = w0 at HBA HP1 HZ0 ⊢
  refine (token_calls R A m c l i d w0 (HH.out.below HBA.out)).mono ?_
  rintro e w1 ⟨rfl, hb1⟩
  have HB1 : Asd (Below w.heap.size w w1) := Asd.mk (HBA.out.trans (hb1.mono HBA.out.size))
  have HP2 := Asd.mk (blk_below hb1 HP1.out)
  have HZ1 := Asd.mk (blk_below hb1 HZ0.out)
  have HSZ : Asd (w.heap.size + 1 < w1.heap.size) := Asd.mk (blk_lt HZ1.out)
  clear hb1 HBA HP1 HZ0
  by_cases hlt : i < l.length
  · rw [tkV_some hlt]
    have HL := Asd.mk (List.getElem?_eq_getElem hlt)
    generalize l[i] = x at HL ⊢
    obtain ⟨⟨kd, tx, nu⟩, pl⟩ := x
    simp only
    by_cases h2 : kd = 2
    · subst h2
      have HI : Asd (itemP nm l sub i = .ok (litE ⟨2, nu, []⟩, i + 1)) := Asd.mk (by unfold itemP; rw [HL.out]; simp)
      have HB2 : Asd (Below w.heap.size w (w1.alloc (.cells #[.int .i64 2, .string ⟨tx.toArray⟩, .int .i64 ((pl : Nat) : Int), .int .i64 nu] 88 (0, 0)))) := Asd.mk (below_alloc HB1.out _)
      have HT2 := Asd.mk (blk_new w1 (.cells #[.int .i64 2, .string ⟨tx.toArray⟩, .int .i64 ((pl : Nat) : Int), .int .i64 nu] 88 (0, 0)))
      have HZ2 := Asd.mk (blk_alloc HZ1.out (.cells #[.int .i64 2, .string ⟨tx.toArray⟩, .int .i64 ((pl : Nat) : Int), .int .i64 nu] 88 (0, 0)))
      have HP3 := Asd.mk (blk_alloc HP2.out (.cells #[.int .i64 2, .string ⟨tx.toArray⟩, .int .i64 ((pl : Nat) : Int), .int .i64 nu] 88 (0, 0)))
      have HR2 := Asd.mk (HH.out.below HB2.out)
      have c1 := (blk_cell HP3.out 0).trans rfl
      have r1 := (blk_cell HR2.out.blk 1).trans rfl
      have z1 := blk_frozen HR2.out.blk 1
      have hs := HR2.out.set (j := i + 1) (by omega)
      have HRS := Asd.mk hs.2
      have HFS := Asd.mk (frR_below HB2.out hs.1)
      have HZS := Asd.mk (blk_fr HZ2.out hs.1 (by show ¬ w.heap.size + 1 = R; have := HRW.out; omega))
      have t2 : ((w1.alloc (.cells #[.int .i64 2, .string ⟨tx.toArray⟩, .int .i64 ((pl : Nat) : Int), .int .i64 nu] 88 (0, 0))).setCell ⟨R, 1, none⟩ (.int .i64 ((i : Int) + 1))).cell? ⟨w1.heap.size, 3, none⟩ = some (.int .i64 nu) := cell_frS hs.1 (by show ¬ w1.heap.size = R; have := HRW.out; have := HSZ.out; omega) ((blk_cell HT2.out 3).trans rfl)
      clear hs
      go_wp2_with fail
      change Calls _ _ _ ((w1.alloc (.cells #[.int .i64 2, .string ⟨tx.toArray⟩, .int .i64 ((pl : Nat) : Int), .int .i64 nu] 88 (0, 0))).setCell ⟨R, 1, none⟩ (.int .i64 ((i + 1 : Nat) : Int))) _
      generalize ((w1.alloc (.cells #[.int .i64 2, .string ⟨tx.toArray⟩, .int .i64 ((pl : Nat) : Int), .int .i64 nu] 88 (0, 0))).setCell ⟨R, 1, none⟩ (.int .i64 ((i + 1 : Nat) : Int))) = w3 at HRS HFS HZS ⊢
      refine (literal_calls ⟨2, nu, []⟩ w3).mono ?_
      rintro e w4 ⟨rfl, hb4⟩
      have HF4 := Asd.mk (below_frR HFS.out hb4)
      have HZ4 := Asd.mk (blk_below hb4 HZS.out)
      have HR4 := Asd.mk (HRS.out.below hb4)
      clear hb4 t2 c1 r1 z1
      unfold exV
      have y0 := (blk_cell HZ4.out 0).trans rfl
      have y1 := (blk_cell HZ4.out 1).trans rfl
      have y2 := (blk_cell HZ4.out 2).trans rfl
      have y3 := (blk_cell HZ4.out 3).trans rfl
      have y4 := (blk_cell HZ4.out 4).trans rfl
      have y5 := (blk_cell HZ4.out 5).trans rfl
      have y6 := (blk_cell HZ4.out 6).trans rfl
      have y7 := (blk_cell HZ4.out 7).trans rfl
      have y8 := (blk_cell HZ4.out 8).trans rfl
      have y9 := (blk_cell HZ4.out 9).trans rfl
      have z0 := blk_frozen HZ4.out 0
      have z1 := blk_frozen HZ4.out 1
      have z2 := blk_frozen HZ4.out 2
      have z3 := blk_frozen HZ4.out 3
      have z4 := blk_frozen HZ4.out 4
      have z5 := blk_frozen HZ4.out 5
      have z6 := blk_frozen HZ4.out 6
      have z7 := blk_frozen HZ4.out 7
      have z8 := blk_frozen HZ4.out 8
      have z9 := blk_frozen HZ4.out 9
      go_wp2
      refine bodyPost_ret (results_cell_row rfl _ _ (w.heap.size + 1) 26 _ (0, 0) _ rfl (put10_blk HZ4.out _ _ _ _ _ _ _ _ _ _) Tryz.underlying26 rfl (by kernel_rfl)) rfl ?_
      rw [HI.out]
      exact fin_got (x := litE ⟨2, nu, []⟩) HH.out HF4.out (by omega) HR4.out (.nil _ _)
    by_cases h3 : kd = 3
    · subst h3
      have HI : Asd (itemP nm l sub i = .ok (litE ⟨3, 0, tx⟩, i + 1)) := Asd.mk (by unfold itemP; rw [HL.out]; simp)
      have HB2 : Asd (Below w.heap.size w (w1.alloc (.cells #[.int .i64 3, .string ⟨tx.toArray⟩, .int .i64 ((pl : Nat) : Int), .int .i64 nu] 88 (0, 0)))) := Asd.mk (below_alloc HB1.out _)
      have HT2 := Asd.mk (blk_new w1 (.cells #[.int .i64 3, .string ⟨tx.toArray⟩, .int .i64 ((pl : Nat) : Int), .int .i64 nu] 88 (0, 0)))
      have HZ2 := Asd.mk (blk_alloc HZ1.out (.cells #[.int .i64 3, .string ⟨tx.toArray⟩, .int .i64 ((pl : Nat) : Int), .int .i64 nu] 88 (0, 0)))
      have HP3 := Asd.mk (blk_alloc HP2.out (.cells #[.int .i64 3, .string ⟨tx.toArray⟩, .int .i64 ((pl : Nat) : Int), .int .i64 nu] 88 (0, 0)))
      have HR2 := Asd.mk (HH.out.below HB2.out)
      have c1 := (blk_cell HP3.out 0).trans rfl
      have r1 := (blk_cell HR2.out.blk 1).trans rfl
      have z1 := blk_frozen HR2.out.blk 1
      have hs := HR2.out.set (j := i + 1) (by omega)
      have HRS := Asd.mk hs.2
      have HFS := Asd.mk (frR_below HB2.out hs.1)
      have HZS := Asd.mk (blk_fr HZ2.out hs.1 (by show ¬ w.heap.size + 1 = R; have := HRW.out; omega))
      have t2 : ((w1.alloc (.cells #[.int .i64 3, .string ⟨tx.toArray⟩, .int .i64 ((pl : Nat) : Int), .int .i64 nu] 88 (0, 0))).setCell ⟨R, 1, none⟩ (.int .i64 ((i : Int) + 1))).cell? ⟨w1.heap.size, 1, none⟩ = some (.string ⟨tx.toArray⟩) := cell_frS hs.1 (by show ¬ w1.heap.size = R; have := HRW.out; have := HSZ.out; omega) ((blk_cell HT2.out 1).trans rfl)
      clear hs
      go_wp2_with fail
      change Calls _ _ _ ((w1.alloc (.cells #[.int .i64 3, .string ⟨tx.toArray⟩, .int .i64 ((pl : Nat) : Int), .int .i64 nu] 88 (0, 0))).setCell ⟨R, 1, none⟩ (.int .i64 ((i + 1 : Nat) : Int))) _
      generalize ((w1.alloc (.cells #[.int .i64 3, .string ⟨tx.toArray⟩, .int .i64 ((pl : Nat) : Int), .int .i64 nu] 88 (0, 0))).setCell ⟨R, 1, none⟩ (.int .i64 ((i + 1 : Nat) : Int))) = w3 at HRS HFS HZS ⊢
      refine (literal_calls ⟨3, 0, tx⟩ w3).mono ?_
      rintro e w4 ⟨rfl, hb4⟩
      have HF4 := Asd.mk (below_frR HFS.out hb4)
      have HZ4 := Asd.mk (blk_below hb4 HZS.out)
      have HR4 := Asd.mk (HRS.out.below hb4)
      clear hb4 t2 c1 r1 z1
      unfold exV
      have y0 := (blk_cell HZ4.out 0).trans rfl
      have y1 := (blk_cell HZ4.out 1).trans rfl
      have y2 := (blk_cell HZ4.out 2).trans rfl
      have y3 := (blk_cell HZ4.out 3).trans rfl
      have y4 := (blk_cell HZ4.out 4).trans rfl
      have y5 := (blk_cell HZ4.out 5).trans rfl
      have y6 := (blk_cell HZ4.out 6).trans rfl
      have y7 := (blk_cell HZ4.out 7).trans rfl
      have y8 := (blk_cell HZ4.out 8).trans rfl
      have y9 := (blk_cell HZ4.out 9).trans rfl
      have z0 := blk_frozen HZ4.out 0
      have z1 := blk_frozen HZ4.out 1
      have z2 := blk_frozen HZ4.out 2
      have z3 := blk_frozen HZ4.out 3
      have z4 := blk_frozen HZ4.out 4
      have z5 := blk_frozen HZ4.out 5
      have z6 := blk_frozen HZ4.out 6
      have z7 := blk_frozen HZ4.out 7
      have z8 := blk_frozen HZ4.out 8
      have z9 := blk_frozen HZ4.out 9
      go_wp2
      refine bodyPost_ret (results_cell_row rfl _ _ (w.heap.size + 1) 26 _ (0, 0) _ rfl (put10_blk HZ4.out _ _ _ _ _ _ _ _ _ _) Tryz.underlying26 rfl (by kernel_rfl)) rfl ?_
      rw [HI.out]
      exact fin_got (x := litE ⟨3, 0, tx⟩) HH.out HF4.out (by omega) HR4.out (.nil _ _)
    by_cases h4 : kd = 4
    · subst h4
      have HI : Asd (itemP nm l sub i = .ok (litE ⟨4, 0, tx⟩, i + 1)) := Asd.mk (by unfold itemP; rw [HL.out]; simp)
      have HB2 : Asd (Below w.heap.size w (w1.alloc (.cells #[.int .i64 4, .string ⟨tx.toArray⟩, .int .i64 ((pl : Nat) : Int), .int .i64 nu] 88 (0, 0)))) := Asd.mk (below_alloc HB1.out _)
      have HT2 := Asd.mk (blk_new w1 (.cells #[.int .i64 4, .string ⟨tx.toArray⟩, .int .i64 ((pl : Nat) : Int), .int .i64 nu] 88 (0, 0)))
      have HZ2 := Asd.mk (blk_alloc HZ1.out (.cells #[.int .i64 4, .string ⟨tx.toArray⟩, .int .i64 ((pl : Nat) : Int), .int .i64 nu] 88 (0, 0)))
      have HP3 := Asd.mk (blk_alloc HP2.out (.cells #[.int .i64 4, .string ⟨tx.toArray⟩, .int .i64 ((pl : Nat) : Int), .int .i64 nu] 88 (0, 0)))
      have HR2 := Asd.mk (HH.out.below HB2.out)
      have c1 := (blk_cell HP3.out 0).trans rfl
      have r1 := (blk_cell HR2.out.blk 1).trans rfl
      have z1 := blk_frozen HR2.out.blk 1
      have hs := HR2.out.set (j := i + 1) (by omega)
      have HRS := Asd.mk hs.2
      have HFS := Asd.mk (frR_below HB2.out hs.1)
      have HZS := Asd.mk (blk_fr HZ2.out hs.1 (by show ¬ w.heap.size + 1 = R; have := HRW.out; omega))
      have t2 : ((w1.alloc (.cells #[.int .i64 4, .string ⟨tx.toArray⟩, .int .i64 ((pl : Nat) : Int), .int .i64 nu] 88 (0, 0))).setCell ⟨R, 1, none⟩ (.int .i64 ((i : Int) + 1))).cell? ⟨w1.heap.size, 1, none⟩ = some (.string ⟨tx.toArray⟩) := cell_frS hs.1 (by show ¬ w1.heap.size = R; have := HRW.out; have := HSZ.out; omega) ((blk_cell HT2.out 1).trans rfl)
      clear hs
      go_wp2_with fail
      change Calls _ _ _ ((w1.alloc (.cells #[.int .i64 4, .string ⟨tx.toArray⟩, .int .i64 ((pl : Nat) : Int), .int .i64 nu] 88 (0, 0))).setCell ⟨R, 1, none⟩ (.int .i64 ((i + 1 : Nat) : Int))) _
      generalize ((w1.alloc (.cells #[.int .i64 4, .string ⟨tx.toArray⟩, .int .i64 ((pl : Nat) : Int), .int .i64 nu] 88 (0, 0))).setCell ⟨R, 1, none⟩ (.int .i64 ((i + 1 : Nat) : Int))) = w3 at HRS HFS HZS ⊢
      refine (literal_calls ⟨4, 0, tx⟩ w3).mono ?_
      rintro e w4 ⟨rfl, hb4⟩
      have HF4 := Asd.mk (below_frR HFS.out hb4)
      have HZ4 := Asd.mk (blk_below hb4 HZS.out)
      have HR4 := Asd.mk (HRS.out.below hb4)
      clear hb4 t2 c1 r1 z1
      unfold exV
      have y0 := (blk_cell HZ4.out 0).trans rfl
      have y1 := (blk_cell HZ4.out 1).trans rfl
      have y2 := (blk_cell HZ4.out 2).trans rfl
      have y3 := (blk_cell HZ4.out 3).trans rfl
      have y4 := (blk_cell HZ4.out 4).trans rfl
      have y5 := (blk_cell HZ4.out 5).trans rfl
      have y6 := (blk_cell HZ4.out 6).trans rfl
      have y7 := (blk_cell HZ4.out 7).trans rfl
      have y8 := (blk_cell HZ4.out 8).trans rfl
      have y9 := (blk_cell HZ4.out 9).trans rfl
      have z0 := blk_frozen HZ4.out 0
      have z1 := blk_frozen HZ4.out 1
      have z2 := blk_frozen HZ4.out 2
      have z3 := blk_frozen HZ4.out 3
      have z4 := blk_frozen HZ4.out 4
      have z5 := blk_frozen HZ4.out 5
      have z6 := blk_frozen HZ4.out 6
      have z7 := blk_frozen HZ4.out 7
      have z8 := blk_frozen HZ4.out 8
      have z9 := blk_frozen HZ4.out 9
      go_wp2
      refine bodyPost_ret (results_cell_row rfl _ _ (w.heap.size + 1) 26 _ (0, 0) _ rfl (put10_blk HZ4.out _ _ _ _ _ _ _ _ _ _) Tryz.underlying26 rfl (by kernel_rfl)) rfl ?_
      rw [HI.out]
      exact fin_got (x := litE ⟨4, 0, tx⟩) HH.out HF4.out (by omega) HR4.out (.nil _ _)
    by_cases h1 : kd = 1
    · subst h1
      have HI : Asd (itemP nm l sub i = wordP nm l sub tx i) := Asd.mk (by unfold itemP; rw [HL.out]; simp)
      have HB2 : Asd (Below w.heap.size w (w1.alloc (.cells #[.int .i64 1, .string ⟨tx.toArray⟩, .int .i64 ((pl : Nat) : Int), .int .i64 nu] 88 (0, 0)))) := Asd.mk (below_alloc HB1.out _)
      have HZ2 := Asd.mk (blk_alloc HZ1.out (.cells #[.int .i64 1, .string ⟨tx.toArray⟩, .int .i64 ((pl : Nat) : Int), .int .i64 nu] 88 (0, 0)))
      have HP3 := Asd.mk (blk_alloc HP2.out (.cells #[.int .i64 1, .string ⟨tx.toArray⟩, .int .i64 ((pl : Nat) : Int), .int .i64 nu] 88 (0, 0)))
      have c1 := (blk_cell HP3.out 0).trans rfl
      clear h2 h3 h4
      have HLT := Asd.mk hlt
      go_wp2_with fail
      generalize w1.alloc (.cells #[.int .i64 1, .string ⟨tx.toArray⟩, .int .i64 ((pl : Nat) : Int), .int .i64 nu] 88 (0, 0)) = w2 at HB2 HZ2 HP3 ⊢
      refine (HWO.out w2 i tx HLT.out (HH.out.below HB2.out)).mono ?_
      rintro e w3 ⟨hf3, hm⟩
      have HF3 := Asd.mk (frR_below HB2.out hf3)
      have HZ3 := Asd.mk (blk_fr HZ2.out hf3 (by show ¬ w.heap.size + 1 = R; have := HRW.out; omega))
      have HSZ2 : Asd (w.heap.size + 1 < w2.heap.size) := Asd.mk (blk_lt HZ2.out)
      clear hf3
      cases hfi : wordP nm l sub tx i with
      | error er =>
        rw [hfi] at hm
        have HE : Asd (itemP nm l sub i = .error er) := Asd.mk (by rw [HI.out, hfi])
        obtain ⟨N, rfl, hN⟩ := hm
        clear hfi
        go_wp2
        refine ⟨rfl, ?_⟩
        rw [HE.out]
        exact got_error HF3.out ⟨N, rfl, hN⟩
      | ok y =>
        obtain ⟨x, j⟩ := y
        rw [hfi] at hm
        have HE : Asd (itemP nm l sub i = .ok (x, j)) := Asd.mk (by rw [HI.out, hfi])
        obtain ⟨s, rfl, hh, hr⟩ := hm
        obtain ⟨As, ms, cs, rfl⟩ := held_slice hh
        have HHX := Asd.mk hh
        have HRX := Asd.mk hr
        clear hfi hh hr
        unfold exV
        have y0 := (blk_cell HZ3.out 0).trans rfl
        have y1 := (blk_cell HZ3.out 1).trans rfl
        have y2 := (blk_cell HZ3.out 2).trans rfl
        have y3 := (blk_cell HZ3.out 3).trans rfl
        have y4 := (blk_cell HZ3.out 4).trans rfl
        have y5 := (blk_cell HZ3.out 5).trans rfl
        have y6 := (blk_cell HZ3.out 6).trans rfl
        have y7 := (blk_cell HZ3.out 7).trans rfl
        have y8 := (blk_cell HZ3.out 8).trans rfl
        have y9 := (blk_cell HZ3.out 9).trans rfl
        have z0 := blk_frozen HZ3.out 0
        have z1 := blk_frozen HZ3.out 1
        have z2 := blk_frozen HZ3.out 2
        have z3 := blk_frozen HZ3.out 3
        have z4 := blk_frozen HZ3.out 4
        have z5 := blk_frozen HZ3.out 5
        have z6 := blk_frozen HZ3.out 6
        have z7 := blk_frozen HZ3.out 7
        have z8 := blk_frozen HZ3.out 8
        have z9 := blk_frozen HZ3.out 9
        go_wp2
        refine bodyPost_ret (results_cell_row rfl _ _ (w.heap.size + 1) 26 _ (0, 0) _ rfl (put10_blk HZ3.out _ _ _ _ _ _ _ _ _ _) Tryz.underlying26 rfl (by kernel_rfl)) rfl ?_
        rw [HE.out]
        exact fin_got HH.out HF3.out (by omega) HRX.out (held_mono HHX.out fun g _ hg => by have h1 : w2.heap.size ≤ g := hg; have := HSZ2.out; exact ⟨by omega, by omega⟩)
    have g2 : ¬ ((kd : Nat) : Int) = 2 := by omega
    have g3 : ¬ ((kd : Nat) : Int) = 3 := by omega
    have g4 : ¬ ((kd : Nat) : Int) = 4 := by omega
    have g1 : ¬ ((kd : Nat) : Int) = 1 := by omega
    have HI : Asd (itemP nm l sub i = if isT l i 5 [40] then brackP l sub i else .error (stopAt l i, 20)) := Asd.mk (by unfold itemP; rw [HL.out]; simp only [if_neg h1, if_neg h2, if_neg h3, if_neg h4])
    clear h1 h2 h3 h4
    have HB2 : Asd (Below w.heap.size w (w1.alloc (.cells #[.int .i64 ((kd : Nat) : Int), .string ⟨tx.toArray⟩, .int .i64 ((pl : Nat) : Int), .int .i64 nu] 88 (0, 0)))) := Asd.mk (below_alloc HB1.out _)
    have HZ2 := Asd.mk (blk_alloc HZ1.out (.cells #[.int .i64 ((kd : Nat) : Int), .string ⟨tx.toArray⟩, .int .i64 ((pl : Nat) : Int), .int .i64 nu] 88 (0, 0)))
    have HP3 := Asd.mk (blk_alloc HP2.out (.cells #[.int .i64 ((kd : Nat) : Int), .string ⟨tx.toArray⟩, .int .i64 ((pl : Nat) : Int), .int .i64 nu] 88 (0, 0)))
    have c1 := (blk_cell HP3.out 0).trans rfl
    go_wp2_with fail
    generalize w1.alloc (.cells #[.int .i64 ((kd : Nat) : Int), .string ⟨tx.toArray⟩, .int .i64 ((pl : Nat) : Int), .int .i64 nu] 88 (0, 0)) = w2 at HB2 HZ2 HP3 ⊢
    refine (is_calls R A m c l i d 5 [40] w2 (by omega) (HH.out.below HB2.out)).mono ?_
    rintro e w3 ⟨rfl, hb3⟩
    have HB3 : Asd (Below w.heap.size w w3) := Asd.mk (HB2.out.trans (hb3.mono HB2.out.size))
    have HZ3 := Asd.mk (blk_below hb3 HZ2.out)
    have HP4 := Asd.mk (blk_below hb3 HP3.out)
    have c3 := (blk_cell HP4.out 0).trans rfl
    clear hb3 c1
    cases hT : isT l i 5 [40] with
    | false =>
      have HE : Asd (itemP nm l sub i = .error (stopAt l i, 20)) := Asd.mk (by rw [HI.out, hT]; rfl)
      clear hT
      go_wp2_with fail
      refine (stop_calls R A m c l i d 20 w3 HNE.out (HH.out.below HB3.out)).mono ?_
      rintro e w4 ⟨hb4, N, rfl, hN⟩
      refine ⟨rfl, ?_⟩
      rw [HE.out]
      exact got_error (Fr.of_below (HB3.out.trans (hb4.mono HB3.out.size))) ⟨N, rfl, hN⟩
    | true =>
      have HIB : Asd (itemP nm l sub i = brackP l sub i) := Asd.mk (by rw [HI.out, hT]; rfl)
      have HLT := Asd.mk (isT_lt hT)
      clear hT
      have HBB := Asd.mk (below_alloc HB3.out (.cells #[.int .i64 0, .int .i64 0, .int .i64 0, .int .i64 0, .string ⟨#[]⟩, .string ⟨#[]⟩, .string ⟨#[]⟩, .int .i64 0, .int .i64 0, .slice none 0 0] 26 (0, 0)))
      have HU0 := Asd.mk (blk_new w3 (.cells #[.int .i64 0, .int .i64 0, .int .i64 0, .int .i64 0, .string ⟨#[]⟩, .string ⟨#[]⟩, .string ⟨#[]⟩, .int .i64 0, .int .i64 0, .slice none 0 0] 26 (0, 0)))
      have HP5 := Asd.mk (blk_alloc HP4.out (.cells #[.int .i64 0, .int .i64 0, .int .i64 0, .int .i64 0, .string ⟨#[]⟩, .string ⟨#[]⟩, .string ⟨#[]⟩, .int .i64 0, .int .i64 0, .slice none 0 0] 26 (0, 0)))
      have HZ5 := Asd.mk (blk_alloc HZ3.out (.cells #[.int .i64 0, .int .i64 0, .int .i64 0, .int .i64 0, .string ⟨#[]⟩, .string ⟨#[]⟩, .string ⟨#[]⟩, .int .i64 0, .int .i64 0, .slice none 0 0] 26 (0, 0)))
      have HSW : Asd (w.heap.size + 1 < w3.heap.size) := Asd.mk (blk_lt HZ3.out)
      have c5 := (blk_cell HP5.out 0).trans rfl
      go_wp2_with fail
      generalize w3.alloc (.cells #[.int .i64 0, .int .i64 0, .int .i64 0, .int .i64 0, .string ⟨#[]⟩, .string ⟨#[]⟩, .string ⟨#[]⟩, .int .i64 0, .int .i64 0, .slice none 0 0] 26 (0, 0)) = w4 at HBB HU0 HP5 HZ5 ⊢
      have HRD := Asd.mk (HH.out.below HBB.out)
      have HB4 : Asd (w3.heap.size < w4.heap.size) := Asd.mk (blk_lt HU0.out)
      generalize w3.heap.size = b3 at HU0 HSW HB4 ⊢
      cases hs : sub with
      | none =>
        have HE : Asd (itemP nm l sub i = .error (stopAt l i, 21)) := Asd.mk (by rw [HIB.out, hs]; rfl)
        have hnd := HNO.out hs
        refine (within_calls 122 #[.pointer (some ⟨w.heap.size, 0, none⟩), .pointer (some ⟨b3, 0, none⟩)] (fun k => k = R) R A m c l i d (.error (stopAt l i, 21)) (fun _ => True) w4 HNE.out rfl (isGo_of Tryz.func122 (by kernel_rfl) rfl) HLT.out HD.out (fun _ _ _ => trivial) HRD.out (fun h => absurd h hnd)).mono ?_
        rintro e w5 ⟨hf5, hm⟩
        rw [if_neg hnd] at hm
        obtain ⟨N, rfl, hN⟩ := hm
        refine ⟨rfl, ?_⟩
        first | rw [← hs, HE.out] | rw [HE.out]
        exact got_error (frR_below HBB.out hf5) ⟨N, rfl, hN⟩
      | some p =>
        obtain ⟨hd32, hpart⟩ := HSO.out p hs
        have HPA := Asd.mk hpart
        have HS := Asd.mk hs
        have HE : Asd (itemP nm l sub i = match p.or (i + 1) with | .error x => .error x | .ok (e, j) => match mustT l j 5 [41] with | .error x => .error x | .ok k => .ok (e, k)) := Asd.mk (by rw [HIB.out, hs]; rfl)
        refine (within_calls 122 #[.pointer (some ⟨w.heap.size, 0, none⟩), .pointer (some ⟨b3, 0, none⟩)] (fun k => k = R ∨ k = b3) R A m c l i d (inB l (p.or (i + 1))) (ExAt b3 w4.heap.size (exOf (p.or (i + 1)))) w4 HNE.out (.inl rfl) (isGo_of Tryz.func122 (by kernel_rfl) rfl) HLT.out HD.out (fun W v hq => hq.set (by have := HSW.out; have := HRW.out; omega) (by have := HB4.out; have := HSW.out; have := HRW.out; omega) 2 v) HRD.out (fun _ w' hf' hr' => ?_)).mono ?_
        · refine (item1_calls w.heap.size b3 R A m c l p.or (i + 1) (d + 1) w' HNE.out (blk_fr HP5.out hf' (by show ¬ w.heap.size = R; have := HRW.out; omega)) (blk_fr HU0.out hf' (by show ¬ b3 = R; have := HSW.out; have := HRW.out; omega)) (by have := HRW.out; omega) (by have := HSW.out; have := HRW.out; omega) (by have := HSW.out; omega) HPA.out hr').mono ?_
          rintro e w'' ⟨h1, h2⟩
          exact ⟨h1, ins_mono h2 fun W hq => hq.mono hf'.size⟩
        · rintro e w5 ⟨hf5, hm⟩
          rw [if_pos hd32] at hm
          have HF5 : Asd (Fr (fun k => k = R) w w5) := Asd.mk (fr_new (Fr.of_below HBB.out) hf5 (fun k hk => by rcases hk with h | h; exact .inl h; exact .inr (by have := HSW.out; omega)))
          have HZ6 := Asd.mk (blk_fr HZ5.out hf5 (by show ¬ (w.heap.size + 1 = R ∨ w.heap.size + 1 = b3); have := HSW.out; have := HRW.out; omega))
          clear hf5
          cases hfi : p.or (i + 1) with
          | error er =>
            rw [hfi] at hm
            obtain ⟨N, rfl, hN⟩ := hm
            have HE2 : Asd (itemP nm l sub i = .error er) := Asd.mk (by rw [HE.out, hfi])
            clear hfi
            go_wp2
            refine ⟨rfl, ?_⟩
            first | rw [HE2.out] | rw [← HS.out, HE2.out]
            exact got_error HF5.out ⟨N, rfl, hN⟩
          | ok y =>
            obtain ⟨x, j⟩ := y
            rw [hfi] at hm
            change Ins _ _ _ _ _ _ (mustT l j 5 [41]) _ _ _ at hm
            cases hM : mustT l j 5 [41] with
            | error er =>
              rw [hM] at hm
              obtain ⟨N, rfl, hN⟩ := hm
              have HE2 : Asd (itemP nm l sub i = .error er) := Asd.mk (by rw [HE.out, hfi]; simp only; rw [hM])
              clear hfi hM
              go_wp2
              refine ⟨rfl, ?_⟩
              first | rw [HE2.out] | rw [← HS.out, HE2.out]
              exact got_error HF5.out ⟨N, rfl, hN⟩
            | ok q =>
              rw [hM] at hm
              obtain ⟨rfl, hr5, A5, n5, c5', hb5, hh5⟩ := hm
              have HE2 : Asd (itemP nm l sub i = .ok (x, q)) := Asd.mk (by rw [HE.out, hfi]; simp only; rw [hM])
              change w5.heap[b3]? = some (Obj.cells (exC x (.slice A5 n5 c5')).toArray 26 (0, 0)) at hb5
              change Held _ _ x.args _ at hh5
              have HR5 := Asd.mk hr5
              have HH5 := Asd.mk hh5
              obtain ⟨e0, e1, e2, e3, e4, e5, e6, e7, e8, e9⟩ := ex_cells hb5
              clear hfi hM hr5 hh5 hb5
              have y0 := (blk_cell HZ6.out 0).trans rfl
              have y1 := (blk_cell HZ6.out 1).trans rfl
              have y2 := (blk_cell HZ6.out 2).trans rfl
              have y3 := (blk_cell HZ6.out 3).trans rfl
              have y4 := (blk_cell HZ6.out 4).trans rfl
              have y5 := (blk_cell HZ6.out 5).trans rfl
              have y6 := (blk_cell HZ6.out 6).trans rfl
              have y7 := (blk_cell HZ6.out 7).trans rfl
              have y8 := (blk_cell HZ6.out 8).trans rfl
              have y9 := (blk_cell HZ6.out 9).trans rfl
              have z0 := blk_frozen HZ6.out 0
              have z1 := blk_frozen HZ6.out 1
              have z2 := blk_frozen HZ6.out 2
              have z3 := blk_frozen HZ6.out 3
              have z4 := blk_frozen HZ6.out 4
              have z5 := blk_frozen HZ6.out 5
              have z6 := blk_frozen HZ6.out 6
              have z7 := blk_frozen HZ6.out 7
              have z8 := blk_frozen HZ6.out 8
              have z9 := blk_frozen HZ6.out 9
              go_wp2
              refine bodyPost_ret (results_cell_row rfl _ _ (w.heap.size + 1) 26 _ (0, 0) _ rfl (put10_blk HZ6.out _ _ _ _ _ _ _ _ _ _) Tryz.underlying26 rfl (by kernel_rfl)) rfl ?_
              first | rw [HE2.out] | rw [← HS.out, HE2.out]
              exact fin_got HH.out HF5.out (by omega) HR5.out (held_mono HH5.out fun g _ hg => by have h1 := hg.1; have := HB4.out; have := HSW.out; exact ⟨by omega, by omega⟩)
  · rw [tkV_none (by omega)]
    have HE : Asd (itemP nm l sub i = .error (stopAt l i, 20)) := Asd.mk (by unfold itemP; rw [List.getElem?_eq_none (by omega)])
    have HT := Asd.mk (isT_none (l := l) (i := i) (k := 5) (s := [40]) (by omega))
    have HB2 : Asd (Below w.heap.size w (w1.alloc (.cells #[.int .i64 0, .string ⟨#[]⟩, .int .i64 0, .int .i64 0] 88 (0, 0)))) := Asd.mk (below_alloc HB1.out _)
    have HP3 := Asd.mk (blk_alloc HP2.out (.cells #[.int .i64 0, .string ⟨#[]⟩, .int .i64 0, .int .i64 0] 88 (0, 0)))
    have c1 := (blk_cell HP3.out 0).trans rfl
    go_wp2_with fail
    generalize w1.alloc (.cells #[.int .i64 0, .string ⟨#[]⟩, .int .i64 0, .int .i64 0] 88 (0, 0)) = w2 at HB2 HP3 ⊢
    refine (is_calls R A m c l i d 5 [40] w2 (by omega) (HH.out.below HB2.out)).mono ?_
    rintro e w3 ⟨rfl, hb3⟩
    have HB3 : Asd (Below w.heap.size w w3) := Asd.mk (HB2.out.trans (hb3.mono HB2.out.size))
    have HP4 := Asd.mk (blk_below hb3 HP3.out)
    have c3 := (blk_cell HP4.out 0).trans rfl
    clear hb3 c1
    rw [HT.out]
    go_wp2_with fail
    refine (stop_calls R A m c l i d 20 w3 HNE.out (HH.out.below HB3.out)).mono ?_
    rintro e w4 ⟨hb4, N, rfl, hN⟩
    refine ⟨rfl, ?_⟩
    rw [HE.out]
    exact got_error (Fr.of_below (HB3.out.trans (hb4.mono HB3.out.size))) ⟨N, rfl, hN⟩
end Go.Proofs.YtbeeaikilcnpgaaGreatDoor.Exp
