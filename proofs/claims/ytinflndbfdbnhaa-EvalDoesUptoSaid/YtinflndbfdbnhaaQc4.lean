/- Texts put together: Rem, Rsm, Rev, Rcp, Knx, Rsr, Lw2, Does, DoesO. -/
import Derived.Test.YtinflndbfdbnhaaQc3
/- quarryref13.Empty, quarryref16.decided. -/
set_option linter.unusedVariables false
set_option linter.unusedSimpArgs false
namespace Go.Proofs.Ytinflndbfdbnhaa.Exp
open Go.RowKit Go.Proofs.Ytinflndbfdbnhaa.Base Go.Proofs.Ytinflndbfdbnhaa.App Go.Proofs.Ytinflndbfdbnhaa.Byt Go.Proofs.Ytinflndbfdbnhaa.Lex

/-- Some text that is not empty. -/
def NeR (w : World) (e : Ending) (w' : World) : Prop := Below w.heap.size w w' ∧ ∃ (c : UInt8) (l : List UInt8), e = .returned (.string ⟨(c :: l).toArray⟩)
theorem cons_of {l : List UInt8} (h : l ≠ []) : ∃ c r, l = c :: r := by
  cases l with
  | nil => exact absurd rfl h
  | cons c r => exact ⟨c, r, rfl⟩
theorem itoa_ne (n : Int) : ∃ c l, Lib.itoa n = c :: l := by
  unfold Lib.itoa
  split
  · exact ⟨_, _, rfl⟩
  · refine cons_of ?_
    rw [decDigits_step]
    simp
theorem sz_list (l : List UInt8) : (⟨l.toArray⟩ : ByteArray).size = l.length := by simp [ByteArray.size]
set_option maxRecDepth 100000 in
set_option maxHeartbeats 3200000 in
theorem rlit_ne {v : Vl} (h : RV v) (hl : v.text.length ≤ 1048576) (w : World) : Calls Try.prog 71 #[vC v] w (NeR w) := by
  have HV := Asd.mk h
  cases h with
  | null =>
    have HB0 := Asd.mk (below_alloc (Below.refl _ w) (.cells #[.int .i64 0, .int .i64 0, .string ⟨#[]⟩] 23 (0, 0)))
    have HX := Asd.mk (blk_new w (.cells #[.int .i64 0, .int .i64 0, .string ⟨#[]⟩] 23 (0, 0)))
    have HC := Asd.mk (fun W => rchk_calls (vNull) W)
    rw [chk_of HV.out] at HC
    show Calls Try.prog 71 #[.agg #[.int .i64 0, .int .i64 0, .string ⟨#[]⟩]] w _
    go_enter Try.func71, Try.ntmps71
    go_wp2_with fail
    refine (HC.out _).mono ?_
    rintro e w1 ⟨rfl, hb1⟩
    have HB1 : Asd (Below w.heap.size w w1) := Asd.mk (below_step HB0.out hb1)
    have x0 := (blk_cell (blk_below hb1 HX.out) 0).trans rfl
    have x1 := (blk_cell (blk_below hb1 HX.out) 1).trans rfl
    have x2 := (blk_cell (blk_below hb1 HX.out) 2).trans rfl
    clear hb1 HC HV
    go_wp2
    go_ret
    exact ⟨HB1.out, _, _, ret_eq rfl⟩
  | bool b =>
    cases b with
    | true =>
      have HB0 := Asd.mk (below_alloc (Below.refl _ w) (.cells #[.int .i64 1, .int .i64 1, .string ⟨#[]⟩] 23 (0, 0)))
      have HX := Asd.mk (blk_new w (.cells #[.int .i64 1, .int .i64 1, .string ⟨#[]⟩] 23 (0, 0)))
      have HC := Asd.mk (fun W => rchk_calls (vTru true) W)
      rw [chk_of HV.out] at HC
      show Calls Try.prog 71 #[.agg #[.int .i64 1, .int .i64 1, .string ⟨#[]⟩]] w _
      go_enter Try.func71, Try.ntmps71
      go_wp2_with fail
      refine (HC.out _).mono ?_
      rintro e w1 ⟨rfl, hb1⟩
      have HB1 : Asd (Below w.heap.size w w1) := Asd.mk (below_step HB0.out hb1)
      have x0 := (blk_cell (blk_below hb1 HX.out) 0).trans rfl
      have x1 := (blk_cell (blk_below hb1 HX.out) 1).trans rfl
      have x2 := (blk_cell (blk_below hb1 HX.out) 2).trans rfl
      clear hb1 HC HV
      go_wp2
      go_ret
      exact ⟨HB1.out, _, _, ret_eq rfl⟩
    | false =>
      have HB0 := Asd.mk (below_alloc (Below.refl _ w) (.cells #[.int .i64 1, .int .i64 0, .string ⟨#[]⟩] 23 (0, 0)))
      have HX := Asd.mk (blk_new w (.cells #[.int .i64 1, .int .i64 0, .string ⟨#[]⟩] 23 (0, 0)))
      have HC := Asd.mk (fun W => rchk_calls (vTru false) W)
      rw [chk_of HV.out] at HC
      show Calls Try.prog 71 #[.agg #[.int .i64 1, .int .i64 0, .string ⟨#[]⟩]] w _
      go_enter Try.func71, Try.ntmps71
      go_wp2_with fail
      refine (HC.out _).mono ?_
      rintro e w1 ⟨rfl, hb1⟩
      have HB1 : Asd (Below w.heap.size w w1) := Asd.mk (below_step HB0.out hb1)
      have x0 := (blk_cell (blk_below hb1 HX.out) 0).trans rfl
      have x1 := (blk_cell (blk_below hb1 HX.out) 1).trans rfl
      have x2 := (blk_cell (blk_below hb1 HX.out) 2).trans rfl
      clear hb1 HC HV
      go_wp2
      go_ret
      exact ⟨HB1.out, _, _, ret_eq rfl⟩
  | num n h =>
    have HB0 := Asd.mk (below_alloc (Below.refl _ w) (.cells #[.int .i64 2, .int .i64 n, .string ⟨#[]⟩] 23 (0, 0)))
    have HX := Asd.mk (blk_new w (.cells #[.int .i64 2, .int .i64 n, .string ⟨#[]⟩] 23 (0, 0)))
    have HC := Asd.mk (fun W => rchk_calls (vNum n) W)
    rw [chk_of HV.out] at HC
    show Calls Try.prog 71 #[.agg #[.int .i64 2, .int .i64 n, .string ⟨#[]⟩]] w _
    go_enter Try.func71, Try.ntmps71
    go_wp2_with fail
    refine (HC.out _).mono ?_
    rintro e w1 ⟨rfl, hb1⟩
    have HB1 : Asd (Below w.heap.size w w1) := Asd.mk (below_step HB0.out hb1)
    have x0 := (blk_cell (blk_below hb1 HX.out) 0).trans rfl
    have x1 := (blk_cell (blk_below hb1 HX.out) 1).trans rfl
    have x2 := (blk_cell (blk_below hb1 HX.out) 2).trans rfl
    clear hb1 HC HV
    have HN := Asd.mk (fun W => Lex.number_calls n h.1 h.2 W)
    have HL := Asd.mk (itoa_ne n)
    generalize Lib.itoa n = t at HN HL
    obtain ⟨c, l, HL⟩ := HL.out
    subst HL
    go_wp2_with fail
    refine (HN.out _).mono ?_
    rintro e w2 ⟨rfl, hb2⟩
    have HB2 : Asd (Below w.heap.size w w2) := Asd.mk (below_step HB1.out hb2)
    clear hb2 x0 x1 x2 HN
    go_wp2
    go_ret
    exact ⟨HB2.out, _, _, ret_eq rfl⟩
  | text s hs =>
    refine (rlit_text ⟨s.toArray⟩ w (by rw [sz_list]; exact hl)).mono ?_
    rintro e w1 ⟨rfl, hb1⟩
    exact ⟨hb1, _, _, rfl⟩
  | blob s hs =>
    refine (rlit_blob ⟨s.toArray⟩ w (by rw [sz_list]; exact hl)).mono ?_
    rintro e w1 ⟨rfl, hb1⟩
    exact ⟨hb1, _, _, rfl⟩
set_option maxRecDepth 100000 in
set_option maxHeartbeats 6400000 in
theorem rempty_no (x : Ex) (A : Option Addr) (c : Nat) (w : World) (h : (lnG x.kind x.op x.args.length == 0) = true) :
    Calls Try.prog 27 #[exV x (.slice A x.args.length c)] w fun e w' => e = .returned (.bool true) ∧ Below w.heap.size w w' := by
  have HL := Asd.mk (fun W => lvl_any x.v.kind x.v.int x.col x.ty ⟨x.v.text.toArray⟩ ⟨x.table.toArray⟩ ⟨x.name.toArray⟩ A c W x.kind x.op x.args.length)
  have HX := Asd.mk (blk_new w (xK x (.slice A x.args.length c)))
  have HB : Asd (Below w.heap.size w (w.alloc (xK x (.slice A x.args.length c)))) := Asd.mk (below_alloc (Below.refl _ _) _)
  generalize lnG x.kind x.op x.args.length = L at h HL
  unfold exV
  go_enter Try.func27, Try.ntmps27
  go_upto_region 1 with fail
  generalize w.alloc _ = w1 at HX HB ⊢
  obtain ⟨e0, e1, e2, e3, e4, e5, e6, e7, e8, e9⟩ := ex_cells (x := x) HX.out
  go_wp2_with fail
  refine (HL.out _).mono ?_
  rintro e w2 ⟨rfl, hb2⟩
  have HB2 : Asd (Below w.heap.size w w2) := Asd.mk (HB.out.trans (hb2.mono HB.out.size))
  clear e0 e1 e2 e3 e4 e5 e6 e7 e8 e9 hb2
  go_wp2
  go_ret
  exact ⟨rfl, HB2.out⟩
set_option maxRecDepth 100000 in
set_option maxHeartbeats 6400000 in
theorem rempty_lit (x : Ex) (hv : RV x.v) (hl : x.v.text.length ≤ 1048576) (A : Option Addr) (c : Nat) (w : World) (h : (lnG x.kind x.op x.args.length == 0) = false) (hk : (x.kind == 1) = true) :
    Calls Try.prog 27 #[exV x (.slice A x.args.length c)] w fun e w' => e = .returned (.bool false) ∧ Below w.heap.size w w' := by
  have HL := Asd.mk (fun W => lvl_any x.v.kind x.v.int x.col x.ty ⟨x.v.text.toArray⟩ ⟨x.table.toArray⟩ ⟨x.name.toArray⟩ A c W x.kind x.op x.args.length)
  have HV := Asd.mk (rlit_ne hv hl)
  have HX := Asd.mk (blk_new w (xK x (.slice A x.args.length c)))
  have HB : Asd (Below w.heap.size w (w.alloc (xK x (.slice A x.args.length c)))) := Asd.mk (below_alloc (Below.refl _ _) _)
  clear hv hl
  generalize lnG x.kind x.op x.args.length = L at h HL
  unfold exV
  go_enter Try.func27, Try.ntmps27
  go_upto_region 1 with fail
  generalize w.alloc _ = w1 at HX HB ⊢
  obtain ⟨e0, e1, e2, e3, e4, e5, e6, e7, e8, e9⟩ := ex_cells (x := x) HX.out
  go_wp2_with fail
  refine (HL.out _).mono ?_
  rintro e w2 ⟨rfl, hb2⟩
  have HB2 : Asd (Below w.heap.size w w2) := Asd.mk (HB.out.trans (hb2.mono HB.out.size))
  have HX2 := Asd.mk (blk_below hb2 HX.out)
  clear e0 e1 e2 e3 e4 e5 e6 e7 e8 e9 hb2
  obtain ⟨e0, e1, e2, e3, e4, e5, e6, e7, e8, e9⟩ := ex_cells (x := x) HX2.out
  go_wp2_with fail
  refine (HV.out _).mono ?_
  rintro e w3 ⟨hb3, c0, l0, rfl⟩
  have hne : (⟨(c0 :: l0).toArray⟩ : ByteArray).toList.isEmpty = false := by rw [Lib.toList_data]; rfl
  have HB3 : Asd (Below w.heap.size w w3) := Asd.mk (HB2.out.trans (hb3.mono HB2.out.size))
  clear e0 e1 e2 e3 e4 e5 e6 e7 e8 e9 hb3
  generalize (⟨(c0 :: l0).toArray⟩ : ByteArray) = tt at hne ⊢
  go_wp2
  go_ret
  exact ⟨rfl, HB3.out⟩
set_option maxRecDepth 100000 in
set_option maxHeartbeats 6400000 in
theorem rempty_else (x : Ex) (b : Bool) (A : Option Addr) (c : Nat) (w : World) (h : (lnG x.kind x.op x.args.length == 0) = false) (hk : (x.kind == 1) = false) (hb : (x.kind == 2 && x.table == [] && x.name == []) = b) :
    Calls Try.prog 27 #[exV x (.slice A x.args.length c)] w fun e w' => e = .returned (.bool b) ∧ Below w.heap.size w w' := by
  have HL := Asd.mk (fun W => lvl_any x.v.kind x.v.int x.col x.ty ⟨x.v.text.toArray⟩ ⟨x.table.toArray⟩ ⟨x.name.toArray⟩ A c W x.kind x.op x.args.length)
  have HX := Asd.mk (blk_new w (xK x (.slice A x.args.length c)))
  have HB : Asd (Below w.heap.size w (w.alloc (xK x (.slice A x.args.length c)))) := Asd.mk (below_alloc (Below.refl _ _) _)
  have HH := Asd.mk hb
  clear hb
  generalize lnG x.kind x.op x.args.length = L at h HL
  unfold exV
  go_enter Try.func27, Try.ntmps27
  go_upto_region 1 with fail
  generalize w.alloc _ = w1 at HX HB ⊢
  obtain ⟨e0, e1, e2, e3, e4, e5, e6, e7, e8, e9⟩ := ex_cells (x := x) HX.out
  go_wp2_with fail
  refine (HL.out _).mono ?_
  rintro e w2 ⟨rfl, hb2⟩
  have HB2 : Asd (Below w.heap.size w w2) := Asd.mk (HB.out.trans (hb2.mono HB.out.size))
  have HX2 := Asd.mk (blk_below hb2 HX.out)
  clear e0 e1 e2 e3 e4 e5 e6 e7 e8 e9 hb2
  obtain ⟨e0, e1, e2, e3, e4, e5, e6, e7, e8, e9⟩ := ex_cells (x := x) HX2.out
  cases h2 : (x.kind == 2) with
  | false =>
    have HF : Asd (b = false) := Asd.mk (by rw [← HH.out, h2]; rfl)
    go_wp2
    go_ret
    exact ⟨ret_eq (by rw [HF.out]; rfl), HB2.out⟩
  | true =>
    cases h3 : (x.table == []) with
    | false =>
      have HF : Asd (b = false) := Asd.mk (by rw [← HH.out, h2, h3]; rfl)
      have h3' : ((⟨x.table.toArray⟩ : ByteArray).toList == (⟨#[]⟩ : ByteArray).toList) = false := by rw [show (⟨#[]⟩ : ByteArray) = ⟨([] : List UInt8).toArray⟩ from rfl, tl_eq, h3]
      go_wp2
      go_ret
      exact ⟨ret_eq (by rw [HF.out]; rfl), HB2.out⟩
    | true =>
      have h3' : ((⟨x.table.toArray⟩ : ByteArray).toList == (⟨#[]⟩ : ByteArray).toList) = true := by rw [show (⟨#[]⟩ : ByteArray) = ⟨([] : List UInt8).toArray⟩ from rfl, tl_eq, h3]
      have HF : Asd (b = (x.name == [])) := Asd.mk (by rw [← HH.out, h2, h3]; rfl)
      cases h4 : (x.name == []) with
      | false =>
        have h4' : ((⟨x.name.toArray⟩ : ByteArray).toList == (⟨#[]⟩ : ByteArray).toList) = false := by rw [show (⟨#[]⟩ : ByteArray) = ⟨([] : List UInt8).toArray⟩ from rfl, tl_eq, h4]
        rw [h4] at HF
        go_wp2
        go_ret
        exact ⟨ret_eq (by rw [HF.out]; rfl), HB2.out⟩
      | true =>
        have h4' : ((⟨x.name.toArray⟩ : ByteArray).toList == (⟨#[]⟩ : ByteArray).toList) = true := by rw [show (⟨#[]⟩ : ByteArray) = ⟨([] : List UInt8).toArray⟩ from rfl, tl_eq, h4]
        rw [h4] at HF
        go_wp2
        go_ret
        exact ⟨ret_eq (by rw [HF.out]; rfl), HB2.out⟩
theorem rempty_calls (x : Ex) (hv : RV x.v) (hl : x.v.text.length ≤ 1048576) (A : Option Addr) (c : Nat) (w : World) :
    Calls Try.prog 27 #[exV x (.slice A x.args.length c)] w fun e w' => e = .returned (.bool (emptyE x)) ∧ Below w.heap.size w w' := by
  unfold emptyE
  cases hL : (lnG x.kind x.op x.args.length == 0) with
  | true => exact rempty_no x A c w hL
  | false =>
    cases hk : (x.kind == 1) with
    | true =>
      rw [show (x.kind == 2) = false by rw [beq_iff_eq] at hk; rw [hk]; rfl]
      exact rempty_lit x hv hl A c w hL hk
    | false => exact rempty_else x _ A c w hL hk rfl
set_option maxRecDepth 100000 in
set_option maxHeartbeats 6400000 in
theorem rdec_and (a2 a3 a7 a8 : Int) (s4 s5 s6 : ByteArray) (sl : Value) (v : Vl) (w : World) :
    Calls Try.prog 28 #[.agg #[.int .i64 4, .int .i64 4, .int .i64 a2, .int .i64 a3, .string s4, .string s5, .string s6, .int .i64 a7, .int .i64 a8, sl], vC v] w fun e w' => e = .returned (.bool (eqV v (vTru false))) ∧ Below w.heap.size w w' := by
  have HX := Asd.mk (nb1 w (.cells #[.int .i64 4, .int .i64 4, .int .i64 a2, .int .i64 a3, .string s4, .string s5, .string s6, .int .i64 a7, .int .i64 a8, sl] 26 (0, 0)) (vK v))
  have HE := Asd.mk (blk_alloc (blk_new w (.cells #[.int .i64 4, .int .i64 4, .int .i64 a2, .int .i64 a3, .string s4, .string s5, .string s6, .int .i64 a7, .int .i64 a8, sl] 26 (0, 0))) (vK v))
  have HB : Asd (Below w.heap.size w ((w.alloc (.cells #[.int .i64 4, .int .i64 4, .int .i64 a2, .int .i64 a3, .string s4, .string s5, .string s6, .int .i64 a7, .int .i64 a8, sl] 26 (0, 0))).alloc (vK v))) := Asd.mk (below_alloc (below_alloc (Below.refl _ _) _) _)
  have hve : ∀ W, (binOp .eql 23 (vC v) (vC (vTru false))).run Try.prog W = .ok (.bool (eqV v (vTru false))) W := fun W => vC_eql _ _ W
  generalize eqV v (vTru false) = q at hve ⊢
  simp only [vC, vTru, Bool.false_eq_true, if_true, if_false] at hve ⊢
  go_enter Try.func28, Try.ntmps28
  go_upto_region 1 with fail
  generalize (w.alloc (.cells #[.int .i64 4, .int .i64 4, .int .i64 a2, .int .i64 a3, .string s4, .string s5, .string s6, .int .i64 a7, .int .i64 a8, sl] 26 (0, 0))).alloc (vK v) = w1 at HX HE HB ⊢
  have e0 := (blk_cell HE.out 0).trans rfl
  have e1 := (blk_cell HE.out 1).trans rfl
  go_upto_region 2 with fail
  have HS : Asd (∀ w', Below w.heap.size w w' ∧ w'.heap[w.heap.size + 1]? = some (vK v) → w'.cell? ⟨w.heap.size + 1, 0, none⟩ = some (.int .i64 v.kind) ∧ w'.cell? ⟨w.heap.size + 1, 1, none⟩ = some (.int .i64 v.int) ∧ w'.cell? ⟨w.heap.size + 1, 2, none⟩ = some (.string ⟨v.text.toArray⟩) ∧ Below w.heap.size w w' ∧ w'.heap[w.heap.size + 1]? = some (vK v)) := Asd.mk fun w' hb => ⟨(val_cells hb.2).1, (val_cells hb.2).2.1, (val_cells hb.2).2.2, hb⟩
  clear e0 e1
  go_region_held3 (fun w' => w'.cell? ⟨w.heap.size + 1, 0, none⟩ = some (.int .i64 v.kind) ∧ w'.cell? ⟨w.heap.size + 1, 1, none⟩ = some (.int .i64 v.int) ∧ w'.cell? ⟨w.heap.size + 1, 2, none⟩ = some (.string ⟨v.text.toArray⟩) ∧ Below w.heap.size w w' ∧ w'.heap[w.heap.size + 1]? = some (vK v))
    (first
      | exact HS.out _ ⟨HB.out, HX.out⟩
      | exact HS.out _ ⟨HB.out.drew, HX.out⟩
      | exact HS.out _ ⟨HB2.out, HX2.out⟩
      | (go_split_ands; exact HS.out _ ⟨by assumption, by assumption⟩)
      | fail)
    (first
      | (go_at_call 31
         refine (rtruth_calls false _).mono ?_
         rintro e w2 ⟨rfl, hb2⟩
         have HB2 : Asd (Below w.heap.size w w2) := Asd.mk (HB.out.drew.trans (hb2.mono HB.out.drew.size))
         have HX2 : Asd (w2.heap[w.heap.size + 1]? = some (vK v)) := Asd.mk (blk_below hb2 (show w1.drew.heap[w.heap.size + 1]? = some (vK v) from HX.out))
         simp only [vC, vTru, Bool.false_eq_true, if_true, if_false])
      | fail)
  go_wp2
  go_ret
  exact ⟨rfl, HB2.out⟩
set_option maxRecDepth 100000 in
set_option maxHeartbeats 6400000 in
theorem rdec_or (a2 a3 a7 a8 : Int) (s4 s5 s6 : ByteArray) (sl : Value) (v : Vl) (w : World) :
    Calls Try.prog 28 #[.agg #[.int .i64 4, .int .i64 3, .int .i64 a2, .int .i64 a3, .string s4, .string s5, .string s6, .int .i64 a7, .int .i64 a8, sl], vC v] w fun e w' => e = .returned (.bool (eqV v (vTru true))) ∧ Below w.heap.size w w' := by
  have HX := Asd.mk (nb1 w (.cells #[.int .i64 4, .int .i64 3, .int .i64 a2, .int .i64 a3, .string s4, .string s5, .string s6, .int .i64 a7, .int .i64 a8, sl] 26 (0, 0)) (vK v))
  have HE := Asd.mk (blk_alloc (blk_new w (.cells #[.int .i64 4, .int .i64 3, .int .i64 a2, .int .i64 a3, .string s4, .string s5, .string s6, .int .i64 a7, .int .i64 a8, sl] 26 (0, 0))) (vK v))
  have HB : Asd (Below w.heap.size w ((w.alloc (.cells #[.int .i64 4, .int .i64 3, .int .i64 a2, .int .i64 a3, .string s4, .string s5, .string s6, .int .i64 a7, .int .i64 a8, sl] 26 (0, 0))).alloc (vK v))) := Asd.mk (below_alloc (below_alloc (Below.refl _ _) _) _)
  have hve : ∀ W, (binOp .eql 23 (vC v) (vC (vTru true))).run Try.prog W = .ok (.bool (eqV v (vTru true))) W := fun W => vC_eql _ _ W
  generalize eqV v (vTru true) = q at hve ⊢
  simp only [vC, vTru, Bool.false_eq_true, if_true, if_false] at hve ⊢
  go_enter Try.func28, Try.ntmps28
  go_upto_region 1 with fail
  generalize (w.alloc (.cells #[.int .i64 4, .int .i64 3, .int .i64 a2, .int .i64 a3, .string s4, .string s5, .string s6, .int .i64 a7, .int .i64 a8, sl] 26 (0, 0))).alloc (vK v) = w1 at HX HE HB ⊢
  have e0 := (blk_cell HE.out 0).trans rfl
  have e1 := (blk_cell HE.out 1).trans rfl
  go_upto_region 4 with fail
  have HS : Asd (∀ w', Below w.heap.size w w' ∧ w'.heap[w.heap.size + 1]? = some (vK v) → w'.cell? ⟨w.heap.size + 1, 0, none⟩ = some (.int .i64 v.kind) ∧ w'.cell? ⟨w.heap.size + 1, 1, none⟩ = some (.int .i64 v.int) ∧ w'.cell? ⟨w.heap.size + 1, 2, none⟩ = some (.string ⟨v.text.toArray⟩) ∧ Below w.heap.size w w' ∧ w'.heap[w.heap.size + 1]? = some (vK v)) := Asd.mk fun w' hb => ⟨(val_cells hb.2).1, (val_cells hb.2).2.1, (val_cells hb.2).2.2, hb⟩
  clear e0 e1
  go_region_held3 (fun w' => w'.cell? ⟨w.heap.size + 1, 0, none⟩ = some (.int .i64 v.kind) ∧ w'.cell? ⟨w.heap.size + 1, 1, none⟩ = some (.int .i64 v.int) ∧ w'.cell? ⟨w.heap.size + 1, 2, none⟩ = some (.string ⟨v.text.toArray⟩) ∧ Below w.heap.size w w' ∧ w'.heap[w.heap.size + 1]? = some (vK v))
    (first
      | exact HS.out _ ⟨HB.out, HX.out⟩
      | exact HS.out _ ⟨HB.out.drew, HX.out⟩
      | exact HS.out _ ⟨HB2.out, HX2.out⟩
      | (go_split_ands; exact HS.out _ ⟨by assumption, by assumption⟩)
      | fail)
    (first
      | (go_at_call 31
         refine (rtruth_calls true _).mono ?_
         rintro e w2 ⟨rfl, hb2⟩
         have HB2 : Asd (Below w.heap.size w w2) := Asd.mk (HB.out.drew.trans (hb2.mono HB.out.drew.size))
         have HX2 : Asd (w2.heap[w.heap.size + 1]? = some (vK v)) := Asd.mk (blk_below hb2 (show w1.drew.heap[w.heap.size + 1]? = some (vK v) from HX.out))
         simp only [vC, vTru, Bool.false_eq_true, if_true, if_false])
      | fail)
  go_wp2
  go_ret
  exact ⟨rfl, HB2.out⟩
set_option maxRecDepth 100000 in
set_option maxHeartbeats 6400000 in
theorem rdec_bin (o : Int) (a2 a3 a7 a8 : Int) (s4 s5 s6 : ByteArray) (sl : Value) (v : Vl) (w : World) (h3 : (o == 3) = false) (h4 : (o == 4) = false) :
    Calls Try.prog 28 #[.agg #[.int .i64 4, .int .i64 o, .int .i64 a2, .int .i64 a3, .string s4, .string s5, .string s6, .int .i64 a7, .int .i64 a8, sl], vC v] w fun e w' => e = .returned (.bool false) ∧ Below w.heap.size w w' := by
  have HX := Asd.mk (nb1 w (.cells #[.int .i64 4, .int .i64 o, .int .i64 a2, .int .i64 a3, .string s4, .string s5, .string s6, .int .i64 a7, .int .i64 a8, sl] 26 (0, 0)) (vK v))
  have HE := Asd.mk (blk_alloc (blk_new w (.cells #[.int .i64 4, .int .i64 o, .int .i64 a2, .int .i64 a3, .string s4, .string s5, .string s6, .int .i64 a7, .int .i64 a8, sl] 26 (0, 0))) (vK v))
  have HB : Asd (Below w.heap.size w ((w.alloc (.cells #[.int .i64 4, .int .i64 o, .int .i64 a2, .int .i64 a3, .string s4, .string s5, .string s6, .int .i64 a7, .int .i64 a8, sl] 26 (0, 0))).alloc (vK v))) := Asd.mk (below_alloc (below_alloc (Below.refl _ _) _) _)
  unfold vC
  go_enter Try.func28, Try.ntmps28
  go_upto_region 1 with fail
  generalize (w.alloc (.cells #[.int .i64 4, .int .i64 o, .int .i64 a2, .int .i64 a3, .string s4, .string s5, .string s6, .int .i64 a7, .int .i64 a8, sl] 26 (0, 0))).alloc (vK v) = w1 at HX HE HB ⊢
  have e0 := (blk_cell HE.out 0).trans rfl
  have e1 := (blk_cell HE.out 1).trans rfl
  obtain ⟨v0, v1, v2⟩ := val_cells HX.out
  go_wp2
  go_ret
  exact ⟨rfl, HB.out⟩
set_option maxRecDepth 100000 in
set_option maxHeartbeats 6400000 in
theorem rdec_coal (a2 a3 a7 a8 : Int) (s4 s5 s6 : ByteArray) (sl : Value) (v : Vl) (w : World) :
    Calls Try.prog 28 #[.agg #[.int .i64 5, .int .i64 6, .int .i64 a2, .int .i64 a3, .string s4, .string s5, .string s6, .int .i64 a7, .int .i64 a8, sl], vC v] w fun e w' => e = .returned (.bool (v.kind != 0)) ∧ Below w.heap.size w w' := by
  have HX := Asd.mk (nb1 w (.cells #[.int .i64 5, .int .i64 6, .int .i64 a2, .int .i64 a3, .string s4, .string s5, .string s6, .int .i64 a7, .int .i64 a8, sl] 26 (0, 0)) (vK v))
  have HE := Asd.mk (blk_alloc (blk_new w (.cells #[.int .i64 5, .int .i64 6, .int .i64 a2, .int .i64 a3, .string s4, .string s5, .string s6, .int .i64 a7, .int .i64 a8, sl] 26 (0, 0))) (vK v))
  have HB : Asd (Below w.heap.size w ((w.alloc (.cells #[.int .i64 5, .int .i64 6, .int .i64 a2, .int .i64 a3, .string s4, .string s5, .string s6, .int .i64 a7, .int .i64 a8, sl] 26 (0, 0))).alloc (vK v))) := Asd.mk (below_alloc (below_alloc (Below.refl _ _) _) _)
  unfold vC
  go_enter Try.func28, Try.ntmps28
  go_upto_region 1 with fail
  generalize (w.alloc (.cells #[.int .i64 5, .int .i64 6, .int .i64 a2, .int .i64 a3, .string s4, .string s5, .string s6, .int .i64 a7, .int .i64 a8, sl] 26 (0, 0))).alloc (vK v) = w1 at HX HE HB ⊢
  have e0 := (blk_cell HE.out 0).trans rfl
  have e1 := (blk_cell HE.out 1).trans rfl
  obtain ⟨v0, v1, v2⟩ := val_cells HX.out
  go_wp2
  go_ret
  exact ⟨rfl, HB.out⟩
set_option maxRecDepth 100000 in
set_option maxHeartbeats 6400000 in
theorem rdec_call (o : Int) (a2 a3 a7 a8 : Int) (s4 s5 s6 : ByteArray) (sl : Value) (v : Vl) (w : World) (h6 : (o == 6) = false) :
    Calls Try.prog 28 #[.agg #[.int .i64 5, .int .i64 o, .int .i64 a2, .int .i64 a3, .string s4, .string s5, .string s6, .int .i64 a7, .int .i64 a8, sl], vC v] w fun e w' => e = .returned (.bool false) ∧ Below w.heap.size w w' := by
  have HX := Asd.mk (nb1 w (.cells #[.int .i64 5, .int .i64 o, .int .i64 a2, .int .i64 a3, .string s4, .string s5, .string s6, .int .i64 a7, .int .i64 a8, sl] 26 (0, 0)) (vK v))
  have HE := Asd.mk (blk_alloc (blk_new w (.cells #[.int .i64 5, .int .i64 o, .int .i64 a2, .int .i64 a3, .string s4, .string s5, .string s6, .int .i64 a7, .int .i64 a8, sl] 26 (0, 0))) (vK v))
  have HB : Asd (Below w.heap.size w ((w.alloc (.cells #[.int .i64 5, .int .i64 o, .int .i64 a2, .int .i64 a3, .string s4, .string s5, .string s6, .int .i64 a7, .int .i64 a8, sl] 26 (0, 0))).alloc (vK v))) := Asd.mk (below_alloc (below_alloc (Below.refl _ _) _) _)
  unfold vC
  go_enter Try.func28, Try.ntmps28
  go_upto_region 1 with fail
  generalize (w.alloc (.cells #[.int .i64 5, .int .i64 o, .int .i64 a2, .int .i64 a3, .string s4, .string s5, .string s6, .int .i64 a7, .int .i64 a8, sl] 26 (0, 0))).alloc (vK v) = w1 at HX HE HB ⊢
  have e0 := (blk_cell HE.out 0).trans rfl
  have e1 := (blk_cell HE.out 1).trans rfl
  obtain ⟨v0, v1, v2⟩ := val_cells HX.out
  go_wp2
  go_ret
  exact ⟨rfl, HB.out⟩
set_option maxRecDepth 100000 in
set_option maxHeartbeats 6400000 in
theorem rdec_k (k o : Int) (a2 a3 a7 a8 : Int) (s4 s5 s6 : ByteArray) (sl : Value) (v : Vl) (w : World) (h4 : (k == 4) = false) (h5 : (k == 5) = false) :
    Calls Try.prog 28 #[.agg #[.int .i64 k, .int .i64 o, .int .i64 a2, .int .i64 a3, .string s4, .string s5, .string s6, .int .i64 a7, .int .i64 a8, sl], vC v] w fun e w' => e = .returned (.bool false) ∧ Below w.heap.size w w' := by
  have HX := Asd.mk (nb1 w (.cells #[.int .i64 k, .int .i64 o, .int .i64 a2, .int .i64 a3, .string s4, .string s5, .string s6, .int .i64 a7, .int .i64 a8, sl] 26 (0, 0)) (vK v))
  have HE := Asd.mk (blk_alloc (blk_new w (.cells #[.int .i64 k, .int .i64 o, .int .i64 a2, .int .i64 a3, .string s4, .string s5, .string s6, .int .i64 a7, .int .i64 a8, sl] 26 (0, 0))) (vK v))
  have HB : Asd (Below w.heap.size w ((w.alloc (.cells #[.int .i64 k, .int .i64 o, .int .i64 a2, .int .i64 a3, .string s4, .string s5, .string s6, .int .i64 a7, .int .i64 a8, sl] 26 (0, 0))).alloc (vK v))) := Asd.mk (below_alloc (below_alloc (Below.refl _ _) _) _)
  unfold vC
  go_enter Try.func28, Try.ntmps28
  go_upto_region 1 with fail
  generalize (w.alloc (.cells #[.int .i64 k, .int .i64 o, .int .i64 a2, .int .i64 a3, .string s4, .string s5, .string s6, .int .i64 a7, .int .i64 a8, sl] 26 (0, 0))).alloc (vK v) = w1 at HX HE HB ⊢
  have e0 := (blk_cell HE.out 0).trans rfl
  have e1 := (blk_cell HE.out 1).trans rfl
  obtain ⟨v0, v1, v2⟩ := val_cells HX.out
  go_wp2
  go_ret
  exact ⟨rfl, HB.out⟩
/-- eval.decided. -/
theorem rdecided_calls (x : Ex) (sl : Value) (v : Vl) (w : World) : Calls Try.prog 28 #[exV x sl, vC v] w fun e w' => e = .returned (.bool (decP x.kind x.op v)) ∧ Below w.heap.size w w' := by
  unfold exV decP
  generalize x.kind = k
  generalize x.op = o
  by_cases h4 : k = 4
  · subst h4
    by_cases h : o = 4
    · subst h; exact rdec_and _ _ _ _ _ _ _ _ v w
    · rw [if_neg (by rintro ⟨_, h'⟩; exact h h')]
      by_cases h3 : o = 3
      · subst h3; exact rdec_or _ _ _ _ _ _ _ _ v w
      · rw [if_neg (by rintro ⟨_, h'⟩; exact h3 h')]
        exact rdec_bin o _ _ _ _ _ _ _ _ v w (by simpa using h3) (by simpa using h)
  · rw [if_neg (by rintro ⟨h', _⟩; exact h4 h'), if_neg (by rintro ⟨h', _⟩; exact h4 h')]
    by_cases h5 : k = 5
    · subst h5
      by_cases h6 : o = 6
      · subst h6; exact rdec_coal _ _ _ _ _ _ _ _ v w
      · rw [show (o == 6) = false by simpa using h6]
        exact rdec_call o _ _ _ _ _ _ _ _ v w (by simpa using h6)
    · rw [show (k == 5) = false by simpa using h5]
      exact rdec_k k o _ _ _ _ _ _ _ _ v w (by simpa using h4) (by simpa using h5)
end Go.Proofs.Ytinflndbfdbnhaa.Exp

/- quarryref13.Same and SameAll. -/
set_option linter.unusedVariables false
set_option linter.unusedSimpArgs false
namespace Go.Proofs.Ytinflndbfdbnhaa.Exp
open Go.RowKit Go.Proofs.Ytinflndbfdbnhaa.Base Go.Proofs.Ytinflndbfdbnhaa.App Go.Proofs.Ytinflndbfdbnhaa.Byt

def RSameOK (x y : Ex) : Prop := ∀ (P Q : Nat → Prop) (sx sy : Value) (w : World), Held P w x.args sx → Held Q w y.args sy → Calls Try.prog 12 #[exV x sx, exV y sy] w (SameR x y w)
theorem val_neq (w : World) (x0 y0 x1 y1 : Int) (x2 y2 : ByteArray) :
    (binOp .neq 23 (.agg #[.int .i64 x0, .int .i64 x1, .string x2]) (.agg #[.int .i64 y0, .int .i64 y1, .string y2])).run Try.prog w = .ok (.bool (!(x0 == y0 && (x1 == y1 && (x2.toList == y2.toList))))) w := Eqs.op_neq fun d => val_in d w x0 y0 x1 y1 x2 y2
set_option maxRecDepth 100000 in
set_option maxHeartbeats 12800000 in
theorem rsameall_calls (P Q : Nat → Prop) (xs ys : List Ex) (sx sy : Value) (w : World) (hx : Held P w xs sx) (hy : Held Q w ys sy) (hn : xs.length ≤ 1048576)
    (hf : ∀ i (h : i < xs.length) (h' : i < ys.length), RSameOK xs[i] ys[i]) :
    Calls Try.prog 33 #[sx, sy] w fun e w' => e = .returned (.bool (sameL xs ys)) ∧ Below w.heap.size w w' := by
  obtain ⟨A, ca, rfl⟩ := held_len hx
  obtain ⟨B, cb, rfl⟩ := held_len hy
  have HX := Asd.mk hx
  have HY := Asd.mk hy
  have HF := Asd.mk hf
  generalize hm : xs.length = m at hn ⊢
  generalize hm' : ys.length = m' 
  have HM := Asd.mk hm
  have HM' := Asd.mk hm'
  clear hx hy hf hm hm'
  go_enter Try.func33, Try.ntmps33
  by_cases hmm : m = m'
  · subst hmm
    go_wp2
    go_loopw [5] (fun i wr => ∃ (k : Nat), k ≤ m ∧ i = .int .i64 (k : Int) ∧ Asd (Below w.heap.size w wr) ∧ Asd (∀ j (h : j < xs.length) (h' : j < ys.length), j < k → sameE xs[j] ys[j] = true)) (fun i _ => m - (intOf i).toNat)
    case atStart => exact ⟨0, by omega, rfl, ⟨Below.refl _ _⟩, ⟨fun j _ _ h => absurd h (by omega)⟩⟩
    case round =>
      obtain ⟨k, hk, rfl, HB, HQ⟩ := hrel
      by_cases hlt : k < m
      · have hkx : k < xs.length := by rw [HM.out]; exact hlt
        have hky : k < ys.length := by rw [HM'.out]; exact hlt
        obtain ⟨g, o, A1, n1, c1, rfl, hr1, hh1⟩ := held_at (held_below HX.out HB.out) k hkx
        obtain ⟨h, q, A2, n2, c2, rfl, hr2, hh2⟩ := held_at (held_below HY.out HB.out) k hky
        have HFK := Asd.mk (HF.out k hkx hky)
        have HSK : Asd (sameE xs[k] ys[k] = true → ∀ j (h : j < xs.length) (h' : j < ys.length), j < k + 1 → sameE xs[j] ys[j] = true) := Asd.mk fun he j h h' hj => by
          rcases Nat.lt_succ_iff_lt_or_eq.mp hj with hj | rfl
          · exact HQ.out j h h' hj
          · exact he
        have HNK : Asd (sameE xs[k] ys[k] = false → sameL xs ys = false) := Asd.mk fun he => sameL_not k hkx hky he
        generalize xs[k] = x at HFK HSK HNK hr1 hh1
        generalize ys[k] = y at HFK HSK HNK hr2 hh2
        have HH1 := Asd.mk hh1
        have HH2 := Asd.mk hh2
        have hgl : g < wr.heap.size := World.block_lt_of_cell? wr _ (hr1 0 (by omega))
        have hhl : h < wr.heap.size := World.block_lt_of_cell? wr _ (hr2 0 (by omega))
        have hk0 : (0 : Int) ≤ (k : Int) := by omega
        have hk1 : (k : Int) < (m : Int) := by omega
        have x0 : wr.cell? ⟨g, o + k * 10, none⟩ = some (.int .i64 x.kind) := hr1 0 (by omega)
        have x1 : wr.cell? ⟨g, o + k * 10 + 1, none⟩ = some (.int .i64 x.op) := hr1 1 (by omega)
        have x2 : wr.cell? ⟨g, o + k * 10 + 2, none⟩ = some (.int .i64 x.v.kind) := hr1 2 (by omega)
        have x3 : wr.cell? ⟨g, o + k * 10 + 3, none⟩ = some (.int .i64 x.v.int) := hr1 3 (by omega)
        have x4 : wr.cell? ⟨g, o + k * 10 + 4, none⟩ = some (.string ⟨x.v.text.toArray⟩) := hr1 4 (by omega)
        have x5 : wr.cell? ⟨g, o + k * 10 + 5, none⟩ = some (.string ⟨x.table.toArray⟩) := hr1 5 (by omega)
        have x6 : wr.cell? ⟨g, o + k * 10 + 6, none⟩ = some (.string ⟨x.name.toArray⟩) := hr1 6 (by omega)
        have x7 : wr.cell? ⟨g, o + k * 10 + 7, none⟩ = some (.int .i64 x.col) := hr1 7 (by omega)
        have x8 : wr.cell? ⟨g, o + k * 10 + 8, none⟩ = some (.int .i64 x.ty) := hr1 8 (by omega)
        have x9 : wr.cell? ⟨g, o + k * 10 + 9, none⟩ = some (.slice A1 n1 c1) := hr1 9 (by omega)
        have y0 : wr.cell? ⟨h, q + k * 10, none⟩ = some (.int .i64 y.kind) := hr2 0 (by omega)
        have y1 : wr.cell? ⟨h, q + k * 10 + 1, none⟩ = some (.int .i64 y.op) := hr2 1 (by omega)
        have y2 : wr.cell? ⟨h, q + k * 10 + 2, none⟩ = some (.int .i64 y.v.kind) := hr2 2 (by omega)
        have y3 : wr.cell? ⟨h, q + k * 10 + 3, none⟩ = some (.int .i64 y.v.int) := hr2 3 (by omega)
        have y4 : wr.cell? ⟨h, q + k * 10 + 4, none⟩ = some (.string ⟨y.v.text.toArray⟩) := hr2 4 (by omega)
        have y5 : wr.cell? ⟨h, q + k * 10 + 5, none⟩ = some (.string ⟨y.table.toArray⟩) := hr2 5 (by omega)
        have y6 : wr.cell? ⟨h, q + k * 10 + 6, none⟩ = some (.string ⟨y.name.toArray⟩) := hr2 6 (by omega)
        have y7 : wr.cell? ⟨h, q + k * 10 + 7, none⟩ = some (.int .i64 y.col) := hr2 7 (by omega)
        have y8 : wr.cell? ⟨h, q + k * 10 + 8, none⟩ = some (.int .i64 y.ty) := hr2 8 (by omega)
        have y9 : wr.cell? ⟨h, q + k * 10 + 9, none⟩ = some (.slice A2 n2 c2) := hr2 9 (by omega)
        have HS : Asd (∀ w', Below wr.heap.size wr w' → w'.cell? ⟨g, o + k * 10, none⟩ = some (.int .i64 x.kind) ∧ w'.cell? ⟨g, o + k * 10 + 1, none⟩ = some (.int .i64 x.op) ∧ w'.cell? ⟨g, o + k * 10 + 2, none⟩ = some (.int .i64 x.v.kind) ∧ w'.cell? ⟨g, o + k * 10 + 3, none⟩ = some (.int .i64 x.v.int) ∧ w'.cell? ⟨g, o + k * 10 + 4, none⟩ = some (.string ⟨x.v.text.toArray⟩) ∧ w'.cell? ⟨g, o + k * 10 + 5, none⟩ = some (.string ⟨x.table.toArray⟩) ∧ w'.cell? ⟨g, o + k * 10 + 6, none⟩ = some (.string ⟨x.name.toArray⟩) ∧ w'.cell? ⟨g, o + k * 10 + 7, none⟩ = some (.int .i64 x.col) ∧ w'.cell? ⟨g, o + k * 10 + 8, none⟩ = some (.int .i64 x.ty) ∧ w'.cell? ⟨g, o + k * 10 + 9, none⟩ = some (.slice A1 n1 c1) ∧ w'.cell? ⟨h, q + k * 10, none⟩ = some (.int .i64 y.kind) ∧ w'.cell? ⟨h, q + k * 10 + 1, none⟩ = some (.int .i64 y.op) ∧ w'.cell? ⟨h, q + k * 10 + 2, none⟩ = some (.int .i64 y.v.kind) ∧ w'.cell? ⟨h, q + k * 10 + 3, none⟩ = some (.int .i64 y.v.int) ∧ w'.cell? ⟨h, q + k * 10 + 4, none⟩ = some (.string ⟨y.v.text.toArray⟩) ∧ w'.cell? ⟨h, q + k * 10 + 5, none⟩ = some (.string ⟨y.table.toArray⟩) ∧ w'.cell? ⟨h, q + k * 10 + 6, none⟩ = some (.string ⟨y.name.toArray⟩) ∧ w'.cell? ⟨h, q + k * 10 + 7, none⟩ = some (.int .i64 y.col) ∧ w'.cell? ⟨h, q + k * 10 + 8, none⟩ = some (.int .i64 y.ty) ∧ w'.cell? ⟨h, q + k * 10 + 9, none⟩ = some (.slice A2 n2 c2) ∧ Below wr.heap.size wr w') := Asd.mk fun w' hb =>
          ⟨(hb.cell hgl).trans x0, (hb.cell hgl).trans x1, (hb.cell hgl).trans x2, (hb.cell hgl).trans x3, (hb.cell hgl).trans x4, (hb.cell hgl).trans x5, (hb.cell hgl).trans x6, (hb.cell hgl).trans x7, (hb.cell hgl).trans x8, (hb.cell hgl).trans x9, (hb.cell hhl).trans y0, (hb.cell hhl).trans y1, (hb.cell hhl).trans y2, (hb.cell hhl).trans y3, (hb.cell hhl).trans y4, (hb.cell hhl).trans y5, (hb.cell hhl).trans y6, (hb.cell hhl).trans y7, (hb.cell hhl).trans y8, (hb.cell hhl).trans y9, hb⟩
        have HC : Asd (∀ W, Below wr.heap.size wr W → Calls Try.prog 12 #[exV x (.slice A1 n1 c1), exV y (.slice A2 n2 c2)] W (SameR x y W)) := Asd.mk fun W hb => HFK.out P Q (.slice A1 n1 c1) (.slice A2 n2 c2) W (held_below HH1.out hb) (held_below HH2.out hb)
        unfold exV SameR at HC
        clear hr1 hr2 hh1 hh2 hkx hky HFK HH1 HH2
        go_upto_region 6 with fail
        clear x0 x1 x2 x3 x4 x5 x6 x7 x8 x9 y0 y1 y2 y3 y4 y5 y6 y7 y8 y9
        go_region_held3 (fun w' => w'.cell? ⟨g, o + k * 10, none⟩ = some (.int .i64 x.kind) ∧ w'.cell? ⟨g, o + k * 10 + 1, none⟩ = some (.int .i64 x.op) ∧ w'.cell? ⟨g, o + k * 10 + 2, none⟩ = some (.int .i64 x.v.kind) ∧ w'.cell? ⟨g, o + k * 10 + 3, none⟩ = some (.int .i64 x.v.int) ∧ w'.cell? ⟨g, o + k * 10 + 4, none⟩ = some (.string ⟨x.v.text.toArray⟩) ∧ w'.cell? ⟨g, o + k * 10 + 5, none⟩ = some (.string ⟨x.table.toArray⟩) ∧ w'.cell? ⟨g, o + k * 10 + 6, none⟩ = some (.string ⟨x.name.toArray⟩) ∧ w'.cell? ⟨g, o + k * 10 + 7, none⟩ = some (.int .i64 x.col) ∧ w'.cell? ⟨g, o + k * 10 + 8, none⟩ = some (.int .i64 x.ty) ∧ w'.cell? ⟨g, o + k * 10 + 9, none⟩ = some (.slice A1 n1 c1) ∧ w'.cell? ⟨h, q + k * 10, none⟩ = some (.int .i64 y.kind) ∧ w'.cell? ⟨h, q + k * 10 + 1, none⟩ = some (.int .i64 y.op) ∧ w'.cell? ⟨h, q + k * 10 + 2, none⟩ = some (.int .i64 y.v.kind) ∧ w'.cell? ⟨h, q + k * 10 + 3, none⟩ = some (.int .i64 y.v.int) ∧ w'.cell? ⟨h, q + k * 10 + 4, none⟩ = some (.string ⟨y.v.text.toArray⟩) ∧ w'.cell? ⟨h, q + k * 10 + 5, none⟩ = some (.string ⟨y.table.toArray⟩) ∧ w'.cell? ⟨h, q + k * 10 + 6, none⟩ = some (.string ⟨y.name.toArray⟩) ∧ w'.cell? ⟨h, q + k * 10 + 7, none⟩ = some (.int .i64 y.col) ∧ w'.cell? ⟨h, q + k * 10 + 8, none⟩ = some (.int .i64 y.ty) ∧ w'.cell? ⟨h, q + k * 10 + 9, none⟩ = some (.slice A2 n2 c2) ∧ Below wr.heap.size wr w')
          (first
            | exact HS.out _ (Below.refl _ _)
            | exact HS.out _ (Below.refl _ _).drew
            | exact HS.out _ HB3.out
            | exact HS.out _ HB3.out.drew
            | (go_split_ands; exact HS.out _ (by assumption))
            | fail)
          (first
            | (go_at_call 12
               refine (HC.out _ (Below.refl _ _).drew).mono ?_
               rintro e w3 ⟨rfl, hb3⟩
               have HB3 : Asd (Below wr.heap.size wr w3) := Asd.mk (below_step (Below.refl _ _).drew hb3))
            | fail)
        have HB4 : Asd (Below w.heap.size w w3) := Asd.mk (HB.out.trans (HB3.out.mono HB.out.size))
        cases hs : sameE x y with
        | true =>
          have HS2 := Asd.mk (HSK.out hs)
          clear hs
          go_wp2
          go_roundw
          case rel => exact ⟨k + 1, by omega, by go_num, HB4, HS2⟩
          case measure => simp [intOf]; omega
        | false =>
          have HS2 := Asd.mk (HNK.out hs)
          clear hs
          go_wp2
          go_ret
          exact ⟨ret_eq (by rw [HS2.out]; rfl), HB4.out⟩
      · have HS : Asd (sameL xs ys = true) := Asd.mk (sameL_all (HM.out.trans HM'.out.symm) fun i h h' => HQ.out i h h' (by have := HM.out; omega))
        have hge : ¬ (k : Int) < (m : Int) := by omega
        clear HQ
        go_wp2
        go_ret
        exact ⟨ret_eq (by rw [HS.out]; rfl), HB.out⟩
  · have HS : Asd (sameL xs ys = false) := Asd.mk (sameL_len (by rw [HM.out, HM'.out]; exact hmm))
    have hne : ((m : Int) != (m' : Int)) = true := by rw [bne_iff_ne]; omega
    clear hmm
    go_wp2
    go_ret
    exact ⟨ret_eq (by rw [HS.out]; rfl), Below.refl _ _⟩
set_option maxRecDepth 100000 in
set_option maxHeartbeats 6400000 in
theorem rsame_step (x y : Ex) (hx : fewE x) (hsub : ∀ i (h : i < x.args.length) (h' : i < y.args.length), RSameOK x.args[i] y.args[i]) : RSameOK x y := by
  intro P Q sx sy w hhx hhy
  obtain ⟨A1, n1, c1, rfl⟩ := held_slice hhx
  obtain ⟨A2, n2, c2, rfl⟩ := held_slice hhy
  have HS := Asd.mk (fun (W : World) (hb : Below w.heap.size w W) => rsameall_calls P Q x.args y.args (.slice A1 n1 c1) (.slice A2 n2 c2) W (held_below hhx hb) (held_below hhy hb) (fewE_args hx).1 hsub)
  have HE := Asd.mk (sameE_eq x y)
  have HB : Asd (Below w.heap.size w ((w.alloc (.cells #[.int .i64 x.kind, .int .i64 x.op, .int .i64 x.v.kind, .int .i64 x.v.int, .string ⟨x.v.text.toArray⟩, .string ⟨x.table.toArray⟩, .string ⟨x.name.toArray⟩, .int .i64 x.col, .int .i64 x.ty, .slice A1 n1 c1] 26 (0, 0))).alloc (.cells #[.int .i64 y.kind, .int .i64 y.op, .int .i64 y.v.kind, .int .i64 y.v.int, .string ⟨y.v.text.toArray⟩, .string ⟨y.table.toArray⟩, .string ⟨y.name.toArray⟩, .int .i64 y.col, .int .i64 y.ty, .slice A2 n2 c2] 26 (0, 0)))) := Asd.mk (below_alloc (below_alloc (Below.refl _ w) _) _)
  clear hhx hhy hx hsub
  unfold exV
  go_enter Try.func12, Try.ntmps12
  cases h1 : (x.kind == y.kind) with
  | false =>
    have h1n : (x.kind != y.kind) = true := by simp only [bne, h1]; rfl
    have HR : Asd (sameE x y = false) := Asd.mk (by rw [HE.out, h1]; simp)
    go_wp2
    go_ret
    exact ⟨ret_eq (by rw [HR.out]; rfl), HB.out⟩
  | true =>
    have h1n : (x.kind != y.kind) = false := by simp only [bne, h1]; rfl
    cases h2 : (x.op == y.op) with
    | false =>
      have h2n : (x.op != y.op) = true := by simp only [bne, h2]; rfl
      have HR : Asd (sameE x y = false) := Asd.mk (by rw [HE.out, h1, h2]; simp)
      go_wp2
      go_ret
      exact ⟨ret_eq (by rw [HR.out]; rfl), HB.out⟩
    | true =>
      have h2n : (x.op != y.op) = false := by simp only [bne, h2]; rfl
      cases h3 : (x.v.kind == y.v.kind && (x.v.int == y.v.int && x.v.text == y.v.text)) with
      | false =>
        have HR : Asd (sameE x y = false) := Asd.mk (by rw [HE.out, h1, h2, h3]; simp)
        have hve : ∀ W, (binOp .neq 23 (.agg #[.int .i64 x.v.kind, .int .i64 x.v.int, .string ⟨x.v.text.toArray⟩]) (.agg #[.int .i64 y.v.kind, .int .i64 y.v.int, .string ⟨y.v.text.toArray⟩])).run Try.prog W = .ok (.bool true) W := fun W => by rw [val_neq, tl_eq, h3]; rfl
        clear h3
        go_wp2
        go_ret
        exact ⟨ret_eq (by rw [HR.out]; rfl), HB.out⟩
      | true =>
        cases h4 : (x.table == y.table) with
        | false =>
          have h4n : (x.table != y.table) = true := by simp only [bne, h4]; rfl
          have HR : Asd (sameE x y = false) := Asd.mk (by rw [HE.out, h1, h2, h3, h4]; simp)
          have hve : ∀ W, (binOp .neq 23 (.agg #[.int .i64 x.v.kind, .int .i64 x.v.int, .string ⟨x.v.text.toArray⟩]) (.agg #[.int .i64 y.v.kind, .int .i64 y.v.int, .string ⟨y.v.text.toArray⟩])).run Try.prog W = .ok (.bool false) W := fun W => by rw [val_neq, tl_eq, h3]; rfl
          clear h3
          go_wp2
          go_ret
          exact ⟨ret_eq (by rw [HR.out]; rfl), HB.out⟩
        | true =>
          have h4n : (x.table != y.table) = false := by simp only [bne, h4]; rfl
          cases h5 : (x.name == y.name) with
          | false =>
            have h5n : (x.name != y.name) = true := by simp only [bne, h5]; rfl
            have HR : Asd (sameE x y = false) := Asd.mk (by rw [HE.out, h1, h2, h3, h4, h5]; simp)
            have hve : ∀ W, (binOp .neq 23 (.agg #[.int .i64 x.v.kind, .int .i64 x.v.int, .string ⟨x.v.text.toArray⟩]) (.agg #[.int .i64 y.v.kind, .int .i64 y.v.int, .string ⟨y.v.text.toArray⟩])).run Try.prog W = .ok (.bool false) W := fun W => by rw [val_neq, tl_eq, h3]; rfl
            clear h3
            go_wp2
            go_ret
            exact ⟨ret_eq (by rw [HR.out]; rfl), HB.out⟩
          | true =>
            have h5n : (x.name != y.name) = false := by simp only [bne, h5]; rfl
            have HR : Asd (sameE x y = sameL x.args y.args) := Asd.mk (by rw [HE.out, h1, h2, h3, h4, h5]; simp)
            have hve : ∀ W, (binOp .neq 23 (.agg #[.int .i64 x.v.kind, .int .i64 x.v.int, .string ⟨x.v.text.toArray⟩]) (.agg #[.int .i64 y.v.kind, .int .i64 y.v.int, .string ⟨y.v.text.toArray⟩])).run Try.prog W = .ok (.bool false) W := fun W => by rw [val_neq, tl_eq, h3]; rfl
            clear h3
            go_wp2_with fail
            refine (HS.out _ HB.out).mono ?_
            rintro e w2 ⟨rfl, hb2⟩
            have HB2 := Asd.mk (HB.out.trans (hb2.mono HB.out.size))
            clear hb2
            cases hl : sameL x.args y.args with
            | true =>
              have HR2 : Asd (sameE x y = true) := Asd.mk (HR.out.trans hl)
              clear hl
              go_wp2
              go_ret
              exact ⟨ret_eq (by rw [HR2.out]; rfl), HB2.out⟩
            | false =>
              have HR2 : Asd (sameE x y = false) := Asd.mk (HR.out.trans hl)
              clear hl
              go_wp2
              go_ret
              exact ⟨ret_eq (by rw [HR2.out]; rfl), HB2.out⟩
theorem rsame_ok (x y : Ex) (hx : fewE x) : RSameOK x y :=
  rsame_step x y hx fun i h h' => rsame_ok x.args[i] y.args[i] (fewL_mem (fewE_args hx).2 _ (List.getElem_mem h))
termination_by SizeOf.sizeOf x
decreasing_by exact args_lt x i h
/-- quarryref13.Same. -/
theorem rsame_calls (P Q : Nat → Prop) (x y : Ex) (sx sy : Value) (w : World) (hx : fewE x) (hhx : Held P w x.args sx) (hhy : Held Q w y.args sy) :
    Calls Try.prog 12 #[exV x sx, exV y sy] w (SameR x y w) := rsame_ok x y hx P Q sx sy w hhx hhy
end Go.Proofs.Ytinflndbfdbnhaa.Exp

/- quarryref16.Eval. -/
set_option linter.unusedVariables false
set_option linter.unusedSimpArgs false
namespace Go.Proofs.Ytinflndbfdbnhaa.Exp
open Go.RowKit Go.Proofs.Ytinflndbfdbnhaa.Base Go.Proofs.Ytinflndbfdbnhaa.App Go.Proofs.Ytinflndbfdbnhaa.Byt

def REvalOK (row : List Vl) (ks : List (Ex × Vl)) (x : Ex) : Prop := ∀ (P Q : Nat → Prop) (A RA KA : Option Addr) (c rc kc : Nat) (w : World), EnvW P w RA KA row ks → Held Q w x.args (.slice A x.args.length c) →
  Calls Try.prog 11 #[exV x (.slice A x.args.length c), .slice RA row.length rc, .slice KA ks.length kc] w (Ev2 (evE row ks x) w)
set_option maxRecDepth 100000 in
set_option maxHeartbeats 12800000 in
theorem reval_step (row : List Vl) (ks : List (Ex × Vl)) (x : Ex) (hx : rvX x) (hbk : bulkX x ≤ 1048576) (hsub : ∀ i (h : i < x.args.length), REvalOK row ks x.args[i]) : REvalOK row ks x := by
  intro P Q A RA KA c rc kc w henv hheld
  have HEN := Asd.mk henv
  have HH := Asd.mk hheld
  have HSUB := Asd.mk hsub
  have HEV := Asd.mk (evE_eq row ks x)
  have HRX := Asd.mk hx
  have HRV := Asd.mk (evE_rv henv.rrv henv.krv x hx)
  have HLX : Asd (x.v.text.length ≤ 1048576) := Asd.mk (by have := bulkX_eq x; omega)
  have hkl := henv.klen
  clear henv hheld hsub hx hbk
  have HX := Asd.mk (blk_alloc (blk_new w (xK x (.slice A x.args.length c))) zeroV)
  have HZ := Asd.mk (nb1 w (xK x (.slice A x.args.length c)) zeroV)
  have HB : Asd (Below w.heap.size w ((w.alloc (xK x (.slice A x.args.length c))).alloc zeroV)) := Asd.mk (below_alloc (below_alloc (Below.refl _ _) _) _)
  obtain ⟨i0, hi0, hz0, hz1, hz2⟩ := info_partsV
  unfold exV
  go_enter Try.func11, Try.ntmps11
  go_upto_region 1 with fail
  generalize (w.alloc _).alloc _ = w1 at HX HZ HB ⊢
  generalize hkn : ks.length = kn at hkl ⊢
  have HKN := Asd.mk hkn
  clear hkn
  go_wp2
  go_loopw [8] (fun i wr => ∃ k : Nat, k ≤ kn ∧ i = .int .i64 (k : Int) ∧ Asd (Below w1.heap.size w1 wr) ∧ Asd (knownV ks x = knownV (ks.drop k) x)) (fun i _ => kn - (intOf i).toNat)
  case atStart => exact ⟨0, by omega, rfl, ⟨Below.refl _ _⟩, ⟨rfl⟩⟩
  case round =>
    obtain ⟨kk, hkk0, rfl, HBQ, HQ⟩ := hrel
    have HB2 : Asd (Below w.heap.size w wr) := Asd.mk (below_step HB.out HBQ.out)
    have HX2 := Asd.mk (blk_below HBQ.out HX.out)
    have HZ2 := Asd.mk (blk_below HBQ.out HZ.out)
    have HEN2 := Asd.mk (HEN.out.below HB2.out)
    have HH2 := Asd.mk (held_below HH.out HB2.out)
    have HSZ2 : Asd (w.heap.size + 2 ≤ wr.heap.size) := Asd.mk (blk_lt HZ2.out)
    obtain ⟨⟨z0, z1, z2⟩, y0, y1, y2⟩ := zero_cells HZ2.out
    by_cases hlt : kk < kn
    · have hkv : kk < ks.length := by rw [HKN.out]; exact hlt
      obtain ⟨g, o, rfl, hv⟩ := HEN2.out.kn (by omega)
      obtain ⟨A1, n1, c1, hr, hh, k0, k1, k2⟩ := hv kk hkv
      have HD : Asd (ks.drop kk = ks[kk] :: ks.drop (kk + 1)) := Asd.mk (List.drop_eq_getElem_cons hkv)
      have HFK := Asd.mk (HEN2.out.few _ (List.getElem_mem hkv))
      have HYES : Asd (sameE ks[kk].1 x = true → evE row ks x = .ok ks[kk].2) := Asd.mk fun h => by rw [HEV.out, HQ.out, HD.out, knownV_cons, if_pos h]
      have HNO : Asd (sameE ks[kk].1 x = false → knownV ks x = knownV (ks.drop (kk + 1)) x) := Asd.mk fun h => by rw [HQ.out, HD.out, knownV_cons, h]; rfl
      generalize ks[kk] = q at hr hh k0 k1 k2 HFK HYES HNO
      have HHK := Asd.mk hh
      have x0 : wr.cell? ⟨g, o + kk * 13, none⟩ = some (.int .i64 q.1.kind) := hr 0 (by omega)
      have x1 : wr.cell? ⟨g, o + kk * 13 + 1, none⟩ = some (.int .i64 q.1.op) := hr 1 (by omega)
      have x2 : wr.cell? ⟨g, o + kk * 13 + 2, none⟩ = some (.int .i64 q.1.v.kind) := hr 2 (by omega)
      have x3 : wr.cell? ⟨g, o + kk * 13 + 3, none⟩ = some (.int .i64 q.1.v.int) := hr 3 (by omega)
      have x4 : wr.cell? ⟨g, o + kk * 13 + 4, none⟩ = some (.string ⟨q.1.v.text.toArray⟩) := hr 4 (by omega)
      have x5 : wr.cell? ⟨g, o + kk * 13 + 5, none⟩ = some (.string ⟨q.1.table.toArray⟩) := hr 5 (by omega)
      have x6 : wr.cell? ⟨g, o + kk * 13 + 6, none⟩ = some (.string ⟨q.1.name.toArray⟩) := hr 6 (by omega)
      have x7 : wr.cell? ⟨g, o + kk * 13 + 7, none⟩ = some (.int .i64 q.1.col) := hr 7 (by omega)
      have x8 : wr.cell? ⟨g, o + kk * 13 + 8, none⟩ = some (.int .i64 q.1.ty) := hr 8 (by omega)
      have x9 : wr.cell? ⟨g, o + kk * 13 + 9, none⟩ = some (.slice A1 n1 c1) := hr 9 (by omega)
      have k0 : wr.cell? ⟨g, o + kk * 13 + 10, none⟩ = some (.int .i64 q.2.kind) := k0
      have k1 : wr.cell? ⟨g, o + kk * 13 + 11, none⟩ = some (.int .i64 q.2.int) := k1
      have k2 : wr.cell? ⟨g, o + kk * 13 + 12, none⟩ = some (.string ⟨q.2.text.toArray⟩) := k2
      obtain ⟨e0, e1, e2, e3, e4, e5, e6, e7, e8, e9⟩ := ex_cells (x := x) HX2.out
      have HS := Asd.mk (fun W (hb : Below wr.heap.size wr W) => rsame_calls P Q q.1 x (.slice A1 n1 c1) (.slice A x.args.length c) W HFK.out (held_below HHK.out hb) (held_below HH2.out hb))
      unfold exV at HS
      clear HD hv hr hh hkv
      have HCC : Asd (∀ w', Below wr.heap.size wr w' → (w'.cell? ⟨g, o + kk * 13, none⟩ = some (.int .i64 q.1.kind) ∧ w'.cell? ⟨g, o + kk * 13 + 1, none⟩ = some (.int .i64 q.1.op) ∧ w'.cell? ⟨g, o + kk * 13 + 2, none⟩ = some (.int .i64 q.1.v.kind) ∧ w'.cell? ⟨g, o + kk * 13 + 3, none⟩ = some (.int .i64 q.1.v.int) ∧ w'.cell? ⟨g, o + kk * 13 + 4, none⟩ = some (.string ⟨q.1.v.text.toArray⟩) ∧ w'.cell? ⟨g, o + kk * 13 + 5, none⟩ = some (.string ⟨q.1.table.toArray⟩) ∧ w'.cell? ⟨g, o + kk * 13 + 6, none⟩ = some (.string ⟨q.1.name.toArray⟩) ∧ w'.cell? ⟨g, o + kk * 13 + 7, none⟩ = some (.int .i64 q.1.col) ∧ w'.cell? ⟨g, o + kk * 13 + 8, none⟩ = some (.int .i64 q.1.ty) ∧ w'.cell? ⟨g, o + kk * 13 + 9, none⟩ = some (.slice A1 n1 c1) ∧ w'.cell? ⟨w.heap.size, 0, none⟩ = some (.int .i64 x.kind) ∧ w'.cell? ⟨w.heap.size, 1, none⟩ = some (.int .i64 x.op) ∧ w'.cell? ⟨w.heap.size, 2, none⟩ = some (.int .i64 x.v.kind) ∧ w'.cell? ⟨w.heap.size, 3, none⟩ = some (.int .i64 x.v.int) ∧ w'.cell? ⟨w.heap.size, 4, none⟩ = some (.string ⟨x.v.text.toArray⟩) ∧ w'.cell? ⟨w.heap.size, 5, none⟩ = some (.string ⟨x.table.toArray⟩) ∧ w'.cell? ⟨w.heap.size, 6, none⟩ = some (.string ⟨x.name.toArray⟩) ∧ w'.cell? ⟨w.heap.size, 7, none⟩ = some (.int .i64 x.col) ∧ w'.cell? ⟨w.heap.size, 8, none⟩ = some (.int .i64 x.ty) ∧ w'.cell? ⟨w.heap.size, 9, none⟩ = some (.slice A x.args.length c) ∧ Below wr.heap.size wr w')) := Asd.mk fun w' hb => ⟨(hb.cell (World.block_lt_of_cell? wr _ x0)).trans x0, (hb.cell (World.block_lt_of_cell? wr _ x1)).trans x1, (hb.cell (World.block_lt_of_cell? wr _ x2)).trans x2, (hb.cell (World.block_lt_of_cell? wr _ x3)).trans x3, (hb.cell (World.block_lt_of_cell? wr _ x4)).trans x4, (hb.cell (World.block_lt_of_cell? wr _ x5)).trans x5, (hb.cell (World.block_lt_of_cell? wr _ x6)).trans x6, (hb.cell (World.block_lt_of_cell? wr _ x7)).trans x7, (hb.cell (World.block_lt_of_cell? wr _ x8)).trans x8, (hb.cell (World.block_lt_of_cell? wr _ x9)).trans x9, (hb.cell (World.block_lt_of_cell? wr _ e0)).trans e0, (hb.cell (World.block_lt_of_cell? wr _ e1)).trans e1, (hb.cell (World.block_lt_of_cell? wr _ e2)).trans e2, (hb.cell (World.block_lt_of_cell? wr _ e3)).trans e3, (hb.cell (World.block_lt_of_cell? wr _ e4)).trans e4, (hb.cell (World.block_lt_of_cell? wr _ e5)).trans e5, (hb.cell (World.block_lt_of_cell? wr _ e6)).trans e6, (hb.cell (World.block_lt_of_cell? wr _ e7)).trans e7, (hb.cell (World.block_lt_of_cell? wr _ e8)).trans e8, (hb.cell (World.block_lt_of_cell? wr _ e9)).trans e9, hb⟩
      have HK0 := Asd.mk k0
      have HK1 := Asd.mk k1
      have HK2 := Asd.mk k2
      go_upto_region 4 with fail
      clear x0 x1 x2 x3 x4 x5 x6 x7 x8 x9 e0 e1 e2 e3 e4 e5 e6 e7 e8 e9 k0 k1 k2 z0 z1 z2 y0 y1 y2
      go_region_held3 (fun w' => w'.cell? ⟨g, o + kk * 13, none⟩ = some (.int .i64 q.1.kind) ∧ w'.cell? ⟨g, o + kk * 13 + 1, none⟩ = some (.int .i64 q.1.op) ∧ w'.cell? ⟨g, o + kk * 13 + 2, none⟩ = some (.int .i64 q.1.v.kind) ∧ w'.cell? ⟨g, o + kk * 13 + 3, none⟩ = some (.int .i64 q.1.v.int) ∧ w'.cell? ⟨g, o + kk * 13 + 4, none⟩ = some (.string ⟨q.1.v.text.toArray⟩) ∧ w'.cell? ⟨g, o + kk * 13 + 5, none⟩ = some (.string ⟨q.1.table.toArray⟩) ∧ w'.cell? ⟨g, o + kk * 13 + 6, none⟩ = some (.string ⟨q.1.name.toArray⟩) ∧ w'.cell? ⟨g, o + kk * 13 + 7, none⟩ = some (.int .i64 q.1.col) ∧ w'.cell? ⟨g, o + kk * 13 + 8, none⟩ = some (.int .i64 q.1.ty) ∧ w'.cell? ⟨g, o + kk * 13 + 9, none⟩ = some (.slice A1 n1 c1) ∧ w'.cell? ⟨w.heap.size, 0, none⟩ = some (.int .i64 x.kind) ∧ w'.cell? ⟨w.heap.size, 1, none⟩ = some (.int .i64 x.op) ∧ w'.cell? ⟨w.heap.size, 2, none⟩ = some (.int .i64 x.v.kind) ∧ w'.cell? ⟨w.heap.size, 3, none⟩ = some (.int .i64 x.v.int) ∧ w'.cell? ⟨w.heap.size, 4, none⟩ = some (.string ⟨x.v.text.toArray⟩) ∧ w'.cell? ⟨w.heap.size, 5, none⟩ = some (.string ⟨x.table.toArray⟩) ∧ w'.cell? ⟨w.heap.size, 6, none⟩ = some (.string ⟨x.name.toArray⟩) ∧ w'.cell? ⟨w.heap.size, 7, none⟩ = some (.int .i64 x.col) ∧ w'.cell? ⟨w.heap.size, 8, none⟩ = some (.int .i64 x.ty) ∧ w'.cell? ⟨w.heap.size, 9, none⟩ = some (.slice A x.args.length c) ∧ Below wr.heap.size wr w')
        (first
          | exact HCC.out _ (Below.refl _ _)
          | exact HCC.out _ (Below.refl _ _).drew
          | exact HCC.out _ HB5.out
          | (go_split_ands; exact HCC.out _ (by assumption))
          | fail)
        (first
          | (go_at_call 12
             refine (HS.out _ (Below.refl _ wr).drew).mono ?_
             rintro e w5 ⟨rfl, hb5⟩
             have HB5 : Asd (Below wr.heap.size wr w5) := Asd.mk ((Below.refl wr.heap.size wr).drew.trans (hb5.mono (Below.refl wr.heap.size wr).drew.size))
             have HZ5 := Asd.mk (blk_below hb5 (drewb HZ2.out)))
          | fail)
      have HBQ5 : Asd (Below w1.heap.size w1 w5) := Asd.mk (below_step HBQ.out HB5.out)
      have HBT5 : Asd (Below w.heap.size w w5) := Asd.mk (below_step HB2.out HB5.out)
      cases hs : sameE q.1 x with
      | true =>
        have HF := Asd.mk (HYES.out hs)
        have k0 := (HB5.out.cell (World.block_lt_of_cell? wr _ HK0.out)).trans HK0.out
        have k1 := (HB5.out.cell (World.block_lt_of_cell? wr _ HK1.out)).trans HK1.out
        have k2 := (HB5.out.cell (World.block_lt_of_cell? wr _ HK2.out)).trans HK2.out
        obtain ⟨⟨z0, z1, z2⟩, y0, y1, y2⟩ := zero_cells HZ5.out
        clear hs
        go_wp2
        refine val_ret2 rfl (w.heap.size + 1) _ _ _ rfl (put3_blk HZ5.out _ _ _) rfl ?_
        exact ev2_ok HF.out (below_put3 HBT5.out (by omega) _ _ _)
      | false =>
        have HN := Asd.mk (HNO.out hs)
        clear hs
        go_wp2
        go_roundw
        case rel => exact ⟨kk + 1, by omega, by go_num, HBQ5, HN⟩
        case measure => simp [intOf]; omega
    · have HNK : Asd (knownV ks x = none) := Asd.mk (by rw [HQ.out, List.drop_of_length_le (by rw [HKN.out]; omega)]; rfl)
      rw [HNK.out] at HEV
      obtain rfl : kk = kn := by omega
      clear HQ HNK hlt hkk0
      have w2e : ∃ w2, w2 = wr := ⟨wr, rfl⟩
      obtain ⟨w2, hw2⟩ := w2e
      subst hw2
      obtain ⟨e0, e1, e2, e3, e4, e5, e6, e7, e8, e9⟩ := ex_cells (x := x) HX2.out
      go_wp2_with fail
      refine (rempty_calls x (rvX_v HRX.out) HLX.out A c _).mono ?_
      rintro e w3 ⟨rfl, hb3⟩
      have HB3 : Asd (Below w.heap.size w w3) := Asd.mk (HB2.out.trans (hb3.mono HB2.out.size))
      have HX3 := Asd.mk (blk_below hb3 HX2.out)
      have HZ3 := Asd.mk (blk_below hb3 HZ2.out)
      have HSZ3 : Asd (w.heap.size + 2 ≤ w3.heap.size) := Asd.mk (Nat.le_trans HSZ2.out hb3.size)
      clear e0 e1 e2 e3 e4 e5 e6 e7 e8 e9 z0 z1 z2 y0 y1 y2 hb3 HX2 HZ2 HSZ2 HB2 HEN2 HH2
      obtain ⟨e0, e1, e2, e3, e4, e5, e6, e7, e8, e9⟩ := ex_cells (x := x) HX3.out
      obtain ⟨⟨z0, z1, z2⟩, y0, y1, y2⟩ := zero_cells HZ3.out
      cases hem : emptyE x with
      | true =>
        have HR := Asd.mk (HEV.out.trans (one_empty hem))
        clear hem
        go_wp2
        refine val_ret2 rfl (w.heap.size + 1) _ _ _ rfl (put3_blk HZ3.out _ _ _) rfl ?_
        exact ev2_err HR.out (below_put3 HB3.out (by omega) _ _ _)
      | false =>
        have HEM := Asd.mk hem
        clear hem
        by_cases hk1 : x.kind = 1
        · have HR := Asd.mk (HEV.out.trans (one_lit HEM.out hk1))
          have hk1' : (x.kind == 1) = true := by rw [hk1]; rfl
          clear hk1
          go_wp2
          refine val_ret2 rfl (w.heap.size + 1) _ _ _ rfl (put3_blk HZ3.out _ _ _) rfl ?_
          exact ev2_ok HR.out (below_put3 HB3.out (by omega) _ _ _)
        have hk1' : (x.kind == 1) = false := by simpa using hk1
        by_cases hk6 : x.kind = 6
        · have HR := Asd.mk (HEV.out.trans (one_agg HEM.out hk6))
          have hk6' : (x.kind == 6) = true := by rw [hk6]; rfl
          have hk2' : (x.kind == 2) = false := by rw [hk6]; rfl
          clear hk6 hk1
          go_wp2
          refine val_ret2 rfl (w.heap.size + 1) _ _ _ rfl (put3_blk HZ3.out _ _ _) rfl ?_
          exact ev2_err HR.out (below_put3 HB3.out (by omega) _ _ _)
        have hk6' : (x.kind == 6) = false := by simpa using hk6
        by_cases hk2 : x.kind = 2
        · have HR := Asd.mk (HEV.out.trans (one_col HEM.out hk2))
          have hk2' : (x.kind == 2) = true := by rw [hk2]; rfl
          clear hk1 hk6 hk2
          have hrl := HEN.out.rlen
          by_cases hc0 : x.col < 0
          · have HR2 : Asd (evE row ks x = .error 2) := Asd.mk (by rw [HR.out]; unfold colV; rw [if_pos hc0])
            go_wp2
            refine val_ret2 rfl (w.heap.size + 1) _ _ _ rfl (put3_blk HZ3.out _ _ _) rfl ?_
            exact ev2_err HR2.out (below_put3 HB3.out (by omega) _ _ _)
          · by_cases hcr : (row.length : Int) ≤ x.col
            · have HR2 : Asd (evE row ks x = .error 2) := Asd.mk (by rw [HR.out]; unfold colV; rw [if_neg hc0, List.getElem?_eq_none (by omega)])
              go_wp2
              refine val_ret2 rfl (w.heap.size + 1) _ _ _ rfl (put3_blk HZ3.out _ _ _) rfl ?_
              exact ev2_err HR2.out (below_put3 HB3.out (by omega) _ _ _)
            · obtain ⟨j, hj⟩ := Int.eq_ofNat_of_zero_le (show 0 ≤ x.col by omega)
              have hjl : j < row.length := by omega
              obtain ⟨g, o, rfl, hv⟩ := (HEN.out.below HB3.out).vals (by omega)
              obtain ⟨r0, r1, r2⟩ := hv j hjl
              have HR2 : Asd (evE row ks x = .ok row[j]) := Asd.mk (by rw [HR.out]; exact colV_at hj hjl)
              generalize row[j] = u at r0 r1 r2 HR2
              rw [hj] at e7
              have hj0 : (0 : Int) ≤ (j : Int) := by omega
              clear hv hc0 hcr hj
              go_wp2
              refine val_ret2 rfl (w.heap.size + 1) _ _ _ rfl (put3_blk HZ3.out _ _ _) rfl ?_
              exact ev2_ok HR2.out (below_put3 HB3.out (by omega) _ _ _)
        have hk2' : (x.kind == 2) = false := by simpa using hk2
        have HR := Asd.mk (HEV.out.trans (one_rest HEM.out hk1 hk6 hk2))
        have HSH := Asd.mk (shape_of HEM.out hk1 hk6 hk2)
        clear hk1 hk6 hk2
        have hn3 : x.args.length ≤ 3 := by
          rcases HSH.out with ⟨_, _, h⟩ | ⟨_, _, h⟩ | ⟨_, _, _, h⟩ | ⟨_, _, _, h⟩
          · omega
          · omega
          · rw [h]; unfold opn; split
            · omega
            · split <;> omega
          · omega
        have HNX : Asd (x.args.length = x.args.length) := Asd.mk rfl
        generalize hm : x.args.length = m at e9 hn3 HNX ⊢
        have HM := Asd.mk hm
        clear hm HNX z0 z1 z2 y0 y1 y2
        have HB0 := HB3
        go_wp2
        go_loopw [10, 9] (fun i l wr => ∃ (k : Nat) (vs : List Vl) (A' : Option Addr) (c' : Nat), k ≤ m ∧ i = .int .i64 (k : Int) ∧ l = .slice A' k c' ∧ Asd (vs.length = k) ∧ Asd (∀ v ∈ vs, RV v) ∧ Asd (wr.ownsRow w3.heap.size 23 3 (.slice A' k c') k (valsC vs)) ∧ Asd (Below w.heap.size w wr) ∧ Asd (Below w3.heap.size w3 wr) ∧ Asd (evL row ks x.kind x.op true x.args = EvL.pre vs (evL row ks x.kind x.op (k == 0) (x.args.drop k)))) (fun i _ _ => m - (intOf i).toNat)
        case atStart => exact ⟨0, [], none, 0, by omega, rfl, rfl, ⟨rfl⟩, ⟨fun v hv => by cases hv⟩, ⟨World.ownsRow_nil _ _ _ _⟩, ⟨HB0.out⟩, ⟨Below.refl _ _⟩, ⟨rfl⟩⟩
        case round =>
          obtain ⟨k, vs, A', c', hk, rfl, rfl, HVL, HVR, HOW, HBR, HBR3, HEL⟩ := hrel
          clear e0 e1 e2 e3 e4 e5 e6 e7 e8 e9
          have HXR := Asd.mk (blk_below HBR3.out HX3.out)
          have HZR := Asd.mk (blk_below HBR3.out HZ3.out)
          have HSZR : Asd (w.heap.size + 2 ≤ wr.heap.size) := Asd.mk (Nat.le_trans HSZ3.out HBR3.out.size)
          by_cases hlt : k < m
          · have hkx : k < x.args.length := by rw [HM.out]; exact hlt
            obtain ⟨g, o, A1, n1, c1, he1, hr1, hh1⟩ := held_at (held_below HH.out HBR.out) k hkx
            subst he1
            obtain ⟨A1', c1', he2⟩ := held_len hh1
            have hn1 : n1 = x.args[k].args.length := by
              injection he2
            subst hn1
            clear he2
            have HSK := Asd.mk (HSUB.out k hkx)
            have HRK := Asd.mk (evE_rv HEN.out.rrv HEN.out.krv x.args[k] (rvXL_mem (rvX_args HRX.out) _ (List.getElem_mem hkx)))
            have HD : Asd (x.args.drop k = x.args[k] :: x.args.drop (k + 1)) := Asd.mk (List.drop_eq_getElem_cons hkx)
            rw [HD.out] at HEL
            generalize x.args[k] = a at hr1 hh1 HSK HRK HEL
            have HHA := Asd.mk hh1
            clear HD hkx
            have hgl := World.block_lt_of_cell? wr _ (hr1 0 (by omega))
            have hk0 : (0 : Int) ≤ (k : Int) := by omega
            have x0 : wr.cell? ⟨g, o + k * 10, none⟩ = some (.int .i64 a.kind) := hr1 0 (by omega)
            have x1 : wr.cell? ⟨g, o + k * 10 + 1, none⟩ = some (.int .i64 a.op) := hr1 1 (by omega)
            have x2 : wr.cell? ⟨g, o + k * 10 + 2, none⟩ = some (.int .i64 a.v.kind) := hr1 2 (by omega)
            have x3 : wr.cell? ⟨g, o + k * 10 + 3, none⟩ = some (.int .i64 a.v.int) := hr1 3 (by omega)
            have x4 : wr.cell? ⟨g, o + k * 10 + 4, none⟩ = some (.string ⟨a.v.text.toArray⟩) := hr1 4 (by omega)
            have x5 : wr.cell? ⟨g, o + k * 10 + 5, none⟩ = some (.string ⟨a.table.toArray⟩) := hr1 5 (by omega)
            have x6 : wr.cell? ⟨g, o + k * 10 + 6, none⟩ = some (.string ⟨a.name.toArray⟩) := hr1 6 (by omega)
            have x7 : wr.cell? ⟨g, o + k * 10 + 7, none⟩ = some (.int .i64 a.col) := hr1 7 (by omega)
            have x8 : wr.cell? ⟨g, o + k * 10 + 8, none⟩ = some (.int .i64 a.ty) := hr1 8 (by omega)
            have x9 : wr.cell? ⟨g, o + k * 10 + 9, none⟩ = some (.slice A1 a.args.length c1) := hr1 9 (by omega)
            clear hr1 hh1
            obtain ⟨e0, e1, e2, e3, e4, e5, e6, e7, e8, e9⟩ := ex_cells (x := x) HXR.out
            rw [HM.out] at e9
            have HSKK := Asd.mk (HSK.out P Q A1 RA KA c1 rc kc wr (HEN.out.below HBR.out) HHA.out)
            rw [HKN.out] at HSKK
            unfold exV at HSKK
            go_wp2_with fail
            refine HSKK.out.mono ?_
            rintro e w5 ⟨hb5, rfl⟩
            have HBR5 : Asd (Below wr.heap.size wr w5) := Asd.mk hb5
            have HB5 : Asd (Below w.heap.size w w5) := Asd.mk (HBR.out.trans (HBR5.out.mono HBR.out.size))
            clear e0 e1 e2 e3 e4 e5 e6 e7 e8 e9 x0 x1 x2 x3 x4 x5 x6 x7 x8 x9 hb5 HHA HSK
            have HZ5 := Asd.mk (blk_below HBR5.out HZR.out)
            have HX5 := Asd.mk (blk_below HBR5.out HXR.out)
            cases hr : evE row ks a with
            | error f =>
              have hfn : (f != 0) = true := by rw [bne_iff_ne]; exact evE_nz row ks a f hr
              have HF : Asd (evE row ks x = .error f) := Asd.mk (by rw [HR.out, HEL.out, evL_err hr, pre_err]; rfl)
              clear hr
              simp only [vC, vNull]
              have HZ6 := Asd.mk (blk_alloc HZ5.out zeroV)
              have HB6 : Asd (Below w.heap.size w (w5.alloc zeroV)) := Asd.mk (below_alloc HB5.out _)
              go_upto_region 22 with fail
              generalize w5.alloc _ = w6 at HZ6 HB6 ⊢
              obtain ⟨⟨z0, z1, z2⟩, y0, y1, y2⟩ := zero_cells HZ6.out
              go_wp2
              refine val_ret2 rfl (w.heap.size + 1) _ _ _ rfl (put3_blk HZ6.out _ _ _) rfl ?_
              exact ev2_err HF.out (below_put3 HB6.out (by omega) _ _ _)
            | ok v =>
              have HEQ := Asd.mk hr
              have HRV5 := Asd.mk (HRK.out v hr)
              clear hr
              simp only [vC]
              have HZ6 := Asd.mk (blk_alloc HZ5.out (vK v))
              have HX6 := Asd.mk (blk_alloc HX5.out (vK v))
              have HV6 := Asd.mk (blk_new w5 (vK v))
              have HB56 : Asd (Below w5.heap.size w5 (w5.alloc (vK v))) := Asd.mk (below_alloc (Below.refl _ _) _)
              go_upto_region 22 with fail
              generalize w5.alloc _ = w6 at HZ6 HX6 HV6 HB56 ⊢
              generalize w5.heap.size = b12 at HV6 ⊢
              have HBR6 : Asd (Below wr.heap.size wr w6) := Asd.mk (HBR5.out.trans (HB56.out.mono HBR5.out.size))
              obtain ⟨v0, v1, v2⟩ := val_cells HV6.out
              obtain ⟨e0, e1, e2, e3, e4, e5, e6, e7, e8, e9⟩ := ex_cells (x := x) HX6.out
              rw [HM.out] at e9
              obtain ⟨⟨z0, z1, z2⟩, y0, y1, y2⟩ := zero_cells HZ6.out
              cases hkz : (k == 0) with
              | true =>
                have hkI : ((k : Int) == 0) = true := by rw [beq_iff_eq] at hkz ⊢; omega
                have HVN : Asd (vs = []) := Asd.mk (List.length_eq_zero_iff.mp (by rw [HVL.out]; exact beq_iff_eq.mp hkz))
                rw [hkz] at HEL
                go_wp2_with fail
                refine (rdecided_calls x _ v _).mono ?_
                rintro e w7 ⟨rfl, hb7⟩
                have HB7 : Asd (Below wr.heap.size wr w7) := Asd.mk (HBR6.out.trans (hb7.mono HBR6.out.size))
                have HZ7 := Asd.mk (blk_below hb7 HZ6.out)
                have HV7 := Asd.mk (blk_below hb7 HV6.out)
                clear e0 e1 e2 e3 e4 e5 e6 e7 e8 e9 z0 z1 z2 y0 y1 y2 v0 v1 v2 hb7
                obtain ⟨v0, v1, v2⟩ := val_cells HV7.out
                obtain ⟨⟨z0, z1, z2⟩, y0, y1, y2⟩ := zero_cells HZ7.out
                have HBT : Asd (Below w.heap.size w w7) := Asd.mk (HBR.out.trans (HB7.out.mono HBR.out.size))
                cases hd : decP x.kind x.op v with
                | true =>
                  have HF : Asd (evE row ks x = .ok v) := Asd.mk (by rw [HR.out, HEL.out, evL_dec HEQ.out (by rw [hd]; rfl), HVN.out]; rfl)
                  clear hd
                  go_wp2
                  refine val_ret2 rfl (w.heap.size + 1) _ _ _ rfl (put3_blk HZ7.out _ _ _) rfl ?_
                  exact ev2_ok HF.out (below_put3 HBT.out (by omega) _ _ _)
                | false =>
                  have HEL8 : Asd (evL row ks x.kind x.op true x.args = EvL.pre (vs ++ [v]) (evL row ks x.kind x.op (k + 1 == 0) (x.args.drop (k + 1)))) := Asd.mk (by rw [HEL.out, evL_go HEQ.out (by rw [hd]; rfl), pre_snoc]; rfl)
                  clear hd
                  have HBW := HB7
                  have HB3T : Asd (Below w3.heap.size w3 w7) := Asd.mk (HBR3.out.trans (HB7.out.mono HBR3.out.size))
                  have HSW : Asd (w3.heap.size ≤ w7.heap.size) := Asd.mk HB3T.out.size
                  have HOWN : Asd ((w7.alloc (.cells #[.int .i64 v.kind, .int .i64 v.int, .string ⟨v.text.toArray⟩] 23 (0, 0))).ownsRow w3.heap.size 23 3 (.slice A' k c') k (valsC vs)) := Asd.mk (own_keep HOW.out (below_alloc HBW.out _))
                  go_wp2_with (at_builtin; refine wpList_append_own _ rfl (.tmp 91) (.tmp 93) 27 rfl w3.heap.size 23 i0 (.agg #[.int .i64 0, .int .i64 0, .string ⟨#[]⟩]) 3 32 Try.underlying27 hi0 hz0 hz1 hz2 rfl (by decide) _ _ _ rfl HOWN.out ⟨w7.heap.size, 0, none⟩ 1 1 [.int .i64 v.kind, .int .i64 v.int, .string ⟨v.text.toArray⟩] rfl rfl ?c0 ?c00 ?c1 ?c2 ?c3 ?_)
                  case c0 => exact World.news_of_block (blk_new w7 (.cells #[.int .i64 v.kind, .int .i64 v.int, .string ⟨v.text.toArray⟩] 23 (0, 0)))
                  case c00 =>
                    intro u hu
                    simp only [List.mem_cons, List.not_mem_nil, or_false] at hu
                    rcases hu with rfl | rfl | rfl <;> rfl
                  case c1 => unfold maxLen; omega
                  case c2 => omega
                  case c3 => have := HSW.out; simp; omega
                  · intro v' w8 hown' hgr _
                    have HO8 : Asd (w8.ownsRow w3.heap.size 23 3 v' (k + 1) (valsC (vs ++ [v]))) := Asd.mk (by rw [valsC_snoc]; exact hown')
                    have HB8 : Asd (Below w.heap.size w w8) := Asd.mk (below_own (below_alloc HBT.out _) HOWN.out hgr (by have := HSZ3.out; omega))
                    have HB83 : Asd (Below w3.heap.size w3 w8) := Asd.mk (below_own (below_alloc HB3T.out _) HOWN.out hgr (Nat.le_refl _))
                    obtain ⟨A8, c8, rfl⟩ := own_form HO8.out
                    clear hown' hgr
                    go_wp2
                    go_roundw
                    case rel => exact ⟨k + 1, vs ++ [v], A8, c8, by omega, by go_num, rfl, ⟨by rw [List.length_append, HVL.out]; rfl⟩, ⟨fun u hu => by
                      rcases List.mem_append.mp hu with hu | hu
                      · exact HVR.out u hu
                      · rw [List.mem_singleton] at hu; rw [hu]; exact HRV5.out⟩, HO8, HB8, HB83, HEL8⟩
                    case measure => simp [intOf]; omega
              | false =>
                have hkI : ((k : Int) == 0) = false := by rw [beq_eq_false_iff_ne] at hkz ⊢; omega
                rw [hkz] at HEL
                have HEL8 : Asd (evL row ks x.kind x.op true x.args = EvL.pre (vs ++ [v]) (evL row ks x.kind x.op (k + 1 == 0) (x.args.drop (k + 1)))) := Asd.mk (by rw [HEL.out, evL_go HEQ.out rfl, pre_snoc]; rfl)
                have HBT : Asd (Below w.heap.size w w6) := Asd.mk (HBR.out.trans (HBR6.out.mono HBR.out.size))
                have HBW := HBR6
                have HB3T : Asd (Below w3.heap.size w3 w6) := Asd.mk (HBR3.out.trans (HBR6.out.mono HBR3.out.size))
                have HSW : Asd (w3.heap.size ≤ w6.heap.size) := Asd.mk HB3T.out.size
                have HOWN : Asd ((w6.alloc (.cells #[.int .i64 v.kind, .int .i64 v.int, .string ⟨v.text.toArray⟩] 23 (0, 0))).ownsRow w3.heap.size 23 3 (.slice A' k c') k (valsC vs)) := Asd.mk (own_keep HOW.out (below_alloc HBW.out _))
                go_wp2_with (at_builtin; refine wpList_append_own _ rfl (.tmp 91) (.tmp 93) 27 rfl w3.heap.size 23 i0 (.agg #[.int .i64 0, .int .i64 0, .string ⟨#[]⟩]) 3 32 Try.underlying27 hi0 hz0 hz1 hz2 rfl (by decide) _ _ _ rfl HOWN.out ⟨w6.heap.size, 0, none⟩ 1 1 [.int .i64 v.kind, .int .i64 v.int, .string ⟨v.text.toArray⟩] rfl rfl ?c0 ?c00 ?c1 ?c2 ?c3 ?_)
                case c0 => exact World.news_of_block (blk_new w6 (.cells #[.int .i64 v.kind, .int .i64 v.int, .string ⟨v.text.toArray⟩] 23 (0, 0)))
                case c00 =>
                  intro u hu
                  simp only [List.mem_cons, List.not_mem_nil, or_false] at hu
                  rcases hu with rfl | rfl | rfl <;> rfl
                case c1 => unfold maxLen; omega
                case c2 => omega
                case c3 => have := HSW.out; simp; omega
                · intro v' w8 hown' hgr _
                  have HO8 : Asd (w8.ownsRow w3.heap.size 23 3 v' (k + 1) (valsC (vs ++ [v]))) := Asd.mk (by rw [valsC_snoc]; exact hown')
                  have HB8 : Asd (Below w.heap.size w w8) := Asd.mk (below_own (below_alloc HBT.out _) HOWN.out hgr (by have := HSZ3.out; omega))
                  have HB83 : Asd (Below w3.heap.size w3 w8) := Asd.mk (below_own (below_alloc HB3T.out _) HOWN.out hgr (Nat.le_refl _))
                  obtain ⟨A8, c8, rfl⟩ := own_form HO8.out
                  clear hown' hgr
                  go_wp2
                  go_roundw
                  case rel => exact ⟨k + 1, vs ++ [v], A8, c8, by omega, by go_num, rfl, ⟨by rw [List.length_append, HVL.out]; rfl⟩, ⟨fun u hu => by
                    rcases List.mem_append.mp hu with hu | hu
                    · exact HVR.out u hu
                    · rw [List.mem_singleton] at hu; rw [hu]; exact HRV5.out⟩, HO8, HB8, HB83, HEL8⟩
                  case measure => simp [intOf]; omega
          · obtain rfl : k = m := by omega
            have HDN : Asd (x.args.drop k = []) := Asd.mk (List.drop_of_length_le (Nat.le_of_eq HM.out))
            have HF : Asd (evE row ks x = finP x.kind x.op vs) := Asd.mk (by rw [HR.out, HEL.out, HDN.out, evL, pre_all]; rfl)
            have HVS := Asd.mk (own_vals HOW.out HVL.out.symm)
            obtain ⟨e0, e1, e2, e3, e4, e5, e6, e7, e8, e9⟩ := ex_cells (x := x) HXR.out
            rw [HM.out] at e9
            clear HEL HDN HSUB e2 e3 e4 e5 e6 e7 e8 HVS
            rcases HSH.out with ⟨hk, ho, hl⟩ | ⟨hk, ho, hl⟩ | ⟨hk, ho1, ho6, hl⟩ | ⟨hk, ho3, ho16, hl⟩
            · -- a sign
              have hl1 : vs.length = 1 := by rw [HVL.out, ← HM.out]; exact hl
              obtain ⟨v, rfl⟩ := List.length_eq_one_iff.mp hl1
              obtain ⟨g, rfl, hgB, hv⟩ := own_at HOW.out HVL.out.symm (by simp)
              have hgz : Asd (¬ g = w.heap.size + 1) := Asd.mk (by have := HSZ3.out; omega)
              have hpz : Asd (¬ w.heap.size = w.heap.size + 1) := Asd.mk (by omega)
              obtain ⟨v0, v1, v2⟩ := hv 0 (by simp)
              simp only [List.getElem_cons_zero, Nat.zero_mul, Nat.zero_add] at v0 v1 v2
              have HV0 := Asd.mk v0
              have HV1 := Asd.mk v1
              have HV2 := Asd.mk v2
              have HE1 := Asd.mk e1
              have hkk : k = 1 := by rw [← HVL.out]; rfl
              have HF : Asd (evE row ks x = unP x.op v) := Asd.mk (HF.out.trans (finP_un hk))
              have HCU := Asd.mk (fun W => (runary_calls x.op ho (HVR.out v (by simp)) W).mono fun e w' h => ev2_form h)
              generalize hu : resVal (unP x.op v) = u at HCU
              generalize hn : resNum (unP x.op v) = n at HCU
              have HU := Asd.mk hu
              have HN := Asd.mk hn
              clear hu hn
              have hk3 : (x.kind == 3) = true := by rw [hk]; rfl
              have hk4 : (x.kind == 4) = false := by rw [hk]; rfl
              have hk7 : (x.kind == 7) = false := by rw [hk]; rfl
              clear hk hl hl1 ho hv hlt
              subst hkk
              have HS : Asd (∀ w', Fr (fun k => k = w.heap.size + 1) wr w' → w'.cell? ⟨w.heap.size, 1, none⟩ = some (.int .i64 x.op) ∧ w'.cell? ⟨g, 0, none⟩ = some (.int .i64 v.kind) ∧ w'.cell? ⟨g, 1, none⟩ = some (.int .i64 v.int) ∧ w'.cell? ⟨g, 2, none⟩ = some (.string ⟨v.text.toArray⟩) ∧ Fr (fun k => k = w.heap.size + 1) wr w') := Asd.mk fun w' hf => ⟨cell_frS hf hpz.out HE1.out, cell_frS hf hgz.out HV0.out, cell_frS hf hgz.out HV1.out, cell_frS hf hgz.out HV2.out, hf⟩
              go_upto_region 29 with fail
              clear e0 e1 e9 v0 v1 v2
              go_region_held3 (fun w' => w'.cell? ⟨w.heap.size, 1, none⟩ = some (.int .i64 x.op) ∧ w'.cell? ⟨g, 0, none⟩ = some (.int .i64 v.kind) ∧ w'.cell? ⟨g, 1, none⟩ = some (.int .i64 v.int) ∧ w'.cell? ⟨g, 2, none⟩ = some (.string ⟨v.text.toArray⟩) ∧ Fr (fun k => k = w.heap.size + 1) wr w')
                (first
                  | exact HS.out _ (Fr.refl _ _)
                  | exact HS.out _ (Fr.refl _ _).drew
                  | exact HS.out _ HF5.out
                  | exact HS.out _ (Fr.setCell (Fr.setCell (Fr.setCell HF5.out (p := ⟨w.heap.size + 1, 0, none⟩) rfl _) (p := ⟨w.heap.size + 1, 1, none⟩) rfl _) (p := ⟨w.heap.size + 1, 2, none⟩) rfl _)
                  | (go_split_ands; exact HS.out _ (by assumption))
                  | fail)
                (first
                  | (go_at_call 29
                     refine (HCU.out _).mono ?_
                     rintro e w5 ⟨rfl, hb5⟩
                     have HF5 : Asd (Fr (fun k => k = w.heap.size + 1) wr w5) := Asd.mk ((Fr.refl _ wr).drew.trans (Fr.of_below hb5) (fun _ h _ => h) (fun _ h _ => h))
                     have HZ5 := Asd.mk (blk_below hb5 (drewb HZR.out))
                     have HB5 : Asd (Below w.heap.size w w5) := Asd.mk (HBR.out.drew.trans (hb5.mono HBR.out.drew.size))
                     obtain ⟨⟨z0, z1, z2⟩, y0, y1, y2⟩ := zero_cells HZ5.out
                     unfold vC)
                  | fail)
              go_wp2
              refine val_ret2 rfl (w.heap.size + 1) _ _ _ rfl (put3_blk HZ5.out _ _ _) rfl ?_
              exact ev2_of HF.out HU.out HN.out (below_put3 HB5.out (by omega) _ _ _)
            · -- a look for NULL
              have hl1 : vs.length = 1 := by rw [HVL.out, ← HM.out]; exact hl
              obtain ⟨v, rfl⟩ := List.length_eq_one_iff.mp hl1
              obtain ⟨g, rfl, hgB, hv⟩ := own_at HOW.out HVL.out.symm (by simp)
              have hgz : Asd (¬ g = w.heap.size + 1) := Asd.mk (by have := HSZ3.out; omega)
              have hpz : Asd (¬ w.heap.size = w.heap.size + 1) := Asd.mk (by omega)
              obtain ⟨v0, v1, v2⟩ := hv 0 (by simp)
              simp only [List.getElem_cons_zero, Nat.zero_mul, Nat.zero_add] at v0 v1 v2
              have HV0 := Asd.mk v0
              have HV1 := Asd.mk v1
              have HV2 := Asd.mk v2
              have HE1 := Asd.mk e1
              have hkk : k = 1 := by rw [← HVL.out]; rfl
              have HF : Asd (evE row ks x = .ok (vTru ((v.kind == 0) == (x.op == 0)))) := Asd.mk (HF.out.trans (finP_is hk))
              have hk3 : (x.kind == 3) = false := by rw [hk]; rfl
              have hk4 : (x.kind == 4) = false := by rw [hk]; rfl
              have hk7 : (x.kind == 7) = true := by rw [hk]; rfl
              clear hk hl hl1 ho hv hlt
              subst hkk
              have HS : Asd (∀ w', Fr (fun k => k = w.heap.size + 1) wr w' → w'.cell? ⟨w.heap.size, 1, none⟩ = some (.int .i64 x.op) ∧ w'.cell? ⟨g, 0, none⟩ = some (.int .i64 v.kind) ∧ w'.cell? ⟨g, 1, none⟩ = some (.int .i64 v.int) ∧ w'.cell? ⟨g, 2, none⟩ = some (.string ⟨v.text.toArray⟩) ∧ Fr (fun k => k = w.heap.size + 1) wr w') := Asd.mk fun w' hf => ⟨cell_frS hf hpz.out HE1.out, cell_frS hf hgz.out HV0.out, cell_frS hf hgz.out HV1.out, cell_frS hf hgz.out HV2.out, hf⟩
              go_upto_region 33 with fail
              clear e0 e1 e9 v0 v1 v2
              go_region_held3 (fun w' => w'.cell? ⟨w.heap.size, 1, none⟩ = some (.int .i64 x.op) ∧ w'.cell? ⟨g, 0, none⟩ = some (.int .i64 v.kind) ∧ w'.cell? ⟨g, 1, none⟩ = some (.int .i64 v.int) ∧ w'.cell? ⟨g, 2, none⟩ = some (.string ⟨v.text.toArray⟩) ∧ Fr (fun k => k = w.heap.size + 1) wr w')
                (first
                  | exact HS.out _ (Fr.refl _ _)
                  | exact HS.out _ (Fr.refl _ _).drew
                  | exact HS.out _ HF5.out
                  | exact HS.out _ (Fr.setCell (Fr.setCell (Fr.setCell HF5.out (p := ⟨w.heap.size + 1, 0, none⟩) rfl _) (p := ⟨w.heap.size + 1, 1, none⟩) rfl _) (p := ⟨w.heap.size + 1, 2, none⟩) rfl _)
                  | (go_split_ands; exact HS.out _ (by assumption))
                  | fail)
                (first
                  | (go_at_call 31
                     refine (rtruth_calls ((v.kind == 0) == (x.op == 0)) _).mono ?_
                     rintro e w5 ⟨rfl, hb5⟩
                     have HF5 : Asd (Fr (fun k => k = w.heap.size + 1) wr w5) := Asd.mk ((Fr.refl _ wr).drew.trans (Fr.of_below hb5) (fun _ h _ => h) (fun _ h _ => h))
                     have HZ5 := Asd.mk (blk_below hb5 (drewb HZR.out))
                     have HB5 : Asd (Below w.heap.size w w5) := Asd.mk (HBR.out.drew.trans (hb5.mono HBR.out.drew.size))
                     obtain ⟨⟨z0, z1, z2⟩, y0, y1, y2⟩ := zero_cells HZ5.out
                     unfold vC)
                  | fail)
              go_wp2
              refine val_ret2 rfl (w.heap.size + 1) _ _ _ rfl (put3_blk HZ5.out _ _ _) rfl ?_
              exact ev2_ok HF.out (below_put3 HB5.out (by omega) _ _ _)
            · -- a call
              by_cases h6 : x.op = 6
              · -- coalesce
                have hl : x.args.length = 2 := by rw [hl, h6]; rfl
                have hl2 : vs.length = 2 := by rw [HVL.out, ← HM.out]; exact hl
                obtain ⟨v, u, rfl⟩ : ∃ a b, vs = [a, b] := by
                  match vs, hl2 with
                  | [a, b], _ => exact ⟨a, b, rfl⟩
                obtain ⟨g, rfl, hgB, hv⟩ := own_at HOW.out HVL.out.symm (by simp)
                have hgz : Asd (¬ g = w.heap.size + 1) := Asd.mk (by have := HSZ3.out; omega)
                have hpz : Asd (¬ w.heap.size = w.heap.size + 1) := Asd.mk (by omega)
                obtain ⟨v0, v1, v2⟩ := hv 0 (by simp)
                obtain ⟨u0, u1, u2⟩ := hv 1 (by simp)
                simp only [List.getElem_cons_zero, List.getElem_cons_succ, Nat.zero_mul, Nat.one_mul, Nat.zero_add, Nat.reduceAdd] at v0 v1 v2 u0 u1 u2
                have HV0 := Asd.mk v0
                have HV1 := Asd.mk v1
                have HV2 := Asd.mk v2
                have HU0 := Asd.mk u0
                have HU1 := Asd.mk u1
                have HU2 := Asd.mk u2
                have HE1 := Asd.mk e1
                have hkk : k = 2 := by rw [← HVL.out]; rfl
                have HF : Asd (evE row ks x = .ok u) := Asd.mk (HF.out.trans (finP_two hk))
                obtain ⟨⟨z0, z1, z2⟩, y0, y1, y2⟩ := zero_cells HZR.out
                have h6' : (x.op == 6) = true := by rw [h6]; rfl
                have hk3 : (x.kind == 3) = false := by rw [hk]; rfl
                have hk4 : (x.kind == 4) = false := by rw [hk]; rfl
                have hk7 : (x.kind == 7) = false := by rw [hk]; rfl
                clear hk hl hl2 ho1 ho6 hv hlt h6
                subst hkk
                go_wp2
                refine val_ret2 rfl (w.heap.size + 1) _ _ _ rfl (put3_blk HZR.out _ _ _) rfl ?_
                exact ev2_ok HF.out (below_put3 HBR.out (by omega) _ _ _)
              · -- another function
                have hne : x.args.length ≠ 2 := by
                  rw [hl]
                  unfold opn
                  split
                  · omega
                  · split <;> omega
                have HF : Asd (evE row ks x = callV x.op vs) := Asd.mk (HF.out.trans (finP_call hk (by rw [HVL.out, ← HM.out]; exact hne)))
                have HCU := Asd.mk (fun W hv => (rcall_calls x.op vs ho1 (by omega) (by rw [HVL.out, ← HM.out]; exact hl) HVR.out A' c' W hv).mono fun e w' h => ev2_form h)
                rw [HVL.out] at HCU
                generalize hu : resVal (callV x.op vs) = u at HCU
                generalize hn : resNum (callV x.op vs) = n at HCU
                have HU := Asd.mk hu
                have HN := Asd.mk hn
                have HVS := Asd.mk (own_vals HOW.out HVL.out.symm)
                have h6' : (x.op == 6) = false := by simpa using h6
                clear hu hn
                have hk3 : (x.kind == 3) = false := by rw [hk]; rfl
                have hk4 : (x.kind == 4) = false := by rw [hk]; rfl
                have hk7 : (x.kind == 7) = false := by rw [hk]; rfl
                clear hk hl ho1 ho6 hlt h6 hne
                go_wp2_with fail
                refine (HCU.out _ HVS.out).mono ?_
                rintro e w5 ⟨rfl, hb5⟩
                have HZ5 := Asd.mk (blk_below hb5 HZR.out)
                have HB5 : Asd (Below w.heap.size w w5) := Asd.mk (HBR.out.trans (hb5.mono HBR.out.size))
                obtain ⟨⟨z0, z1, z2⟩, y0, y1, y2⟩ := zero_cells HZ5.out
                clear e0 e1 e9 hb5
                unfold vC
                go_wp2
                refine val_ret2 rfl (w.heap.size + 1) _ _ _ rfl (put3_blk HZ5.out _ _ _) rfl ?_
                exact ev2_of HF.out HU.out HN.out (below_put3 HB5.out (by omega) _ _ _)
            · -- two operands
              have hl2 : vs.length = 2 := by rw [HVL.out, ← HM.out]; exact hl
              obtain ⟨v, u, rfl⟩ : ∃ a b, vs = [a, b] := by
                match vs, hl2 with
                | [a, b], _ => exact ⟨a, b, rfl⟩
              obtain ⟨g, rfl, hgB, hv⟩ := own_at HOW.out HVL.out.symm (by simp)
              have hgz : Asd (¬ g = w.heap.size + 1) := Asd.mk (by have := HSZ3.out; omega)
              have hpz : Asd (¬ w.heap.size = w.heap.size + 1) := Asd.mk (by omega)
              obtain ⟨v0, v1, v2⟩ := hv 0 (by simp)
              obtain ⟨u0, u1, u2⟩ := hv 1 (by simp)
              simp only [List.getElem_cons_zero, List.getElem_cons_succ, Nat.zero_mul, Nat.one_mul, Nat.zero_add, Nat.reduceAdd] at v0 v1 v2 u0 u1 u2
              have HV0 := Asd.mk v0
              have HV1 := Asd.mk v1
              have HV2 := Asd.mk v2
              have HU0 := Asd.mk u0
              have HU1 := Asd.mk u1
              have HU2 := Asd.mk u2
              have HE1 := Asd.mk e1
              have hkk : k = 2 := by rw [← HVL.out]; rfl
              have HF : Asd (evE row ks x = binP x.op v u) := Asd.mk (HF.out.trans (finP_bin hk))
              have HCU := Asd.mk (fun W => (rbin_calls x.op ho3 ho16 (HVR.out v (by simp)) (HVR.out u (by simp)) (rv_text (HVR.out v (by simp))) (rv_text (HVR.out u (by simp))) W).mono fun e w' h => ev2_form h)
              generalize hu : resVal (binP x.op v u) = r at HCU
              generalize hn : resNum (binP x.op v u) = n at HCU
              have HU := Asd.mk hu
              have HN := Asd.mk hn
              clear hu hn
              have hk3 : (x.kind == 3) = false := by rw [hk]; rfl
              have hk4 : (x.kind == 4) = true := by rw [hk]; rfl
              have hk7 : (x.kind == 7) = false := by rw [hk]; rfl
              clear hk hl hl2 ho3 ho16 hv hlt
              subst hkk
              have HS : Asd (∀ w', Fr (fun k => k = w.heap.size + 1) wr w' → w'.cell? ⟨w.heap.size, 1, none⟩ = some (.int .i64 x.op) ∧ w'.cell? ⟨g, 0, none⟩ = some (.int .i64 v.kind) ∧ w'.cell? ⟨g, 1, none⟩ = some (.int .i64 v.int) ∧ w'.cell? ⟨g, 2, none⟩ = some (.string ⟨v.text.toArray⟩) ∧ w'.cell? ⟨g, 3, none⟩ = some (.int .i64 u.kind) ∧ w'.cell? ⟨g, 4, none⟩ = some (.int .i64 u.int) ∧ w'.cell? ⟨g, 5, none⟩ = some (.string ⟨u.text.toArray⟩) ∧ Fr (fun k => k = w.heap.size + 1) wr w') := Asd.mk fun w' hf => ⟨cell_frS hf hpz.out HE1.out, cell_frS hf hgz.out HV0.out, cell_frS hf hgz.out HV1.out, cell_frS hf hgz.out HV2.out, cell_frS hf hgz.out HU0.out, cell_frS hf hgz.out HU1.out, cell_frS hf hgz.out HU2.out, hf⟩
              go_upto_region 31 with fail
              clear e0 e1 e9 v0 v1 v2 u0 u1 u2
              go_region_held3 (fun w' => w'.cell? ⟨w.heap.size, 1, none⟩ = some (.int .i64 x.op) ∧ w'.cell? ⟨g, 0, none⟩ = some (.int .i64 v.kind) ∧ w'.cell? ⟨g, 1, none⟩ = some (.int .i64 v.int) ∧ w'.cell? ⟨g, 2, none⟩ = some (.string ⟨v.text.toArray⟩) ∧ w'.cell? ⟨g, 3, none⟩ = some (.int .i64 u.kind) ∧ w'.cell? ⟨g, 4, none⟩ = some (.int .i64 u.int) ∧ w'.cell? ⟨g, 5, none⟩ = some (.string ⟨u.text.toArray⟩) ∧ Fr (fun k => k = w.heap.size + 1) wr w')
                (first
                  | exact HS.out _ (Fr.refl _ _)
                  | exact HS.out _ (Fr.refl _ _).drew
                  | exact HS.out _ HF5.out
                  | exact HS.out _ (Fr.setCell (Fr.setCell (Fr.setCell HF5.out (p := ⟨w.heap.size + 1, 0, none⟩) rfl _) (p := ⟨w.heap.size + 1, 1, none⟩) rfl _) (p := ⟨w.heap.size + 1, 2, none⟩) rfl _)
                  | (go_split_ands; exact HS.out _ (by assumption))
                  | fail)
                (first
                  | (go_at_call 30
                     refine (HCU.out _).mono ?_
                     rintro e w5 ⟨rfl, hb5⟩
                     have HF5 : Asd (Fr (fun k => k = w.heap.size + 1) wr w5) := Asd.mk ((Fr.refl _ wr).drew.trans (Fr.of_below hb5) (fun _ h _ => h) (fun _ h _ => h))
                     have HZ5 := Asd.mk (blk_below hb5 (drewb HZR.out))
                     have HB5 : Asd (Below w.heap.size w w5) := Asd.mk (HBR.out.drew.trans (hb5.mono HBR.out.drew.size))
                     obtain ⟨⟨z0, z1, z2⟩, y0, y1, y2⟩ := zero_cells HZ5.out
                     unfold vC)
                  | fail)
              go_wp2
              refine val_ret2 rfl (w.heap.size + 1) _ _ _ rfl (put3_blk HZ5.out _ _ _) rfl ?_
              exact ev2_of HF.out HU.out HN.out (below_put3 HB5.out (by omega) _ _ _)
theorem reval_ok (row : List Vl) (ks : List (Ex × Vl)) (x : Ex) (hx : rvX x) (hb : bulkX x ≤ 1048576) : REvalOK row ks x :=
  reval_step row ks x hx hb fun i h => reval_ok row ks x.args[i] (rvXL_mem (rvX_args hx) _ (List.getElem_mem h)) (by have h1 := bulkXL_mem (List.getElem_mem h); have h2 := bulkX_eq x; omega)
termination_by SizeOf.sizeOf x
decreasing_by exact args_lt x i h
end Go.Proofs.Ytinflndbfdbnhaa.Exp

/- quarryref13.CopyAll and Copy. -/
set_option linter.unusedVariables false
set_option linter.unusedSimpArgs false
namespace Go.Proofs.Ytinflndbfdbnhaa.Exp
open Go.RowKit Go.Proofs.Ytinflndbfdbnhaa.Base Go.Proofs.Ytinflndbfdbnhaa.App Go.Proofs.Ytinflndbfdbnhaa.Byt

/-- Copy of an expression answers it, in blocks of its own. -/
def CopyOK (x : Ex) : Prop := ∀ (Q : Nat → Prop) (A : Option Addr) (c : Nat) (w : World), Held Q w x.args (.slice A x.args.length c) →
  Calls Try.prog 9 #[exV x (.slice A x.args.length c)] w fun e w' => Below w.heap.size w w' ∧ ∃ A' c', e = .returned (exV x (.slice A' x.args.length c')) ∧ Held (fun g => w.heap.size ≤ g) w' x.args (.slice A' x.args.length c')
set_option maxRecDepth 100000 in
theorem infoX : (Try.prog.info? 26).map (fun i => (i.zero, i.size, i.bytes)) = some (some (.agg #[.int .i64 0, .int .i64 0, .int .i64 0, .int .i64 0, .string ⟨#[]⟩, .string ⟨#[]⟩, .string ⟨#[]⟩, .int .i64 0, .int .i64 0, .slice none 0 0]), 10, 120) := by kernel_rfl
theorem info_partsX : ∃ i, Try.prog.info? 26 = some i ∧ i.zero = some (.agg #[.int .i64 0, .int .i64 0, .int .i64 0, .int .i64 0, .string ⟨#[]⟩, .string ⟨#[]⟩, .string ⟨#[]⟩, .int .i64 0, .int .i64 0, .slice none 0 0]) ∧ i.size = 10 ∧ i.bytes = 120 := by
  cases hi : Try.prog.info? 26 with
  | none => have := infoX; rw [hi] at this; cases this
  | some i =>
    have := infoX
    rw [hi] at this
    simp only [Option.map_some, Option.some.injEq, Prod.mk.injEq] at this
    exact ⟨i, rfl, this.1, this.2.1, this.2.2⟩
theorem held_grown {P : Nat → Prop} {W W' : World} {v : Value} {xs : List Ex} {s : Value} (h : Held P W xs s) (hg : W.grownBy W' v.ownBlock) (hP : ∀ g, P g → ¬ some g = v.ownBlock) : Held P W' xs s :=
  held_frS h (Fr.of_grown (S := fun k => some k = v.ownBlock) hg (fun k hk => hk.symm)) hP
set_option maxRecDepth 100000 in
set_option maxHeartbeats 12800000 in
theorem rcopyall_calls (xs : List Ex) (hn : xs.length ≤ 1048576) (hsub : ∀ i (h : i < xs.length), CopyOK xs[i]) (Q : Nat → Prop) (A : Option Addr) (c : Nat) (w : World) (hheld : Held Q w xs (.slice A xs.length c)) :
    Calls Try.prog 17 #[.slice A xs.length c] w fun e w' => Below w.heap.size w w' ∧ ∃ A' c', e = .returned (.slice A' xs.length c') ∧ Held (fun g => w.heap.size ≤ g) w' xs (.slice A' xs.length c') := by
  have HH := Asd.mk hheld
  have HSUB := Asd.mk hsub
  obtain ⟨i0, hi0, hz0, hz1, hz2⟩ := info_partsX
  clear hheld hsub
  generalize hm : xs.length = m at hn HH ⊢
  have HM := Asd.mk hm
  clear hm
  go_enter Try.func17, Try.ntmps17
  go_wp2
  go_loopw [3, 4] (fun v i wr => ∃ (k : Nat) (ps : List (Ex × Value)) (A' : Option Addr) (c' : Nat), k ≤ m ∧ i = .int .i64 (k : Int) ∧ v = .slice A' k c' ∧ Asd (Below w.heap.size w wr) ∧ Asd (ps.length = k ∧ ps.map (·.1) = xs.take k) ∧ Asd (wr.ownsRow w.heap.size 26 10 (.slice A' k c') k (rowsC ps)) ∧ Asd (∀ p ∈ ps, Held (fun g => w.heap.size ≤ g ∧ ¬ some g = (Value.slice A' k c').ownBlock) wr p.1.args p.2)) (fun _ i _ => m - (intOf i).toNat)
  case atStart => exact ⟨0, [], none, 0, by omega, rfl, rfl, ⟨Below.refl _ _⟩, ⟨rfl, by simp⟩, ⟨⟨by simp [rowsC], .inl ⟨rfl, rfl⟩⟩⟩, ⟨fun p hp => by cases hp⟩⟩
  case round =>
    obtain ⟨k, ps, A', c', hk, rfl, rfl, HBR, HPS, HOW, HHE⟩ := hrel
    by_cases hlt : k < m
    · have hkx : k < xs.length := by rw [HM.out]; exact hlt
      obtain ⟨g, o, A1, n1, c1, rfl, hr1, hh1⟩ := held_at (held_below HH.out HBR.out) k hkx
      obtain ⟨A1', c1', he2⟩ := held_len hh1
      have hn1 : n1 = xs[k].args.length := by
        injection he2
      subst hn1
      clear he2
      have HTK : Asd (xs.take (k + 1) = xs.take k ++ [xs[k]]) := Asd.mk (by rw [List.take_succ_eq_append_getElem hkx])
      have HSK := Asd.mk (HSUB.out k hkx)
      unfold CopyOK at HSK
      generalize xs[k] = a at hr1 hh1 HSK HTK
      have HHA := Asd.mk hh1
      clear hkx
      have hgl := World.block_lt_of_cell? wr _ (hr1 0 (by omega))
      have hk0 : (0 : Int) ≤ (k : Int) := by omega
      have x0 : wr.cell? ⟨g, o + k * 10, none⟩ = some (.int .i64 a.kind) := hr1 0 (by omega)
      have x1 : wr.cell? ⟨g, o + k * 10 + 1, none⟩ = some (.int .i64 a.op) := hr1 1 (by omega)
      have x2 : wr.cell? ⟨g, o + k * 10 + 2, none⟩ = some (.int .i64 a.v.kind) := hr1 2 (by omega)
      have x3 : wr.cell? ⟨g, o + k * 10 + 3, none⟩ = some (.int .i64 a.v.int) := hr1 3 (by omega)
      have x4 : wr.cell? ⟨g, o + k * 10 + 4, none⟩ = some (.string ⟨a.v.text.toArray⟩) := hr1 4 (by omega)
      have x5 : wr.cell? ⟨g, o + k * 10 + 5, none⟩ = some (.string ⟨a.table.toArray⟩) := hr1 5 (by omega)
      have x6 : wr.cell? ⟨g, o + k * 10 + 6, none⟩ = some (.string ⟨a.name.toArray⟩) := hr1 6 (by omega)
      have x7 : wr.cell? ⟨g, o + k * 10 + 7, none⟩ = some (.int .i64 a.col) := hr1 7 (by omega)
      have x8 : wr.cell? ⟨g, o + k * 10 + 8, none⟩ = some (.int .i64 a.ty) := hr1 8 (by omega)
      have x9 : wr.cell? ⟨g, o + k * 10 + 9, none⟩ = some (.slice A1 a.args.length c1) := hr1 9 (by omega)
      clear hr1 hh1
      go_wp2_with fail
      refine (HSK.out Q A1 c1 wr HHA.out).mono ?_
      rintro e w5 ⟨hb5, A5, c5, rfl, hh5⟩
      have HB5 : Asd (Below w.heap.size w w5) := Asd.mk (HBR.out.trans (hb5.mono HBR.out.size))
      have HO5 := Asd.mk (own_keep HOW.out hb5)
      have HE5 : Asd (∀ p ∈ ps, Held (fun g => w.heap.size ≤ g ∧ ¬ some g = (Value.slice A' k c').ownBlock) w5 p.1.args p.2) := Asd.mk fun p hp => held_below (HHE.out p hp) hb5
      have HS5 : Asd (w.heap.size ≤ w5.heap.size) := Asd.mk HB5.out.size
      have HSR : Asd (w.heap.size ≤ wr.heap.size) := Asd.mk HBR.out.size
      have HA5 : Asd (Held (fun g => wr.heap.size ≤ g ∧ g < w5.heap.size) w5 a.args (.slice A5 a.args.length c5)) := Asd.mk (held_mono hh5 fun g hg hq => ⟨hq, hg⟩)
      clear x0 x1 x2 x3 x4 x5 x6 x7 x8 x9 hb5 hh5
      unfold exV
      have hba : Below w5.heap.size w5 (w5.alloc (.cells #[.int .i64 a.kind, .int .i64 a.op, .int .i64 a.v.kind, .int .i64 a.v.int, .string ⟨a.v.text.toArray⟩, .string ⟨a.table.toArray⟩, .string ⟨a.name.toArray⟩, .int .i64 a.col, .int .i64 a.ty, .slice A5 a.args.length c5] 26 (0, 0))) := below_alloc (Below.refl _ _) _
      have HO6 := Asd.mk (own_keep HO5.out hba)
      have HE6 : Asd (∀ p ∈ ps, Held (fun g => w.heap.size ≤ g ∧ g < w5.heap.size ∧ ¬ some g = (Value.slice A' k c').ownBlock) (w5.alloc (.cells #[.int .i64 a.kind, .int .i64 a.op, .int .i64 a.v.kind, .int .i64 a.v.int, .string ⟨a.v.text.toArray⟩, .string ⟨a.table.toArray⟩, .string ⟨a.name.toArray⟩, .int .i64 a.col, .int .i64 a.ty, .slice A5 a.args.length c5] 26 (0, 0))) p.1.args p.2) := Asd.mk fun p hp => held_below (held_mono (HE5.out p hp) fun g hg hq => ⟨hq.1, hg, hq.2⟩) hba
      have HA6 := Asd.mk (held_below HA5.out hba)
      have HB6 := Asd.mk (below_step HB5.out hba)
      have HZ6 : Asd ((w5.alloc (.cells #[.int .i64 a.kind, .int .i64 a.op, .int .i64 a.v.kind, .int .i64 a.v.int, .string ⟨a.v.text.toArray⟩, .string ⟨a.table.toArray⟩, .string ⟨a.name.toArray⟩, .int .i64 a.col, .int .i64 a.ty, .slice A5 a.args.length c5] 26 (0, 0))).heap.size = w5.heap.size + 1) := Asd.mk (by simp)
      have HOL : Asd (∀ b, (Value.slice A' k c').ownBlock = some b → b < wr.heap.size) := Asd.mk fun b hb => (HOW.out.lt b hb).2
      clear hba
      go_wp2_with (at_builtin; refine wpList_append_lies _ rfl (.tmp 11) (.tmp 17) 24 rfl w.heap.size 26 i0 (.agg #[.int .i64 0, .int .i64 0, .int .i64 0, .int .i64 0, .string ⟨#[]⟩, .string ⟨#[]⟩, .string ⟨#[]⟩, .int .i64 0, .int .i64 0, .slice none 0 0]) 10 120 Try.underlying24 hi0 hz0 hz1 hz2 rfl (by decide) _ _ _ rfl HO6.out ⟨w5.heap.size, 0, none⟩ 1 1 (exC a (.slice A5 a.args.length c5)) rfl rfl ?c0 ?c00 (by decide) ?c1 ?c2 ?c3 (w5.heap.size + 1) HZ6.out ?_)
      case c0 => exact World.news_of_block (blk_new w5 (.cells #[.int .i64 a.kind, .int .i64 a.op, .int .i64 a.v.kind, .int .i64 a.v.int, .string ⟨a.v.text.toArray⟩, .string ⟨a.table.toArray⟩, .string ⟨a.name.toArray⟩, .int .i64 a.col, .int .i64 a.ty, .slice A5 a.args.length c5] 26 (0, 0)))
      case c00 =>
        intro u hu
        simp only [exC, List.mem_cons, List.not_mem_nil, or_false] at hu
        rcases hu with rfl | rfl | rfl | rfl | rfl | rfl | rfl | rfl | rfl | rfl <;> rfl
      case c1 => unfold maxLen; omega
      case c2 => omega
      case c3 => have := HS5.out; have := HZ6.out; omega
      · intro g2 cap2 w8 hown' hgr hor hlt2
        have HO8 : Asd (w8.ownsRow w.heap.size 26 10 (.slice (some ⟨g2, 0, none⟩) (k + 1) cap2) (k + 1) (rowsC (ps ++ [(a, Value.slice A5 a.args.length c5)]))) := Asd.mk (by rw [rowsC_snoc]; exact hown')
        have HB8 : Asd (Below w.heap.size w w8) := Asd.mk (below_own HB6.out HO6.out hgr (Nat.le_refl _))
        have HP8 : Asd ((ps ++ [(a, Value.slice A5 a.args.length c5)]).length = k + 1 ∧ (ps ++ [(a, Value.slice A5 a.args.length c5)]).map (fun p => p.1) = xs.take (k + 1)) := Asd.mk ⟨by rw [List.length_append, HPS.out.1]; rfl, by rw [List.map_append, HPS.out.2, HTK.out]; rfl⟩
        have hob : (Value.slice (some ⟨g2, 0, none⟩) (k + 1) cap2).ownBlock = some g2 := rfl
        have HH8 : Asd (∀ p ∈ ps ++ [(a, Value.slice A5 a.args.length c5)], Held (fun g => w.heap.size ≤ g ∧ ¬ some g = (Value.slice (some ⟨g2, 0, none⟩) (k + 1) cap2).ownBlock) w8 p.1.args p.2) := Asd.mk fun p hp => by
          rcases List.mem_append.mp hp with hp | hp
          · refine held_mono (held_grown (HE6.out p hp) hgr (fun g hg => hg.2.2)) fun g _ hg => ⟨hg.1, fun e => ?_⟩
            rw [hob] at e
            injection e with e
            subst e
            rcases hor with h | h
            · exact hg.2.2 h.symm
            · have := hg.2.1; omega
          · obtain rfl := List.mem_singleton.mp hp
            refine held_mono (held_grown HA6.out hgr (fun g hg e => ?_)) fun g _ hg => ⟨by have := HSR.out; have := hg.1; omega, fun e => ?_⟩
            · have := HOL.out g e.symm; have := hg.1; omega
            · rw [hob] at e
              injection e with e
              subst e
              rcases hor with h | h
              · have := HOL.out g h; have := hg.1; omega
              · have := hg.2; omega
        clear hown' hgr hor hob HE6 HA6 HO6 HO5 HE5
        go_wp2
        go_roundw
        case rel => exact ⟨k + 1, ps ++ [(a, .slice A5 a.args.length c5)], some ⟨g2, 0, none⟩, cap2, by omega, by go_num, rfl, HB8, HP8, HO8, HH8⟩
        case measure => simp [intOf]; omega
    · have hge : ¬ (k : Int) < (m : Int) := by omega
      have hkm : k = m := by omega
      subst hkm
      have HF : Asd (Held (fun g => w.heap.size ≤ g) wr xs (.slice A' k c')) := Asd.mk (by
        have h := held_of_own (P := fun g => w.heap.size ≤ g) (fun g h => h) ps HPS.out.1.symm HOW.out (fun p hp => held_mono (HHE.out p hp) fun g _ hg => hg.1)
        rw [HPS.out.2, List.take_of_length_le (by rw [HM.out]; exact Nat.le_refl _)] at h
        exact h)
      go_wp2
      go_ret
      exact ⟨HBR.out, A', c', ret_eq rfl, HF.out⟩
theorem below_put10c {a W : World} (h : Below a.heap.size a W) {b : Nat} (hb : a.heap.size ≤ b) (v0 v1 v2 v3 v4 v5 v6 v7 v8 v9 : Value) : Below a.heap.size a ((((((((((W.setCell ⟨b, 0, none⟩ v0).setCell ⟨b, 1, none⟩ v1).setCell ⟨b, 2, none⟩ v2).setCell ⟨b, 3, none⟩ v3).setCell ⟨b, 4, none⟩ v4).setCell ⟨b, 5, none⟩ v5).setCell ⟨b, 6, none⟩ v6).setCell ⟨b, 7, none⟩ v7).setCell ⟨b, 8, none⟩ v8).setCell ⟨b, 9, none⟩ v9) :=
  below_set (below_set (below_set (below_set (below_set (below_set (below_set (below_set (below_set (below_set h (p := ⟨b, 0, none⟩) hb v0) (p := ⟨b, 1, none⟩) hb v1) (p := ⟨b, 2, none⟩) hb v2) (p := ⟨b, 3, none⟩) hb v3) (p := ⟨b, 4, none⟩) hb v4) (p := ⟨b, 5, none⟩) hb v5) (p := ⟨b, 6, none⟩) hb v6) (p := ⟨b, 7, none⟩) hb v7) (p := ⟨b, 8, none⟩) hb v8) (p := ⟨b, 9, none⟩) hb v9
set_option maxRecDepth 100000 in
set_option maxHeartbeats 12800000 in
theorem rcopy_step (x : Ex) (hn : x.args.length ≤ 1048576) (hsub : ∀ i (h : i < x.args.length), CopyOK x.args[i]) : CopyOK x := by
  intro Q A c w hh
  have HC := Asd.mk (fun (W : World) (hb : Below w.heap.size w W) => rcopyall_calls x.args hn hsub Q A c W (held_below hh hb))
  clear hh hsub
  generalize hm : x.args.length = m at hn HC ⊢
  have HM := Asd.mk hm
  clear hm
  have HX := Asd.mk (blk_alloc (blk_new w (.cells #[.int .i64 x.kind, .int .i64 x.op, .int .i64 x.v.kind, .int .i64 x.v.int, .string ⟨x.v.text.toArray⟩, .string ⟨x.table.toArray⟩, .string ⟨x.name.toArray⟩, .int .i64 x.col, .int .i64 x.ty, .slice A m c] 26 (0, 0))) (.cells #[.int .i64 0, .int .i64 0, .int .i64 0, .int .i64 0, .string ⟨#[]⟩, .string ⟨#[]⟩, .string ⟨#[]⟩, .int .i64 0, .int .i64 0, .slice none 0 0] 26 (0, 0)))
  have HZ : Asd (((w.alloc (.cells #[.int .i64 x.kind, .int .i64 x.op, .int .i64 x.v.kind, .int .i64 x.v.int, .string ⟨x.v.text.toArray⟩, .string ⟨x.table.toArray⟩, .string ⟨x.name.toArray⟩, .int .i64 x.col, .int .i64 x.ty, .slice A m c] 26 (0, 0))).alloc (.cells #[.int .i64 0, .int .i64 0, .int .i64 0, .int .i64 0, .string ⟨#[]⟩, .string ⟨#[]⟩, .string ⟨#[]⟩, .int .i64 0, .int .i64 0, .slice none 0 0] 26 (0, 0))).heap[w.heap.size + 1]? = some (.cells #[.int .i64 0, .int .i64 0, .int .i64 0, .int .i64 0, .string ⟨#[]⟩, .string ⟨#[]⟩, .string ⟨#[]⟩, .int .i64 0, .int .i64 0, .slice none 0 0] 26 (0, 0))) := Asd.mk (by
    have h := blk_new (w.alloc (.cells #[.int .i64 x.kind, .int .i64 x.op, .int .i64 x.v.kind, .int .i64 x.v.int, .string ⟨x.v.text.toArray⟩, .string ⟨x.table.toArray⟩, .string ⟨x.name.toArray⟩, .int .i64 x.col, .int .i64 x.ty, .slice A m c] 26 (0, 0))) (.cells #[.int .i64 0, .int .i64 0, .int .i64 0, .int .i64 0, .string ⟨#[]⟩, .string ⟨#[]⟩, .string ⟨#[]⟩, .int .i64 0, .int .i64 0, .slice none 0 0] 26 (0, 0))
    rw [show (w.alloc (.cells #[.int .i64 x.kind, .int .i64 x.op, .int .i64 x.v.kind, .int .i64 x.v.int, .string ⟨x.v.text.toArray⟩, .string ⟨x.table.toArray⟩, .string ⟨x.name.toArray⟩, .int .i64 x.col, .int .i64 x.ty, .slice A m c] 26 (0, 0))).heap.size = w.heap.size + 1 by simp] at h
    exact h)
  have HB : Asd (Below w.heap.size w ((w.alloc (.cells #[.int .i64 x.kind, .int .i64 x.op, .int .i64 x.v.kind, .int .i64 x.v.int, .string ⟨x.v.text.toArray⟩, .string ⟨x.table.toArray⟩, .string ⟨x.name.toArray⟩, .int .i64 x.col, .int .i64 x.ty, .slice A m c] 26 (0, 0))).alloc (.cells #[.int .i64 0, .int .i64 0, .int .i64 0, .int .i64 0, .string ⟨#[]⟩, .string ⟨#[]⟩, .string ⟨#[]⟩, .int .i64 0, .int .i64 0, .slice none 0 0] 26 (0, 0)))) := Asd.mk (below_alloc (below_alloc (Below.refl _ _) _) _)
  unfold exV
  go_enter Try.func9, Try.ntmps9
  go_upto_region 1 with fail
  generalize (w.alloc (.cells #[.int .i64 x.kind, .int .i64 x.op, .int .i64 x.v.kind, .int .i64 x.v.int, .string ⟨x.v.text.toArray⟩, .string ⟨x.table.toArray⟩, .string ⟨x.name.toArray⟩, .int .i64 x.col, .int .i64 x.ty, .slice A m c] 26 (0, 0))).alloc (.cells #[.int .i64 0, .int .i64 0, .int .i64 0, .int .i64 0, .string ⟨#[]⟩, .string ⟨#[]⟩, .string ⟨#[]⟩, .int .i64 0, .int .i64 0, .slice none 0 0] 26 (0, 0)) = w1 at HX HZ HB ⊢
  have e9 := (blk_cell HX.out 9).trans rfl
  go_wp2_with fail
  refine (HC.out _ HB.out).mono ?_
  rintro e w2 ⟨hb2, A', c', rfl, hh2⟩
  have HB2 := Asd.mk (below_step HB.out hb2)
  have HX2 := Asd.mk (blk_below hb2 HX.out)
  have HZ2 := Asd.mk (blk_below hb2 HZ.out)
  have HS1 : Asd (w.heap.size + 2 ≤ w1.heap.size) := Asd.mk (by have := blk_lt HZ.out; omega)
  have HH2 := Asd.mk hh2
  clear hb2 hh2 e9 HC
  have e9 := (blk_cell HX2.out 9).trans rfl
  have ef := blk_frozen HX2.out 9
  have HX3 := Asd.mk (blk_set HX2.out 9 (.slice A' m c'))
  have HF3 : Asd (Fr (fun k => k = w.heap.size) w2 (w2.setCell ⟨w.heap.size, 9, none⟩ (.slice A' m c'))) := Asd.mk (Fr.setCell (p := ⟨w.heap.size, 9, none⟩) (Fr.refl (fun k => k = w.heap.size) w2) rfl _)
  have HB3 : Asd (Below w.heap.size w (w2.setCell ⟨w.heap.size, 9, none⟩ (.slice A' m c'))) := Asd.mk (below_set (p := ⟨w.heap.size, 9, none⟩) HB2.out (Nat.le_refl _) _)
  go_upto_region 2 with fail
  generalize w2.setCell ⟨w.heap.size, 9, none⟩ (.slice A' m c') = w3 at HX3 HF3 HB3 ⊢
  have HZ3 := Asd.mk (blk_fr HZ2.out HF3.out (by omega))
  have HH3 := Asd.mk (held_frS HH2.out HF3.out (fun g hg e => by have := HS1.out; have : w1.heap.size ≤ g := hg; omega))
  have x0 := (blk_cell HX3.out 0).trans rfl
  have x1 := (blk_cell HX3.out 1).trans rfl
  have x2 := (blk_cell HX3.out 2).trans rfl
  have x3 := (blk_cell HX3.out 3).trans rfl
  have x4 := (blk_cell HX3.out 4).trans rfl
  have x5 := (blk_cell HX3.out 5).trans rfl
  have x6 := (blk_cell HX3.out 6).trans rfl
  have x7 := (blk_cell HX3.out 7).trans rfl
  have x8 := (blk_cell HX3.out 8).trans rfl
  have x9 := (blk_cell HX3.out 9).trans rfl
  have z0 := (blk_cell HZ3.out 0).trans rfl
  have z1 := (blk_cell HZ3.out 1).trans rfl
  have z2 := (blk_cell HZ3.out 2).trans rfl
  have z3 := (blk_cell HZ3.out 3).trans rfl
  have z4 := (blk_cell HZ3.out 4).trans rfl
  have z5 := (blk_cell HZ3.out 5).trans rfl
  have z6 := (blk_cell HZ3.out 6).trans rfl
  have z7 := (blk_cell HZ3.out 7).trans rfl
  have z8 := (blk_cell HZ3.out 8).trans rfl
  have z9 := (blk_cell HZ3.out 9).trans rfl
  have zf := fun j => blk_frozen HZ3.out j
  clear e9 ef
  go_wp2_with fail
  refine bodyPost_ret (results_cell_row rfl _ _ (w.heap.size + 1) 26 _ (0, 0) _ rfl (put10_blk HZ3.out _ _ _ _ _ _ _ _ _ _) Try.underlying26 rfl (by kernel_rfl)) rfl ?_
  exact ⟨below_put10c HB3.out (by omega) _ _ _ _ _ _ _ _ _ _, A', c', rfl, held_mono (held_frS HH3.out (put10_fr (S := fun g => g = w.heap.size + 1) rfl _ _ _ _ _ _ _ _ _ _) (fun g hg e => by have := HS1.out; have : w1.heap.size ≤ g := hg; omega)) fun g _ hg => by have := HS1.out; have : w1.heap.size ≤ g := hg; omega⟩
theorem rcopy_ok (x : Ex) (hf : fewE x) : CopyOK x :=
  rcopy_step x (fewE_args hf).1 fun i h => rcopy_ok x.args[i] (fewL_mem (fewE_args hf).2 _ (List.getElem_mem h))
termination_by SizeOf.sizeOf x
decreasing_by exact args_lt x i h
end Go.Proofs.Ytinflndbfdbnhaa.Exp

/- EvalDoes: what is known, as it comes in; and as a row of the law's own. -/
set_option linter.unusedVariables false
set_option linter.unusedSimpArgs false
namespace Go.Proofs.Ytinflndbfdbnhaa.Exp
open Go.RowKit Go.Proofs.Ytinflndbfdbnhaa.Base Go.Proofs.Ytinflndbfdbnhaa.App Go.Proofs.Ytinflndbfdbnhaa.Byt Go.Proofs.Ytinflndbfdbnhaa.Rd Go.Deep Go.ChangeShapes Go.WideShapes

mutual
theorem sameE_self : ∀ x : Ex, sameE x x = true
  | .mk k o v t n c ty a => by rw [sameE_eq]; simp [Ex.kind, Ex.op, Ex.v, Ex.table, Ex.name, Ex.args, sameL_self a]
theorem sameL_self : ∀ a : List Ex, sameL a a = true
  | [] => by simp [sameL]
  | x :: xs => by rw [sameL, sameE_self x, sameL_self xs]; rfl
end
/-- The cells of what is known. -/
def kcC (q : Ex × Vl) (s : Value) : List Value := exC q.1 s ++ [.int .i64 q.2.kind, .int .i64 q.2.int, .string ⟨q.2.text.toArray⟩]
theorem kcC_len (q : Ex × Vl) (s : Value) : (kcC q s).length = 13 := rfl
theorem kcC_lo (q : Ex × Vl) (s : Value) (j : Nat) (hj : j < 10) : (kcC q s)[j]'(by rw [kcC_len]; omega) = (exC q.1 s)[j]'(by rw [exC_len]; exact hj) := List.getElem_append_left (by rw [exC_len]; exact hj)
def rowsK (ps : List ((Ex × Vl) × Value)) : List Value := ps.flatMap fun p => kcC p.1 p.2
theorem rowsK_cons (p : (Ex × Vl) × Value) (ps : List ((Ex × Vl) × Value)) : rowsK (p :: ps) = kcC p.1 p.2 ++ rowsK ps := by simp [rowsK]
theorem rowsK_snoc (ps : List ((Ex × Vl) × Value)) (p : (Ex × Vl) × Value) : rowsK (ps ++ [p]) = rowsK ps ++ kcC p.1 p.2 := by simp [rowsK]
theorem rowsK_at : ∀ (ps : List ((Ex × Vl) × Value)) (i : Nat) (hi : i < ps.length) (j : Nat) (hj : j < 13), (rowsK ps)[i * 13 + j]? = some ((kcC ps[i].1 ps[i].2)[j]'(by rw [kcC_len]; exact hj))
  | p :: r, 0, hi, j, hj => by
    rw [rowsK_cons, Nat.zero_mul, Nat.zero_add, List.getElem?_append_left (by rw [kcC_len]; exact hj), List.getElem?_eq_getElem]
    rfl
  | p :: r, i + 1, hi, j, hj => by
    have ih := rowsK_at r i (by simpa using hi) j hj
    rw [rowsK_cons, List.getElem?_append_right (by rw [kcC_len]; omega), kcC_len, show (i + 1) * 13 + j - 13 = i * 13 + j by omega, ih]
    rfl
theorem kn_of_own {P : Nat → Prop} {W : World} {B : Nat} {A : Option Addr} {m c : Nat} (ps : List ((Ex × Vl) × Value)) (hm : m = ps.length) (h : W.ownsRow B 38 13 (.slice A m c) m (rowsK ps)) (hs : ∀ p ∈ ps, ∃ A n c, p.2 = .slice A n c ∧ Held P W p.1.1.args (.slice A n c)) :
    KnSl P W A (ps.map (·.1)) := by
  intro h0
  subst hm
  have hc := fun g => h.cells (g := g)
  rcases h.2 with ⟨he, h00⟩ | ⟨g, cap, cur, he, hb, hh, _⟩
  · rw [List.length_map] at h0; omega
  · injection he with h1 h2 h3
    subst h1
    refine ⟨g, 0, rfl, fun i hi => ?_⟩
    have hi' : i < ps.length := by simpa using hi
    obtain ⟨A1, n1, c1, e1, hh1⟩ := hs _ (List.getElem_mem hi')
    have hg := hc g (by simp [Value.ownBlock])
    have hcell : ∀ j (hj : j < 13), W.cell? ⟨g, 0 + i * 13 + j, none⟩ = some ((kcC ps[i].1 ps[i].2)[j]'(by rw [kcC_len]; exact hj)) := fun j hj => by
      have := hg _ _ (rowsK_at ps i hi' j hj)
      rw [addr_add, Nat.zero_add] at this
      rw [Nat.zero_add]
      exact this
    have e : (ps.map (·.1))[i] = ps[i].1 := by simp
    rw [e]
    refine ⟨A1, n1, c1, fun j hj => ?_, hh1, ?_, ?_, ?_⟩
    · have := hcell j (by omega)
      rw [this, kcC_lo _ _ _ hj, e1]
      rfl
    · exact hcell 10 (by omega)
    · exact hcell 11 (by omega)
    · exact hcell 12 (by omega)
set_option maxRecDepth 100000 in
theorem infoKn : (Try.prog.info? 38).map (fun i => (i.zero, i.size, i.bytes)) = some (some (.agg #[.int .i64 0, .int .i64 0, .int .i64 0, .int .i64 0, .string ⟨#[]⟩, .string ⟨#[]⟩, .string ⟨#[]⟩, .int .i64 0, .int .i64 0, .slice none 0 0, .int .i64 0, .int .i64 0, .string ⟨#[]⟩]), 13, 152) := by kernel_rfl
theorem info_partsKn : ∃ i, Try.prog.info? 38 = some i ∧ i.zero = some (.agg #[.int .i64 0, .int .i64 0, .int .i64 0, .int .i64 0, .string ⟨#[]⟩, .string ⟨#[]⟩, .string ⟨#[]⟩, .int .i64 0, .int .i64 0, .slice none 0 0, .int .i64 0, .int .i64 0, .string ⟨#[]⟩]) ∧ i.size = 13 ∧ i.bytes = 152 := by
  cases hi : Try.prog.info? 38 with
  | none => have := infoKn; rw [hi] at this; cases this
  | some i =>
    have := infoKn
    rw [hi] at this
    simp only [Option.map_some, Option.some.injEq, Prod.mk.injEq] at this
    exact ⟨i, rfl, this.1, this.2.1, this.2.2⟩
section
variable {H : Type} {enc : TypeId × Value → H}
theorem trodK {P : Program} {t : TypeId} {f0 f1 : Field} {W : World} {fuel : Nat} {cs : List Value} {x : DataW H × List MemPlace} (ht : P.underlying t = some (.struct #[f0, f1])) (hc : P.cellsOf t = 13) (o0 : f0.offset = 0) (b0 : P.cellsOf f0.type = 10) (o1 : f1.offset = 10) (b1 : P.cellsOf f1.type = 3) (h : DataW.trod enc P W 0 (fun _ => true) true fuel t cs = some x) :
    ∃ ca cb y0 y1 n, cs = ca ++ cb ∧ ca.length = 10 ∧ x.1 = .agg [y0.1, y1.1] ∧ DataW.trod enc P W 0 (fun _ => true) true n f0.type ca = some y0 ∧ DataW.trod enc P W 0 (fun _ => true) true n f1.type cb = some y1 ∧ (∀ q ∈ y0.2, q ∈ x.2) := by
  obtain ⟨xs, n, _, hx, hl, hlen, hf⟩ := DataW.trod_struct ht h
  rw [hc] at hl
  match cs, hl, xs, hlen with
  | [c0, c1, c2, c3, c4, c5, c6, c7, c8, c9, c10, c11, c12], _, [y0, y1], _ =>
    have e0 := hf 0 f0 rfl
    have e1 := hf 1 f1 rfl
    rw [o0, b0] at e0
    rw [o1, b1] at e1
    exact ⟨[c0, c1, c2, c3, c4, c5, c6, c7, c8, c9], [c10, c11, c12], y0, y1, n, rfl, rfl, by rw [hx]; rfl, by simpa using e0, by simpa using e1, by rw [hx]; intro q hq; simp only [List.flatMap_cons, List.flatMap_nil, List.mem_append, List.append_nil]; simp [hq]⟩
/-- What is known comes in. -/
theorem open_known {W : World} {fuel : Nat} {cs : List Value} {x : DataW H × List MemPlace} (hz : W.noneFrozen x.2) (h : DataW.trod enc Try.prog W 0 (fun _ => true) true fuel 28 cs = some x) :
    ∃ (A : Option Addr) (c : Nat) (ks : List (Ex × Vl)), cs = [.slice A ks.length c] ∧ KnSl (fun _ => True) W A ks ∧ ks.length ≤ Rows.uptoBulk x.1 ∧ ∀ q ∈ ks, (bulkX q.1 ≤ Rows.uptoBulk x.1 ∧ rngX q.1) ∧ inI q.2.int ∧ q.2.text.length ≤ Rows.uptoBulk x.1 := by
  rcases open_slice Try.underlying28 h with ⟨rfl, _⟩ | ⟨a, len, cap, m, n', D, Pl, rfl, _, hle, _, hmm, hx7, hel⟩
  · exact ⟨none, 0, [], rfl, fun h => absurd h (by simp), by simp, fun v hv => by cases hv⟩
  · simp only [if_true] at hmm
    have hc13 : Try.prog.cellsOf 34 = 13 := by kernel_rfl
    rw [hc13] at hel
    have hb7 : Rows.uptoBulk x.1 = Rows.uptoBulkAll ((List.range len).map D) + Rows.uptoBulkAll ((List.range (m - len)).map fun j => D (len + j)) + 1 := by rw [hx7]; rfl
    obtain ⟨ps, hpl, hps⟩ := list_of len (fun i (p : (Ex × Vl) × Value) => ∃ cs', W.cells? 0 (a.add (i * 13)) 13 = some cs' ∧ cs' = kcC p.1 p.2 ∧ Held (fun _ => True) W p.1.1.args p.2 ∧ (bulkX p.1.1 + 1 ≤ Rows.uptoBulk (D i) ∧ rngX p.1.1) ∧ inI p.1.2.int ∧ p.1.2.text.length ≤ Rows.uptoBulk (D i)) (fun i hi => by
      obtain ⟨cs', q1, q2⟩ := hel i (by omega)
      obtain ⟨ca, cb, y0, y1, n, rfl, hcal, hx, h0, h1, hp⟩ := trodK Try.underlying34 (by kernel_rfl) rfl (by kernel_rfl) rfl (by kernel_rfl) q2
      have hbD : Rows.uptoBulk (D i) = Rows.uptoBulk y0.1 + Rows.uptoBulk y1.1 + 1 := by
        have hx' : D i = _ := hx
        rw [hx']
        simp only [Rows.uptoBulk, Rows.uptoBulkAll]
        omega
      obtain ⟨e, s, r1, r2, r3, r4⟩ := open_ex (Rows.uptoBulk y0.1) n ca y0 (Nat.le_refl _) (fun b off hm => hz b off (by rw [hx7]; exact List.mem_append_right _ (List.mem_flatMap.mpr ⟨i, List.mem_range.mpr (by omega), hp _ hm⟩))) h0
      obtain ⟨v, s1, s2, s3⟩ := open_val h1
      exact ⟨((e, v), s), ca ++ cb, q1, by rw [r1, s1]; rfl, r2, ⟨by show bulkX e + 1 ≤ _; omega, r4⟩, s2, by show v.text.length ≤ _; omega⟩)
    have hall : ∀ n, n ≤ len → n ≤ Rows.uptoBulkAll ((List.range n).map D) := by
      intro n
      induction n with
      | zero => intro _; exact Nat.zero_le _
      | succ n ih =>
        intro hn
        have h1 := ih (by omega)
        obtain ⟨_, _, _, _, hb, _⟩ := hps n (by omega)
        have hb1 := hb.1
        rw [List.range_succ, List.map_append, bulkAll_append]
        simp only [List.map_cons, List.map_nil, Rows.uptoBulkAll]
        omega
    have hlenb := hall len (Nat.le_refl _)
    refine ⟨some a, cap, ps.map (·.1), by rw [List.length_map, hpl], fun h0 => ?_, by rw [List.length_map, hpl]; omega, fun q hq => ?_⟩
    · have h0' : 0 < ps.length := by simpa using h0
      obtain ⟨cs', q1, q2, _⟩ := hps 0 h0'
      obtain ⟨_, hlen', hcell⟩ := World.cells?_some q1
      have hv0 := hcell 0 (by omega)
      rw [q2] at hv0
      simp only [Nat.zero_mul] at hv0
      obtain ⟨ab, ao, asp⟩ := a
      obtain rfl : asp = none := no_spot (W := W) (a := ⟨ab, ao, asp⟩) (v := .int .i64 ps[0].1.1.kind) (by simpa [Addr.add, kcC, exC] using hv0)
      refine ⟨ab, ao, rfl, fun i hi => ?_⟩
      have hi' : i < ps.length := by simpa using hi
      obtain ⟨cs', q1, q2, hh, _⟩ := hps i hi'
      obtain ⟨_, hlen', hcell⟩ := World.cells?_some q1
      have e : (ps.map (·.1))[i] = ps[i].1 := by simp
      rw [e]
      obtain ⟨A1, n1, c1, e1⟩ := held_slice hh
      have hc2 : ∀ j (hj : j < 13), W.cell? ⟨ab, ao + i * 13 + j, none⟩ = some ((kcC ps[i].1 ps[i].2)[j]'(by rw [kcC_len]; exact hj)) := fun j hj => by
        have := hcell j (by omega)
        rw [add_off, add_off, q2, List.getElem?_eq_getElem (by rw [kcC_len]; exact hj)] at this
        exact this
      refine ⟨A1, n1, c1, fun j hj => ?_, by rw [← e1]; exact hh, ?_, ?_, ?_⟩
      · have := hc2 j (by omega)
        rw [this, kcC_lo _ _ _ hj, e1]
        rfl
      · exact hc2 10 (by omega)
      · exact hc2 11 (by omega)
      · exact hc2 12 (by omega)
    · obtain ⟨p, hp, rfl⟩ := List.mem_map.mp hq
      obtain ⟨i, hi, rfl⟩ := List.getElem_of_mem hp
      obtain ⟨_, _, _, _, hb, h1, h2⟩ := hps i hi
      have hbi : Rows.uptoBulk (D i) ≤ Rows.uptoBulkAll ((List.range len).map D) := bulkAll_mem (List.mem_map.mpr ⟨i, List.mem_range.mpr (by omega), rfl⟩)
      exact ⟨⟨by have := hb.1; omega, hb.2⟩, h1, by omega⟩
end
end Go.Proofs.Ytinflndbfdbnhaa.Exp

/- quarryref01.SameRow of a row and its copy. -/
set_option linter.unusedVariables false
set_option linter.unusedSimpArgs false
namespace Go.Proofs.Ytinflndbfdbnhaa.Exp
open Go.RowKit Go.Proofs.Ytinflndbfdbnhaa.Base Go.Proofs.Ytinflndbfdbnhaa.App Go.Proofs.Ytinflndbfdbnhaa.Byt

set_option maxRecDepth 100000 in
set_option maxHeartbeats 6400000 in
theorem samerow_calls (vs : List Vl) (hn : vs.length ≤ 1048576) (A B : Option Addr) (c d : Nat) (w : World) (hv : ValSl w A vs) (hu : ValSl w B vs) :
    Calls Try.prog 13 #[.slice A vs.length c, .slice B vs.length d] w fun e w' => e = .returned (.bool true) ∧ Below w.heap.size w w' := by
  have HV := Asd.mk hv
  have HU := Asd.mk hu
  generalize hm : vs.length = m at hn ⊢
  have HM := Asd.mk hm
  clear hv hu hm
  have hnn : ((m : Int) != (m : Int)) = false := by simp
  go_enter Try.func13, Try.ntmps13
  go_wp2
  go_loopw [5] (fun i wr => ∃ k : Nat, k ≤ m ∧ i = .int .i64 (k : Int) ∧ Asd (Below w.heap.size w wr)) (fun i _ => m - (intOf i).toNat)
  case atStart => exact ⟨0, by omega, rfl, ⟨Below.refl _ _⟩⟩
  case round =>
    obtain ⟨k, hk, rfl, HBR⟩ := hrel
    by_cases hlt : k < m
    · have hkv : k < vs.length := by rw [HM.out]; exact hlt
      obtain ⟨g, o, rfl, h1⟩ := HV.out.below HBR.out (by omega)
      obtain ⟨h, q, rfl, h2⟩ := HU.out.below HBR.out (by omega)
      obtain ⟨x0, x1, x2⟩ := h1 k hkv
      obtain ⟨y0, y1, y2⟩ := h2 k hkv
      generalize vs[k] = v at x0 x1 x2 y0 y1 y2
      clear h1 h2
      have hk0 : (0 : Int) ≤ (k : Int) := by omega
      have hk1 : (k : Int) < (m : Int) := by omega
      have heq : ∀ W, (binOp .neq 23 (.agg #[.int .i64 v.kind, .int .i64 v.int, .string ⟨v.text.toArray⟩]) (.agg #[.int .i64 v.kind, .int .i64 v.int, .string ⟨v.text.toArray⟩])).run Try.prog W = .ok (.bool false) W := fun W => by
        have h : (binOp .neq 23 (.agg #[.int .i64 v.kind, .int .i64 v.int, .string ⟨v.text.toArray⟩]) (.agg #[.int .i64 v.kind, .int .i64 v.int, .string ⟨v.text.toArray⟩])).run Try.prog W = .ok (.bool (!(v.kind == v.kind && (v.int == v.int && ((⟨v.text.toArray⟩ : ByteArray).toList == (⟨v.text.toArray⟩ : ByteArray).toList))))) W := Eqs.op_neq fun e => val_in e W _ _ _ _ _ _
        rw [h]
        simp
      go_upto_region 6 with fail
      go_region
      have HB2 : Asd (Below w.heap.size w wr.drew) := Asd.mk HBR.out.drew
      clear x0 x1 x2 y0 y1 y2 heq
      go_wp2
      go_roundw
      case rel => exact ⟨k + 1, by omega, by go_num, HB2⟩
      case measure => simp [intOf]; omega
    · have hge : ¬ (k : Int) < (m : Int) := by omega
      go_wp2
      go_ret
      exact ⟨ret_eq rfl, HBR.out⟩
end Go.Proofs.Ytinflndbfdbnhaa.Exp

/- quarryref13.Size. -/
set_option linter.unusedVariables false
set_option linter.unusedSimpArgs false
namespace Go.Proofs.Ytinflndbfdbnhaa.Exp
open Go.RowKit Go.Proofs.Ytinflndbfdbnhaa.Base Go.Proofs.Ytinflndbfdbnhaa.App Go.Proofs.Ytinflndbfdbnhaa.Byt

def SizeOK (x : Ex) : Prop := ∀ (Q : Nat → Prop) (A : Option Addr) (c : Nat) (w : World), Held Q w x.args (.slice A x.args.length c) → Calls Try.prog 7 #[exV x (.slice A x.args.length c)] w fun e w' => e = .returned (.int .i64 ((sizeX x : Nat) : Int)) ∧ Below w.heap.size w w'
set_option maxRecDepth 100000 in
set_option maxHeartbeats 12800000 in
theorem size_step (x : Ex) (hn : x.args.length ≤ 1048576) (hsz : sizeX x ≤ 1048576) (hsub : ∀ i (h : i < x.args.length), SizeOK x.args[i]) : SizeOK x := by
  intro Q A c w hheld
  have HH := Asd.mk hheld
  have HSUB := Asd.mk hsub
  have HE := Asd.mk (sizeX_eq x)
  have HX := Asd.mk (blk_new w (xK x (.slice A x.args.length c)))
  have HB : Asd (Below w.heap.size w (w.alloc (xK x (.slice A x.args.length c)))) := Asd.mk (below_alloc (Below.refl _ _) _)
  clear hheld hsub
  generalize hm : x.args.length = m at hn HX HB HH ⊢
  have HM := Asd.mk hm
  clear hm
  generalize hz : sizeX x = z at hsz HE ⊢
  clear hz
  have HSZ := Asd.mk hsz
  clear hsz
  unfold exV
  go_enter Try.func7, Try.ntmps7
  go_upto_region 1 with fail
  generalize w.alloc _ = w1 at HX HB ⊢
  have e9 : w1.cell? ⟨w.heap.size, 9, none⟩ = some (.slice A m c) := (blk_cell HX.out 9).trans rfl
  have HB0 := HB
  go_wp2
  go_loopw [3, 4] (fun s i wr => ∃ (k p : Nat), k ≤ m ∧ i = .int .i64 (k : Int) ∧ s = .int .i64 (p : Int) ∧ Asd (Below w.heap.size w wr) ∧ Asd (Below w1.heap.size w1 wr) ∧ Asd (z = p + sizeL (x.args.drop k))) (fun _ i _ => m - (intOf i).toNat)
  case atStart => exact ⟨0, 1, by omega, rfl, rfl, ⟨HB0.out⟩, ⟨Below.refl _ _⟩, ⟨HE.out⟩⟩
  case round =>
    obtain ⟨k, p, hk, rfl, rfl, HBR, HBR2, HQ⟩ := hrel
    clear e9
    have e9 : wr.cell? ⟨w.heap.size, 9, none⟩ = some (.slice A m c) := (blk_cell (blk_below HBR2.out HX.out) 9).trans rfl
    by_cases hlt : k < m
    · have hkx : k < x.args.length := by rw [HM.out]; exact hlt
      obtain ⟨g, o, A1, n1, c1, he1, hr1, hh1⟩ := held_at (held_below HH.out HBR.out) k hkx
      subst he1
      obtain ⟨A1', c1', he2⟩ := held_len hh1
      have hn1 : n1 = x.args[k].args.length := by
        injection he2
      subst hn1
      clear he2
      have HSK := Asd.mk (HSUB.out k hkx)
      rw [sizeL_drop hkx] at HQ
      generalize x.args[k] = a at hr1 hh1 HSK HQ
      have HHA := Asd.mk hh1
      clear hkx
      have hgl := World.block_lt_of_cell? wr _ (hr1 0 (by omega))
      have hk0 : (0 : Int) ≤ (k : Int) := by omega
      have x0 : wr.cell? ⟨g, o + k * 10, none⟩ = some (.int .i64 a.kind) := hr1 0 (by omega)
      have x1 : wr.cell? ⟨g, o + k * 10 + 1, none⟩ = some (.int .i64 a.op) := hr1 1 (by omega)
      have x2 : wr.cell? ⟨g, o + k * 10 + 2, none⟩ = some (.int .i64 a.v.kind) := hr1 2 (by omega)
      have x3 : wr.cell? ⟨g, o + k * 10 + 3, none⟩ = some (.int .i64 a.v.int) := hr1 3 (by omega)
      have x4 : wr.cell? ⟨g, o + k * 10 + 4, none⟩ = some (.string ⟨a.v.text.toArray⟩) := hr1 4 (by omega)
      have x5 : wr.cell? ⟨g, o + k * 10 + 5, none⟩ = some (.string ⟨a.table.toArray⟩) := hr1 5 (by omega)
      have x6 : wr.cell? ⟨g, o + k * 10 + 6, none⟩ = some (.string ⟨a.name.toArray⟩) := hr1 6 (by omega)
      have x7 : wr.cell? ⟨g, o + k * 10 + 7, none⟩ = some (.int .i64 a.col) := hr1 7 (by omega)
      have x8 : wr.cell? ⟨g, o + k * 10 + 8, none⟩ = some (.int .i64 a.ty) := hr1 8 (by omega)
      have x9 : wr.cell? ⟨g, o + k * 10 + 9, none⟩ = some (.slice A1 a.args.length c1) := hr1 9 (by omega)
      clear hr1 hh1
      go_wp2_with fail
      refine (HSK.out Q A1 c1 wr HHA.out).mono ?_
      rintro e w5 ⟨rfl, hb5⟩
      have HB5 : Asd (Below w.heap.size w w5) := Asd.mk (HBR.out.trans (hb5.mono HBR.out.size))
      have HB52 : Asd (Below w1.heap.size w1 w5) := Asd.mk (HBR2.out.trans (hb5.mono HBR2.out.size))
      clear x0 x1 x2 x3 x4 x5 x6 x7 x8 x9 e9 hb5
      have hpq : p + sizeX a ≤ 1048576 := by have := HQ.out; have := HSZ.out; omega
      have HQ2 : Asd (z = (p + sizeX a) + sizeL (x.args.drop (k + 1))) := Asd.mk (by rw [HQ.out]; omega)
      generalize sizeX a = q at hpq HQ2 ⊢
      go_wp2
      go_roundw
      case rel => exact ⟨k + 1, p + q, by omega, by go_num, by go_num, HB5, HB52, HQ2⟩
      case measure => simp [intOf]; omega
    · have HS : Asd (z = p) := Asd.mk (by rw [HQ.out, List.drop_of_length_le (by rw [HM.out]; omega), sizeL]; rfl)
      clear HQ
      go_wp2
      go_ret
      exact ⟨ret_eq (by rw [HS.out]; rfl), HBR.out⟩
/-- quarryref13.Size. -/
theorem size_ok (x : Ex) (hf : bulkX x ≤ 1048576) : SizeOK x :=
  size_step x (fewE_args (few_of x hf)).1 (Nat.le_trans (sizeX_le x) hf) fun i h => size_ok x.args[i] (by
    have h1 := bulkXL_mem (List.getElem_mem h)
    rw [bulkX_eq] at hf
    omega)
termination_by SizeOf.sizeOf x
decreasing_by exact args_lt x i h
end Go.Proofs.Ytinflndbfdbnhaa.Exp

/- EvalDoes: the walk. -/
set_option linter.unusedVariables false
set_option linter.unusedSimpArgs false
namespace Go.Proofs.Ytinflndbfdbnhaa.Exp
open Go.RowKit Go.Proofs.Ytinflndbfdbnhaa.Base Go.Proofs.Ytinflndbfdbnhaa.App Go.Proofs.Ytinflndbfdbnhaa.Byt

structure RowD (w : World) (RA : Option Addr) (ca : Nat) (vs : List Vl) : Prop where
  vals : ValSl w RA vs
  len : vs.length ≤ 1048576
  nil : RA = none → vs.length = 0 ∧ ca = 0
  rng : ∀ v ∈ vs, inI v.int ∧ v.text.length ≤ reachBytes
theorem RowD.below {w w' : World} {RA : Option Addr} {ca : Nat} {vs : List Vl} (h : RowD w RA ca vs) (hb : Below w.heap.size w w') : RowD w' RA ca vs := ⟨h.vals.below hb, h.len, h.nil, h.rng⟩
structure KnD (w : World) (KA : Option Addr) (ks : List (Ex × Vl)) : Prop where
  kn : KnSl (fun _ => True) w KA ks
  len : ks.length ≤ 1048576
  ex : ∀ q ∈ ks, bulkX q.1 ≤ 1048576 ∧ rngX q.1
  rng : ∀ q ∈ ks, inI q.2.int ∧ q.2.text.length ≤ reachBytes
theorem KnD.below {w w' : World} {KA : Option Addr} {ks : List (Ex × Vl)} (h : KnD w KA ks) (hb : Below w.heap.size w w') : KnD w' KA ks := ⟨h.kn.below hb, h.len, h.ex, h.rng⟩
theorem env_of {w : World} {RA RB KA KB : Option Addr} {ca : Nat} {vs : List Vl} {ks : List (Ex × Vl)} (h : RowD w RA ca vs) (hk : KnD w KA ks) (hv : (vs.all fun v => chkV v == 0) = true) (hq : ∀ q ∈ ks, rightX q.1 = true ∧ chkV q.2 = 0) {w' : World} (h1 : ValSl w' RB vs) (h2 : KnSl (fun _ => True) w' KB ks) : EnvW (fun _ => True) w' RB KB vs ks :=
  ⟨h1, h.len, (fun v hm => rv_of (by simpa using List.all_eq_true.mp hv v hm) (h.rng v hm).1 (h.rng v hm).2), h2, hk.len, (fun q hm => rv_of (hq q hm).2 (hk.rng q hm).1 (hk.rng q hm).2), fun q hm => few_of _ (hk.ex q hm).1⟩
theorem chain_b {B : Nat} {w a b : World} (h : Below B w a) (hb : Below a.heap.size a b) (hs : B ≤ a.heap.size) : Below B w b := h.trans (hb.mono hs)
theorem eqV_self (v : Vl) : eqV v v = true := by simp [eqV]
theorem valsC_len : ∀ vs : List Vl, (valsC vs).length = vs.length * 3
  | [] => rfl
  | v :: r => by
    rw [show valsC (v :: r) = [.int .i64 v.kind, .int .i64 v.int, .string ⟨v.text.toArray⟩] ++ valsC r from rfl, List.length_append, valsC_len r]
    simp only [List.length_cons, List.length_nil]
    omega
theorem vals_feed {w : World} {RA : Option Addr} {ca : Nat} {vs : List Vl} (h : RowD w RA ca vs) : Feeds w RA vs.length ca 3 (valsC vs) := by
  have hl := valsC_len vs
  refine ⟨hl, fun a ha j u hu => ?_, h.nil, fun u hu => ?_⟩
  · have hj : j < vs.length * 3 := by
      rw [← hl]
      exact (List.getElem?_eq_some_iff.mp hu).1
    obtain ⟨g, o, e, hv⟩ := h.vals (by omega)
    rw [ha] at e
    injection e with e
    subst e
    have hi : j / 3 < vs.length := by omega
    obtain ⟨c0, c1, c2⟩ := hv (j / 3) hi
    obtain ⟨d0, d1, d2⟩ := valsC_at vs (j / 3) hi
    rw [addr_add]
    rcases (show j = j / 3 * 3 ∨ j = j / 3 * 3 + 1 ∨ j = j / 3 * 3 + 2 by omega) with e | e | e
    · rw [e, d0] at hu; rw [e, c0]; exact hu
    · rw [e, d1] at hu; rw [e, ← Nat.add_assoc, c1]; exact hu
    · rw [e, d2] at hu; rw [e, ← Nat.add_assoc, c2]; exact hu
  · unfold valsC at hu
    obtain ⟨v, _, hv⟩ := List.mem_flatMap.mp hu
    simp only [List.mem_cons, List.not_mem_nil, or_false] at hv
    rcases hv with rfl | rfl | rfl <;> rfl
theorem evalD (us : List Vl) (ks : List (Ex × Vl)) (x : Ex) (m nu nk : Nat) (hm : x.args.length = m) (hu : us.length = nu) (hk : ks.length = nk) (hx : rvX x) (A RA KA : Option Addr) (c rc kc : Nat) (w : World) (he : EnvW (fun _ => True) w RA KA us ks) (hh : Held (fun _ => True) w x.args (.slice A m c)) :
    Calls Try.prog 10 #[exV x (.slice A m c), .slice RA nu rc, .slice KA nk kc] w fun e w' => e = .returned (.tuple #[vC (resVal (evE us ks x)), .int .i64 (resNum (evE us ks x))]) ∧ Below w.heap.size w w' := by
  subst hm; subst hu; subst hk
  exact (eval_calls us ks x hx _ _ A RA KA c rc kc w he hh).mono fun e w' h => ev2_form h
theorem revalD (us : List Vl) (ks : List (Ex × Vl)) (x : Ex) (m nu nk : Nat) (hm : x.args.length = m) (hu : us.length = nu) (hk : ks.length = nk) (hx : rvX x) (hb : bulkX x ≤ 1048576) (A RA KA : Option Addr) (c rc kc : Nat) (w : World) (he : EnvW (fun _ => True) w RA KA us ks) (hh : Held (fun _ => True) w x.args (.slice A m c)) :
    Calls Try.prog 11 #[exV x (.slice A m c), .slice RA nu rc, .slice KA nk kc] w fun e w' => e = .returned (.tuple #[vC (resVal (evE us ks x)), .int .i64 (resNum (evE us ks x))]) ∧ Below w.heap.size w w' := by
  subst hm; subst hu; subst hk
  exact (reval_ok us ks x hx hb _ _ A RA KA c rc kc w he hh).mono fun e w' h => ev2_form h
set_option maxRecDepth 100000 in
set_option maxHeartbeats 25600000 in
theorem does_calls (x : Ex) (hN : bulkX x ≤ 1048576) (hr : rngX x) (A : Option Addr) (c : Nat) (us : List Vl) (RA : Option Addr) (ca : Nat) (ks : List (Ex × Vl)) (KA : Option Addr) (kc : Nat) (w : World) (hh : Held (fun _ => True) w x.args (.slice A x.args.length c)) (ha : RowD w RA ca us) (hk : KnD w KA ks) :
    Calls Try.prog 3 #[exV x (.slice A x.args.length c), .slice RA us.length ca, .slice KA ks.length kc] w fun e w' => e = .returned (.bool true) ∧ Below w.heap.size w w' := by
  have HH := Asd.mk hh
  have HA := Asd.mk ha
  have HK := Asd.mk hk
  have HN := Asd.mk hN
  have HRN := Asd.mk hr
  have HRI := Asd.mk (rights_ok x (few_of x hN))
  have HSI := Asd.mk (size_ok x hN)
  have HCP := Asd.mk (rcopy_ok x (few_of x hN))
  have HRA := Asd.mk (row_calls us ha.len RA ca)
  have HX := Asd.mk (blk_new w (xK x (.slice A x.args.length c)))
  have HB : Asd (Below w.heap.size w (w.alloc (xK x (.slice A x.args.length c)))) := Asd.mk (below_alloc (Below.refl _ _) _)
  obtain ⟨iK, hiK, hzK, hsK, hbK⟩ := info_partsKn
  clear hh ha hN hr hk
  unfold RightsOK at HRI
  unfold SizeOK at HSI
  unfold CopyOK at HCP
  generalize hm : x.args.length = m at HX HB HH HRI HSI HCP ⊢
  have HM := Asd.mk hm
  clear hm
  generalize hnu : us.length = nu at HRA ⊢
  have HNU := Asd.mk hnu
  have hnul : nu ≤ 1048576 := by rw [← hnu]; exact HA.out.len
  clear hnu
  generalize hnk : ks.length = nk
  have HNK := Asd.mk hnk
  clear hnk
  unfold exV
  go_enter Try.func3, Try.ntmps3
  go_upto_region 1 with fail
  generalize w.alloc _ = w1 at HX HB ⊢
  have HHK : Asd (∀ w', Below w1.heap.size w1 w' → Held (fun _ => True) w' x.args (.slice A m c)) := Asd.mk fun w' h => held_below HH.out (chain_b HB.out h HB.out.size)
  have HAK : Asd (∀ w', Below w1.heap.size w1 w' → RowD w' RA ca us) := Asd.mk fun w' h => HA.out.below (chain_b HB.out h HB.out.size)
  have HKK : Asd (∀ w', Below w1.heap.size w1 w' → KnD w' KA ks) := Asd.mk fun w' h => HK.out.below (chain_b HB.out h HB.out.size)
  have HXK : Asd (∀ w', Below w1.heap.size w1 w' → w'.heap[w.heap.size]? = some (xK x (.slice A m c))) := Asd.mk fun w' h => blk_below h HX.out
  have HBE : Asd (∀ w', Below w1.heap.size w1 w' → Below w.heap.size w w') := Asd.mk fun w' h => chain_b HB.out h HB.out.size
  have HW1 : Asd (w.heap.size < w1.heap.size) := Asd.mk (blk_lt HX.out)
  have HBs : Asd (Below w1.heap.size w1 w1) := Asd.mk (Below.refl _ _)
  clear HH HA HK HX HB
  obtain ⟨e0, e1, e2, e3, e4, e5, e6, e7, e8, e9⟩ := ex_cells (x := x) (HXK.out _ HBs.out)
  go_wp2_with fail
  refine (HRI.out _ A c _ (HHK.out _ HBs.out)).mono ?_
  rintro e wa0 ⟨rfl, hb0⟩
  have HBa0 : Asd (Below w1.heap.size w1 wa0) := Asd.mk (below_step HBs.out hb0)
  clear e0 e1 e2 e3 e4 e5 e6 e7 e8 e9 hb0
  cases h0 : rightX x with
  | false =>
    go_wp2
    go_ret
    exact ⟨ret_eq rfl, HBE.out _ HBa0.out⟩
  | true =>
    have HR1 := Asd.mk h0
    clear h0
    go_wp2_with fail
    refine (HRA.out _ (HAK.out _ HBa0.out).vals).mono ?_
    rintro e wa1 ⟨rfl, hb1⟩
    have HBa1 : Asd (Below w1.heap.size w1 wa1) := Asd.mk (below_step HBa0.out hb1)
    clear hb1
    cases h1 : (us.all fun v => chkV v == 0) with
    | false =>
      go_wp2
      go_ret
      exact ⟨ret_eq rfl, HBE.out _ HBa1.out⟩
    | true =>
      have HR2 := Asd.mk h1
      clear h1
      obtain ⟨e0, e1, e2, e3, e4, e5, e6, e7, e8, e9⟩ := ex_cells (x := x) (HXK.out _ HBa1.out)
      go_wp2_with fail
      refine (HSI.out _ A c _ (HHK.out _ HBa1.out)).mono ?_
      rintro e wa2 ⟨rfl, hb2⟩
      have HBa2 : Asd (Below w1.heap.size w1 wa2) := Asd.mk (below_step HBa1.out hb2)
      clear e0 e1 e2 e3 e4 e5 e6 e7 e8 e9 hb2
      cases h3 : decide (500 < ((sizeX x : Nat) : Int)) with
      | true =>
        go_wp2
        go_ret
        exact ⟨ret_eq rfl, HBE.out _ HBa2.out⟩
      | false =>
        by_cases h50 : 50 < nk
        · go_wp2
          go_ret
          exact ⟨ret_eq rfl, HBE.out _ HBa2.out⟩
        have HBL := HBa2
        have HRX := Asd.mk (rvX_of x HR1.out HRN.out HN.out)
        go_wp2
        clear HRI HSI HRA h3
        go_loopw [7, 8] (fun l i wr => ∃ (k : Nat) (ps : List ((Ex × Vl) × Value)) (A' : Option Addr) (c' : Nat), k ≤ nk ∧ i = .int .i64 (k : Int) ∧ l = .slice A' k c' ∧ Asd (Below w1.heap.size w1 wr) ∧ Asd (ps.length = k ∧ ps.map (·.1) = ks.take k) ∧ Asd (wr.ownsRow w1.heap.size 38 13 (.slice A' k c') k (rowsK ps)) ∧ Asd (∀ p ∈ ps, Held (fun g => w1.heap.size ≤ g ∧ ¬ some g = (Value.slice A' k c').ownBlock) wr p.1.1.args p.2) ∧ Asd (∀ q ∈ ks.take k, rightX q.1 = true ∧ chkV q.2 = 0)) (fun _ i _ => nk - (intOf i).toNat)
        case atStart => exact ⟨0, [], none, 0, by omega, rfl, rfl, ⟨HBL.out⟩, ⟨rfl, by simp⟩, ⟨⟨by simp [rowsK], .inl ⟨rfl, rfl⟩⟩⟩, ⟨fun p hp => by cases hp⟩, ⟨fun q hq => by simp at hq⟩⟩
        case round =>
          obtain ⟨k, ps, A', c', hk, rfl, rfl, HBR, HPS, HOW, HHE, HRQ⟩ := hrel
          by_cases hlt : k < nk
          · have hkv : k < ks.length := by rw [HNK.out]; exact hlt
            obtain ⟨g, o, rfl, hv⟩ := (HKK.out _ HBs.out).kn (by omega)
            obtain ⟨A1, n1, c1, hr, hhq, y0, y1, y2⟩ := hv k hkv
            obtain ⟨A1', c1', he2⟩ := held_len hhq
            have hn1 : n1 = ks[k].1.args.length := by
              injection he2
            subst hn1
            clear he2 hv
            have HTK : Asd (ks.take (k + 1) = ks.take k ++ [ks[k]]) := Asd.mk (List.take_succ_eq_append_getElem hkv)
            have HEX := Asd.mk ((HKK.out _ HBs.out).ex _ (List.getElem_mem hkv))
            generalize ks[k] = q at hr hhq y0 y1 y2 HTK HEX
            have HHQ := Asd.mk hhq
            have x0 : w1.cell? ⟨g, o + k * 13, none⟩ = some (.int .i64 q.1.kind) := hr 0 (by omega)
            have x1 : w1.cell? ⟨g, o + k * 13 + 1, none⟩ = some (.int .i64 q.1.op) := hr 1 (by omega)
            have x2 : w1.cell? ⟨g, o + k * 13 + 2, none⟩ = some (.int .i64 q.1.v.kind) := hr 2 (by omega)
            have x3 : w1.cell? ⟨g, o + k * 13 + 3, none⟩ = some (.int .i64 q.1.v.int) := hr 3 (by omega)
            have x4 : w1.cell? ⟨g, o + k * 13 + 4, none⟩ = some (.string ⟨q.1.v.text.toArray⟩) := hr 4 (by omega)
            have x5 : w1.cell? ⟨g, o + k * 13 + 5, none⟩ = some (.string ⟨q.1.table.toArray⟩) := hr 5 (by omega)
            have x6 : w1.cell? ⟨g, o + k * 13 + 6, none⟩ = some (.string ⟨q.1.name.toArray⟩) := hr 6 (by omega)
            have x7 : w1.cell? ⟨g, o + k * 13 + 7, none⟩ = some (.int .i64 q.1.col) := hr 7 (by omega)
            have x8 : w1.cell? ⟨g, o + k * 13 + 8, none⟩ = some (.int .i64 q.1.ty) := hr 8 (by omega)
            have x9 : w1.cell? ⟨g, o + k * 13 + 9, none⟩ = some (.slice A1 q.1.args.length c1) := hr 9 (by omega)
            have x10 : w1.cell? ⟨g, o + k * 13 + 10, none⟩ = some (.int .i64 q.2.kind) := y0
            have x11 : w1.cell? ⟨g, o + k * 13 + 11, none⟩ = some (.int .i64 q.2.int) := y1
            have x12 : w1.cell? ⟨g, o + k * 13 + 12, none⟩ = some (.string ⟨q.2.text.toArray⟩) := y2
            have HCC : Asd (∀ w', Below w1.heap.size w1 w' → w'.cell? ⟨g, o + k * 13, none⟩ = some (.int .i64 q.1.kind) ∧ w'.cell? ⟨g, o + k * 13 + 1, none⟩ = some (.int .i64 q.1.op) ∧ w'.cell? ⟨g, o + k * 13 + 2, none⟩ = some (.int .i64 q.1.v.kind) ∧ w'.cell? ⟨g, o + k * 13 + 3, none⟩ = some (.int .i64 q.1.v.int) ∧ w'.cell? ⟨g, o + k * 13 + 4, none⟩ = some (.string ⟨q.1.v.text.toArray⟩) ∧ w'.cell? ⟨g, o + k * 13 + 5, none⟩ = some (.string ⟨q.1.table.toArray⟩) ∧ w'.cell? ⟨g, o + k * 13 + 6, none⟩ = some (.string ⟨q.1.name.toArray⟩) ∧ w'.cell? ⟨g, o + k * 13 + 7, none⟩ = some (.int .i64 q.1.col) ∧ w'.cell? ⟨g, o + k * 13 + 8, none⟩ = some (.int .i64 q.1.ty) ∧ w'.cell? ⟨g, o + k * 13 + 9, none⟩ = some (.slice A1 q.1.args.length c1) ∧ w'.cell? ⟨g, o + k * 13 + 10, none⟩ = some (.int .i64 q.2.kind) ∧ w'.cell? ⟨g, o + k * 13 + 11, none⟩ = some (.int .i64 q.2.int) ∧ w'.cell? ⟨g, o + k * 13 + 12, none⟩ = some (.string ⟨q.2.text.toArray⟩) ∧ Below w1.heap.size w1 w') := Asd.mk fun w' hb => ⟨(hb.cell (World.block_lt_of_cell? w1 _ x0)).trans x0, (hb.cell (World.block_lt_of_cell? w1 _ x1)).trans x1, (hb.cell (World.block_lt_of_cell? w1 _ x2)).trans x2, (hb.cell (World.block_lt_of_cell? w1 _ x3)).trans x3, (hb.cell (World.block_lt_of_cell? w1 _ x4)).trans x4, (hb.cell (World.block_lt_of_cell? w1 _ x5)).trans x5, (hb.cell (World.block_lt_of_cell? w1 _ x6)).trans x6, (hb.cell (World.block_lt_of_cell? w1 _ x7)).trans x7, (hb.cell (World.block_lt_of_cell? w1 _ x8)).trans x8, (hb.cell (World.block_lt_of_cell? w1 _ x9)).trans x9, (hb.cell (World.block_lt_of_cell? w1 _ x10)).trans x10, (hb.cell (World.block_lt_of_cell? w1 _ x11)).trans x11, (hb.cell (World.block_lt_of_cell? w1 _ x12)).trans x12, hb⟩
            clear x0 x1 x2 x3 x4 x5 x6 x7 x8 x9 x10 x11 x12 y0 y1 y2 hr hhq hkv
            have HRK := Asd.mk (rights_ok q.1 (few_of q.1 HEX.out.1))
            have HCK := Asd.mk (rcopy_ok q.1 (few_of q.1 HEX.out.1))
            unfold RightsOK exV at HRK
            unfold CopyOK at HCK
            have HKV := Asd.mk (rchk_calls q.2)
            unfold vC at HKV
            have hk0 : (0 : Int) ≤ (k : Int) := by omega
            obtain ⟨x0, x1, x2, x3, x4, x5, x6, x7, x8, x9, x10, x11, x12, _⟩ := HCC.out _ HBR.out
            go_wp2_with fail
            refine (HRK.out _ A1 c1 _ (held_below HHQ.out HBR.out)).mono ?_
            rintro e w3 ⟨rfl, hb3⟩
            have HB3 : Asd (Below w1.heap.size w1 w3) := Asd.mk (below_step HBR.out hb3)
            have HBR3 := Asd.mk hb3
            clear x0 x1 x2 x3 x4 x5 x6 x7 x8 x9 x10 x11 x12 hb3 HRK
            cases hr1 : rightX q.1 with
            | false =>
              go_wp2
              go_ret
              exact ⟨ret_eq rfl, HBE.out _ HB3.out⟩
            | true =>
              obtain ⟨x0, x1, x2, x3, x4, x5, x6, x7, x8, x9, x10, x11, x12, _⟩ := HCC.out _ HB3.out
              go_wp2_with fail
              refine (HKV.out _).mono ?_
              rintro e w4 ⟨rfl, hb4⟩
              have HB4 : Asd (Below w1.heap.size w1 w4) := Asd.mk (below_step HB3.out hb4)
              have HBR4 : Asd (Below wr.heap.size wr w4) := Asd.mk (below_step HBR3.out hb4)
              clear x0 x1 x2 x3 x4 x5 x6 x7 x8 x9 x10 x11 x12 hb4 HKV HB3 HBR3
              cases hr2 : (chkV q.2 != 0) with
              | true =>
                go_wp2
                go_ret
                exact ⟨ret_eq rfl, HBE.out _ HB4.out⟩
              | false =>
                have HRQ2 : Asd (∀ p ∈ ks.take (k + 1), rightX p.1 = true ∧ chkV p.2 = 0) := Asd.mk fun p hp => by
                  rw [HTK.out] at hp
                  rcases List.mem_append.mp hp with hp | hp
                  · exact HRQ.out p hp
                  · rw [List.mem_singleton] at hp
                    subst hp
                    exact ⟨hr1, by simpa using hr2⟩
                have HO4 := Asd.mk (own_keep HOW.out HBR4.out)
                have HE4 : Asd (∀ p ∈ ps, Held (fun g => w1.heap.size ≤ g ∧ ¬ some g = (Value.slice A' k c').ownBlock) w4 p.1.1.args p.2) := Asd.mk fun p hp => held_below (HHE.out p hp) HBR4.out
                have HOL : Asd (∀ b, (Value.slice A' k c').ownBlock = some b → b < w4.heap.size) := Asd.mk fun b hb => (HO4.out.lt b hb).2
                have HS4 : Asd (w1.heap.size ≤ w4.heap.size) := Asd.mk HB4.out.size
                go_upto_region 9 with fail
                clear hr1 hr2 HRQ HBR4 HOW HHE
                go_region_held3 (fun w' => w'.cell? ⟨g, o + k * 13, none⟩ = some (.int .i64 q.1.kind) ∧ w'.cell? ⟨g, o + k * 13 + 1, none⟩ = some (.int .i64 q.1.op) ∧ w'.cell? ⟨g, o + k * 13 + 2, none⟩ = some (.int .i64 q.1.v.kind) ∧ w'.cell? ⟨g, o + k * 13 + 3, none⟩ = some (.int .i64 q.1.v.int) ∧ w'.cell? ⟨g, o + k * 13 + 4, none⟩ = some (.string ⟨q.1.v.text.toArray⟩) ∧ w'.cell? ⟨g, o + k * 13 + 5, none⟩ = some (.string ⟨q.1.table.toArray⟩) ∧ w'.cell? ⟨g, o + k * 13 + 6, none⟩ = some (.string ⟨q.1.name.toArray⟩) ∧ w'.cell? ⟨g, o + k * 13 + 7, none⟩ = some (.int .i64 q.1.col) ∧ w'.cell? ⟨g, o + k * 13 + 8, none⟩ = some (.int .i64 q.1.ty) ∧ w'.cell? ⟨g, o + k * 13 + 9, none⟩ = some (.slice A1 q.1.args.length c1) ∧ w'.cell? ⟨g, o + k * 13 + 10, none⟩ = some (.int .i64 q.2.kind) ∧ w'.cell? ⟨g, o + k * 13 + 11, none⟩ = some (.int .i64 q.2.int) ∧ w'.cell? ⟨g, o + k * 13 + 12, none⟩ = some (.string ⟨q.2.text.toArray⟩) ∧ Below w1.heap.size w1 w')
                  (first
                    | exact HCC.out _ HB4.out
                    | exact HCC.out _ HB4.out.drew
                    | exact HCC.out _ HB6.out
                    | exact HCC.out _ (below_alloc HB6.out _)
                    | exact HCC.out _ HB8.out
                    | (go_split_ands; exact HCC.out _ (by assumption))
                    | fail)
                  (first
                    | (go_at_call 9
                       refine (HCK.out (fun _ => True) A1 c1 _ (held_below HHQ.out HB4.out.drew)).mono ?_
                       rintro e w6 ⟨hb6, A6, c6, rfl, hh6⟩
                       have HB6 : Asd (Below w1.heap.size w1 w6) := Asd.mk (HB4.out.drew.trans (hb6.mono HB4.out.drew.size))
                       have HB46 : Asd (Below w4.heap.size w4 w6) := Asd.mk ((Below.refl w4.heap.size w4).drew.trans (hb6.mono (Below.refl w4.heap.size w4).drew.size))
                       have HH6 : Asd (Held (fun g => w4.heap.size ≤ g ∧ g < w6.heap.size) w6 q.1.args (.slice A6 q.1.args.length c6)) := Asd.mk (held_mono hh6 fun g hg hq => ⟨hq, hg⟩)
                       have HO6 := Asd.mk (own_keep HO4.out HB46.out)
                       have HE6 : Asd (∀ p ∈ ps, Held (fun g => w1.heap.size ≤ g ∧ g < w4.heap.size ∧ ¬ some g = (Value.slice A' k c').ownBlock) w6 p.1.1.args p.2) := Asd.mk fun p hp => held_below (held_mono (HE4.out p hp) fun g hg hq => ⟨hq.1, hg, hq.2⟩) HB46.out
                       have HS6 : Asd (w4.heap.size ≤ w6.heap.size) := Asd.mk HB46.out.size
                       clear hb6 hh6
                       unfold exV)
                    | (have hba : Below w6.heap.size w6 (w6.alloc (.cells #[.int .i64 q.1.kind, .int .i64 q.1.op, .int .i64 q.1.v.kind, .int .i64 q.1.v.int, .string ⟨q.1.v.text.toArray⟩, .string ⟨q.1.table.toArray⟩, .string ⟨q.1.name.toArray⟩, .int .i64 q.1.col, .int .i64 q.1.ty, .slice A6 q.1.args.length c6, .int .i64 q.2.kind, .int .i64 q.2.int, .string ⟨q.2.text.toArray⟩] 38 (0, 0))) := below_alloc (Below.refl _ _) _
                       have HO7 := Asd.mk (own_keep HO6.out hba)
                       have HE7 : Asd (∀ p ∈ ps, Held (fun g => w1.heap.size ≤ g ∧ g < w4.heap.size ∧ ¬ some g = (Value.slice A' k c').ownBlock) (w6.alloc (.cells #[.int .i64 q.1.kind, .int .i64 q.1.op, .int .i64 q.1.v.kind, .int .i64 q.1.v.int, .string ⟨q.1.v.text.toArray⟩, .string ⟨q.1.table.toArray⟩, .string ⟨q.1.name.toArray⟩, .int .i64 q.1.col, .int .i64 q.1.ty, .slice A6 q.1.args.length c6, .int .i64 q.2.kind, .int .i64 q.2.int, .string ⟨q.2.text.toArray⟩] 38 (0, 0))) p.1.1.args p.2) := Asd.mk fun p hp => held_below (HE6.out p hp) hba
                       have HH7 := Asd.mk (held_below HH6.out hba)
                       have HB7 := Asd.mk (below_step HB6.out hba)
                       have HN7 := Asd.mk (blk_new w6 (.cells #[.int .i64 q.1.kind, .int .i64 q.1.op, .int .i64 q.1.v.kind, .int .i64 q.1.v.int, .string ⟨q.1.v.text.toArray⟩, .string ⟨q.1.table.toArray⟩, .string ⟨q.1.name.toArray⟩, .int .i64 q.1.col, .int .i64 q.1.ty, .slice A6 q.1.args.length c6, .int .i64 q.2.kind, .int .i64 q.2.int, .string ⟨q.2.text.toArray⟩] 38 (0, 0)))
                       have HZ7 : Asd ((w6.alloc (.cells #[.int .i64 q.1.kind, .int .i64 q.1.op, .int .i64 q.1.v.kind, .int .i64 q.1.v.int, .string ⟨q.1.v.text.toArray⟩, .string ⟨q.1.table.toArray⟩, .string ⟨q.1.name.toArray⟩, .int .i64 q.1.col, .int .i64 q.1.ty, .slice A6 q.1.args.length c6, .int .i64 q.2.kind, .int .i64 q.2.int, .string ⟨q.2.text.toArray⟩] 38 (0, 0))).heap.size = w6.heap.size + 1) := Asd.mk (by simp)
                       clear hba
                       refine step_append_lies _ (by rfl) _ _ 32 (by rfl) w1.heap.size 38 iK (.agg #[.int .i64 0, .int .i64 0, .int .i64 0, .int .i64 0, .string ⟨#[]⟩, .string ⟨#[]⟩, .string ⟨#[]⟩, .int .i64 0, .int .i64 0, .slice none 0 0, .int .i64 0, .int .i64 0, .string ⟨#[]⟩]) 13 152 Try.underlying32 hiK hzK hsK hbK (by rfl) (by decide) (.slice A' k c') k (rowsK ps) (by rfl) HO7.out ⟨w6.heap.size, 0, none⟩ 1 1 (kcC q (.slice A6 q.1.args.length c6)) (by rfl) (by rfl) (World.news_of_block HN7.out) (by intro u hu; simp only [kcC, exC, List.mem_cons, List.mem_append, List.cons_append, List.nil_append, List.not_mem_nil, or_false] at hu; rcases hu with rfl | rfl | rfl | rfl | rfl | rfl | rfl | rfl | rfl | rfl | rfl | rfl | rfl <;> rfl) (by decide) (by unfold maxLen; omega) (by omega) (by have := HS4.out; have := HS6.out; have := HZ7.out; omega) (w6.heap.size + 1) HZ7.out ?_
                       intro g2 cap2 w8 hown' hgr hor hlt2
                       have HO8 : Asd (w8.ownsRow w1.heap.size 38 13 (.slice (some ⟨g2, 0, none⟩) (k + 1) cap2) (k + 1) (rowsK (ps ++ [(q, Value.slice A6 q.1.args.length c6)]))) := Asd.mk (by rw [rowsK_snoc]; exact hown')
                       have HB8 : Asd (Below w1.heap.size w1 w8) := Asd.mk (below_own HB7.out HO7.out hgr (Nat.le_refl _))
                       have HP8 : Asd ((ps ++ [(q, Value.slice A6 q.1.args.length c6)]).length = k + 1 ∧ (ps ++ [(q, Value.slice A6 q.1.args.length c6)]).map (fun p => p.1) = ks.take (k + 1)) := Asd.mk ⟨by rw [List.length_append, HPS.out.1]; rfl, by rw [List.map_append, HPS.out.2, HTK.out]; rfl⟩
                       have HOB : Asd ((Value.slice (some ⟨g2, 0, none⟩) (k + 1) cap2).ownBlock = some g2) := Asd.mk rfl
                       have HH8 : Asd (∀ p ∈ ps ++ [(q, Value.slice A6 q.1.args.length c6)], Held (fun g => w1.heap.size ≤ g ∧ ¬ some g = (Value.slice (some ⟨g2, 0, none⟩) (k + 1) cap2).ownBlock) w8 p.1.1.args p.2) := Asd.mk fun p hp => by
                         rcases List.mem_append.mp hp with hp | hp
                         · refine held_mono (held_grown (HE7.out p hp) hgr (fun g hg => hg.2.2)) fun g _ hg => ⟨hg.1, fun e => ?_⟩
                           rw [HOB.out] at e
                           injection e with e
                           subst e
                           rcases hor with h | h
                           · exact hg.2.2 h.symm
                           · have := hg.2.1; have := HS6.out; omega
                         · obtain rfl := List.mem_singleton.mp hp
                           refine held_mono (held_grown HH7.out hgr (fun g hg e => ?_)) fun g _ hg => ⟨by have := HS4.out; have := hg.1; omega, fun e => ?_⟩
                           · have := HOL.out g e.symm; have := hg.1; omega
                           · rw [HOB.out] at e
                             injection e with e
                             subst e
                             rcases hor with h | h
                             · have := HOL.out g h; have := hg.1; omega
                             · have := hg.2; omega
                       clear hown' hgr hor)
                    | fail)
                go_wp2
                go_roundw
                case rel => exact ⟨k + 1, _, _, _, by omega, by go_num, rfl, HB8, HP8, HO8, HH8, HRQ2⟩
                case measure => simp [intOf]; omega
          · obtain rfl : k = nk := by omega
            have HTA : Asd (ks.take k = ks) := Asd.mk (List.take_of_length_le (by rw [HNK.out]; exact Nat.le_refl _))
            rw [HTA.out] at HPS HRQ
            have HKN : Asd (KnSl (fun _ => True) wr A' ks) := Asd.mk (by
              have h := kn_of_own (P := fun _ => True) ps HPS.out.1.symm HOW.out (fun p hp => by
                obtain ⟨A9, n9, c9, e9⟩ := held_slice (HHE.out p hp)
                exact ⟨A9, n9, c9, e9, by rw [← e9]; exact held_mono (HHE.out p hp) fun _ _ _ => trivial⟩)
              rw [HPS.out.2] at h
              exact h)
            have HSR : Asd (w1.heap.size ≤ wr.heap.size) := Asd.mk HBR.out.size
            clear hlt HOW HHE HPS HTA
            obtain ⟨e0, e1, e2, e3, e4, e5, e6, e7, e8, e9⟩ := ex_cells (x := x) (HXK.out _ HBR.out)
            go_wp2_with fail
            refine (HCP.out (fun _ => True) A c _ (HHK.out _ HBR.out)).mono ?_
            rintro e w5 ⟨hb5, A5, c5, rfl, hh5⟩
            have HB5 : Asd (Below w1.heap.size w1 w5) := Asd.mk (below_step HBR.out hb5)
            have HK5 := Asd.mk (HKN.out.below hb5)
            have HH5 : Asd (Held (fun _ => True) w5 x.args (.slice A5 m c5)) := Asd.mk (held_mono hh5 fun _ _ _ => trivial)
            have HS5 : Asd (w1.heap.size ≤ w5.heap.size) := Asd.mk HB5.out.size
            clear e0 e1 e2 e3 e4 e5 e6 e7 e8 e9 hb5 hh5 HKN HCP
            have HBA : Asd (Below w5.heap.size w5 (w5.alloc (.cells #[] 23 (0, 0)))) := Asd.mk (below_alloc (Below.refl _ _) _)
            have HF5 : Asd (Feeds (w5.alloc (.cells #[] 23 (0, 0))) RA nu ca 3 (valsC us)) := Asd.mk (by
              have h := vals_feed (HAK.out _ (below_step HB5.out HBA.out))
              rw [HNU.out] at h
              exact h)
            unfold exV
            go_wp2_with (at_builtin; refine wpList_src rfl (.tmp 72) (.tmp 73) _ rfl rowV _ rfl (own_empty_new (B := w5.heap.size) rfl (Nat.le_refl _)) RA nu ca rfl HF5.out (by unfold maxLen; omega) (by omega) (by simp) ?_)
            intro A8 c8 w8 ho8 hg8
            have HB58 : Asd (Below w5.heap.size w5 w8) := Asd.mk (below_own HBA.out (own_empty_new (B := w5.heap.size) (e := 23) (s := 3) rfl (Nat.le_refl _)) hg8 (Nat.le_refl _))
            have HB8 : Asd (Below w1.heap.size w1 w8) := Asd.mk (below_step HB5.out HB58.out)
            have HV8 : Asd (ValSl w8 A8 us) := Asd.mk (own_vals ho8 HNU.out.symm)
            have HK8 := Asd.mk (HK5.out.below HB58.out)
            have HH8 := Asd.mk (held_below HH5.out HB58.out)
            clear ho8 hg8
            have HX9 := Asd.mk (blk_new w8 (xK x (.slice A5 m c5)))
            have HB89 : Asd (Below w8.heap.size w8 (w8.alloc (xK x (.slice A5 m c5)))) := Asd.mk (below_alloc (Below.refl _ _) _)
            go_upto_region 11 with fail
            generalize w8.alloc _ = w9 at HX9 HB89 ⊢
            have HB9 : Asd (Below w1.heap.size w1 w9) := Asd.mk (below_step HB8.out HB89.out)
            have HV9 := Asd.mk (HV8.out.below HB89.out)
            have HK9 := Asd.mk (HK8.out.below HB89.out)
            have HH9 := Asd.mk (held_below HH8.out HB89.out)
            have HEN9 := Asd.mk (env_of (HAK.out _ HBR.out) (HKK.out _ HBR.out) HR2.out HRQ.out HV9.out HK9.out)
            generalize w8.heap.size = b9 at HX9 ⊢
            clear HB89 HB58 HV8 HK8 HH8 HF5 HBA HK5 HH5
            have hval : ∃ u n1, resVal (evE us ks x) = u ∧ resNum (evE us ks x) = n1 := ⟨_, _, rfl, rfl⟩
            obtain ⟨u, n1, hu, hn⟩ := hval
            have HU := Asd.mk hu
            have HN1 := Asd.mk hn
            clear hu hn
            have hve : ∀ W, (binOp .eql 23 (.agg #[.int .i64 u.kind, .int .i64 u.int, .string ⟨u.text.toArray⟩]) (.agg #[.int .i64 u.kind, .int .i64 u.int, .string ⟨u.text.toArray⟩])).run Try.prog W = .ok (.bool true) W := fun W => by
              have h := vC_eql u u W
              rw [eqV_self] at h
              exact h
            obtain ⟨f0, f1, f2, f3, f4, f5, f6, f7, f8, f9⟩ := ex_cells (x := x) HX9.out
            go_wp2_with fail
            refine (evalD us ks x m nu k HM.out HNU.out HNK.out HRX.out A5 A8 A' c5 c8 c' w9 HEN9.out HH9.out).mono ?_
            rintro e wa ⟨rfl, hba⟩
            rw [HU.out, HN1.out]
            have HBa : Asd (Below w1.heap.size w1 wa) := Asd.mk (below_step HB9.out hba)
            have HX9a := Asd.mk (blk_below hba HX9.out)
            have HVa := Asd.mk (HV9.out.below hba)
            have HHa := Asd.mk (held_below HH9.out hba)
            clear f0 f1 f2 f3 f4 f5 f6 f7 f8 f9 hba HEN9 HV9 HK9 HH9 HX9
            simp only [vC]
            have HU1 := Asd.mk (blk_new wa (vK u))
            have HAB : Asd (Below wa.heap.size wa (wa.alloc (vK u))) := Asd.mk (below_alloc (Below.refl _ _) _)
            go_upto_region 12 with fail
            generalize wa.alloc _ = wb at HU1 HAB ⊢
            have HBb : Asd (Below w1.heap.size w1 wb) := Asd.mk (below_step HBa.out HAB.out)
            have HX9b := Asd.mk (blk_below HAB.out HX9a.out)
            have HVb := Asd.mk (HVa.out.below HAB.out)
            have HHb := Asd.mk (held_below HHa.out HAB.out)
            generalize wa.heap.size = b11 at HU1 ⊢
            clear HAB HX9a HVa HHa
            obtain ⟨e0, e1, e2, e3, e4, e5, e6, e7, e8, e9⟩ := ex_cells (x := x) (HXK.out _ HBb.out)
            go_wp2_with fail
            refine (revalD us ks x m nu k HM.out HNU.out HNK.out HRX.out HN.out A RA KA c ca kc _ (env_of (HAK.out _ HBR.out) (HKK.out _ HBR.out) HR2.out HRQ.out (HAK.out _ HBb.out).vals (HKK.out _ HBb.out).kn) (HHK.out _ HBb.out)).mono ?_
            rintro e wc ⟨rfl, hbc⟩
            rw [HU.out, HN1.out]
            have HBc : Asd (Below w1.heap.size w1 wc) := Asd.mk (below_step HBb.out hbc)
            have HX9c := Asd.mk (blk_below hbc HX9b.out)
            have HU1c := Asd.mk (blk_below hbc HU1.out)
            have HVc := Asd.mk (HVb.out.below hbc)
            have HHc := Asd.mk (held_below HHb.out hbc)
            clear e0 e1 e2 e3 e4 e5 e6 e7 e8 e9 hbc HX9b HVb HHb HU1
            simp only [vC]
            have HU2 := Asd.mk (blk_new wc (vK u))
            have HCD : Asd (Below wc.heap.size wc (wc.alloc (vK u))) := Asd.mk (below_alloc (Below.refl _ _) _)
            go_upto_region 13 with fail
            generalize wc.alloc _ = wd at HU2 HCD ⊢
            have HBd : Asd (Below w1.heap.size w1 wd) := Asd.mk (below_step HBc.out HCD.out)
            have HX9d := Asd.mk (blk_below HCD.out HX9c.out)
            have HU1d := Asd.mk (blk_below HCD.out HU1c.out)
            have HVd := Asd.mk (HVc.out.below HCD.out)
            have HHd := Asd.mk (held_below HHc.out HCD.out)
            generalize wc.heap.size = b13 at HU2 ⊢
            clear HCD HX9c HVc HHc HU1c
            obtain ⟨p0, p1, p2⟩ := val_cells HU1d.out
            obtain ⟨q0, q1, q2⟩ := val_cells HU2.out
            obtain ⟨f0, f1, f2, f3, f4, f5, f6, f7, f8, f9⟩ := ex_cells (x := x) HX9d.out
            obtain ⟨e0, e1, e2, e3, e4, e5, e6, e7, e8, e9⟩ := ex_cells (x := x) (HXK.out _ HBd.out)
            have HSM := Asd.mk (rsame_calls (fun _ => True) (fun _ => True) x x (.slice A5 m c5) (.slice A m c) wd (few_of x HN.out) HHd.out (HHK.out _ HBd.out))
            unfold SameR at HSM
            rw [sameE_self] at HSM
            go_wp2_with fail
            refine HSM.out.mono ?_
            rintro e we ⟨rfl, hbe⟩
            have HBe : Asd (Below w1.heap.size w1 we) := Asd.mk (below_step HBd.out hbe)
            have HVe := Asd.mk (HVd.out.below hbe)
            clear e0 e1 e2 e3 e4 e5 e6 e7 e8 e9 f0 f1 f2 f3 f4 f5 f6 f7 f8 f9 p0 p1 p2 q0 q1 q2 hbe
            have HSW := Asd.mk (samerow_calls us (HAK.out _ HBR.out).len A8 RA c8 ca we HVe.out (HAK.out _ HBe.out).vals)
            rw [HNU.out] at HSW
            go_wp2_with fail
            refine HSW.out.mono ?_
            rintro e wf ⟨rfl, hbf⟩
            have HBf : Asd (Below w1.heap.size w1 wf) := Asd.mk (below_step HBe.out hbf)
            clear hbf
            go_wp2
            go_ret
            exact ⟨ret_eq rfl, HBE.out _ HBf.out⟩
end Go.Proofs.Ytinflndbfdbnhaa.Exp

/- EvalDoes: the arguments as they come in. -/
set_option linter.unusedVariables false
set_option linter.unusedSimpArgs false
namespace Go.Proofs.Ytinflndbfdbnhaa.Exp
open Go.RowKit Go.Proofs.Ytinflndbfdbnhaa.Base Go.Proofs.Ytinflndbfdbnhaa.App Go.Proofs.Ytinflndbfdbnhaa.Byt Go.Proofs.Ytinflndbfdbnhaa.Rd Go.Deep Go.ChangeShapes Go.WideShapes

set_option maxRecDepth 100000 in
theorem open_exv {H : Type} {enc : TypeId × Value → H} (W : World) (v : Value) (d : DataW H) (p : List MemPlace) (h : DataW.Trod enc Try.prog W 0 (fun _ => true) true 26 v d p) (hb : Rows.uptoBulk d ≤ 1048576) (hz : W.noneFrozen p) :
    ∃ x A c, v = exV x (.slice A x.args.length c) ∧ Held (fun _ => True) W x.args (.slice A x.args.length c) ∧ bulkX x ≤ 1048576 ∧ rngX x := by
  obtain ⟨m, hm⟩ := h
  obtain ⟨x, s, hc, hh, hbk, hr⟩ := open_ex 1048576 m _ _ hb hz hm
  obtain ⟨A, c, rfl⟩ := held_len hh
  refine ⟨x, A, c, ?_, hh, Nat.le_trans hbk hb, hr⟩
  have hcc : v.cells = (exC x (.slice A x.args.length c)).toArray := by rw [← hc]
  cases v with
  | agg cs => exact congrArg Value.agg hcc
  | _ => exact absurd (congrArg Array.size hcc) (by simp [Value.cells, exC])
theorem nil_of {H : Type} {enc : TypeId × Value → H} {W : World} {fuel : Nat} {A : Option Addr} {n c : Nat} {t e : TypeId} {x : DataW H × List MemPlace} (ht : Try.prog.underlying t = some (.slice e)) (h : DataW.trod enc Try.prog W 0 (fun _ => true) true fuel t [.slice A n c] = some x) : A = none → n = 0 ∧ c = 0 := by
  rintro rfl
  rcases open_slice ht h with ⟨h0, _⟩ | ⟨a, len, cap, m, n', D, Pl, h0, _⟩
  · injection h0 with h0 _
    injection h0 with _ h1 h2
    exact ⟨h1, h2⟩
  · injection h0 with h0 _
    injection h0 with h0 _ _
    cases h0
set_option maxRecDepth 100000 in
theorem open_rowd {H : Type} {enc : TypeId × Value → H} (W : World) (v : Value) (d : DataW H) (p : List MemPlace) {base : Nat} (ok : Value.okWide Try.prog W .any base 27 v) (h : DataW.Trod enc Try.prog W 0 (fun _ => true) true 27 v d p) (hb : Rows.uptoBulk d ≤ 1048576) :
    ∃ A c vs, v = .slice A vs.length c ∧ RowD W A c vs := by
  obtain ⟨m, hm⟩ := h
  obtain ⟨A', n', c', rfl⟩ := Go.WideShapes.okWide_slice Try.underlying27 ok
  obtain ⟨A, c, vs, hc, hv, hl, hr⟩ := open_vals hm
  have hn := nil_of Try.underlying27 (show DataW.trod enc Try.prog W 0 (fun _ => true) true m 27 [.slice A' n' c'] = some (d, p) from hm)
  have hc' : Value.slice A' n' c' = .slice A vs.length c := by simpa [Value.cells] using hc
  injection hc' with e1 e2 e3
  subst e1; subst e2; subst e3
  exact ⟨A', c', vs, rfl, hv, Nat.le_trans hl hb, hn, fun u hu => ⟨(hr u hu).1, Nat.le_trans (hr u hu).2 (Nat.le_trans hb (by unfold reachBytes; omega))⟩⟩
set_option maxRecDepth 100000 in
theorem open_knd {H : Type} {enc : TypeId × Value → H} (W : World) (v : Value) (d : DataW H) (p : List MemPlace) {base : Nat} (ok : Value.okWide Try.prog W .any base 28 v) (h : DataW.Trod enc Try.prog W 0 (fun _ => true) true 28 v d p) (hb : Rows.uptoBulk d ≤ 1048576) (hz : W.noneFrozen p) :
    ∃ A c ks, v = .slice A ks.length c ∧ KnD W A ks := by
  obtain ⟨m, hm⟩ := h
  obtain ⟨A', n', c', rfl⟩ := Go.WideShapes.okWide_slice Try.underlying28 ok
  obtain ⟨A, c, ks, hc, hv, hl, hr⟩ := open_known hz hm
  have hc' : Value.slice A' n' c' = .slice A ks.length c := by simpa [Value.cells] using hc
  injection hc' with e1 e2 e3
  subst e1; subst e2; subst e3
  exact ⟨A', c', ks, rfl, hv, Nat.le_trans hl hb, fun q hq => ⟨Nat.le_trans (hr q hq).1.1 hb, (hr q hq).1.2⟩, fun q hq => ⟨(hr q hq).2.1, Nat.le_trans (hr q hq).2.2 (Nat.le_trans hb (by unfold reachBytes; omega))⟩⟩
set_option maxRecDepth 100000 in
theorem does_raw {H : Type} {enc : TypeId × Value → H} (W : World) (v0 : Value) (d0 : DataW H) (p0 : List MemPlace) {base : Nat} (ok0 : Value.okWide Try.prog W .any base 26 v0) (h0 : DataW.Trod enc Try.prog W 0 (fun _ => true) true 26 v0 d0 p0) (b0 : Rows.uptoBulk d0 ≤ 1048576) (z0 : W.noneFrozen p0)
    (v1 : Value) (d1 : DataW H) (p1 : List MemPlace) (ok1 : Value.okWide Try.prog W .any base 27 v1) (h1 : DataW.Trod enc Try.prog W 0 (fun _ => true) true 27 v1 d1 p1) (b1 : Rows.uptoBulk d1 ≤ 1048576) (z1 : W.noneFrozen p1)
    (v2 : Value) (d2 : DataW H) (p2 : List MemPlace) (ok2 : Value.okWide Try.prog W .any base 28 v2) (h2 : DataW.Trod enc Try.prog W 0 (fun _ => true) true 28 v2 d2 p2) (b2 : Rows.uptoBulk d2 ≤ 1048576) (z2 : W.noneFrozen p2) :
    Calls Try.prog 3 #[v0, v1, v2] W fun e w' => e = .returned (.bool true) ∧ Below W.heap.size W w' := by
  obtain ⟨x, A, c, rfl, hh, hbk, hr⟩ := open_exv W v0 d0 p0 h0 b0 z0
  obtain ⟨RA, ca, us, rfl, hra⟩ := open_rowd W v1 d1 p1 ok1 h1 b1
  obtain ⟨KA, kc, ks, rfl, hkn⟩ := open_knd W v2 d2 p2 ok2 h2 b2 z2
  exact does_calls x hbk hr A c us RA ca ks KA kc W hh hra hkn
end Go.Proofs.Ytinflndbfdbnhaa.Exp
