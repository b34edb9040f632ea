/- How a word is written; LexerWrites' walk. -/
import Derived.Test.YtcefmhofidoloaaDoorRlit2
import Derived.Test.YtcefmhofidoloaaDoorKw
import Derived.Lib.AppendIntMem
set_option linter.unusedVariables false
set_option linter.unusedSimpArgs false
namespace Go.Proofs.YtcefmhofidoloaaDoor.Lex
open Go.RowKit Go.Proofs.YtcefmhofidoloaaDoor.Base Go.Proofs.YtcefmhofidoloaaDoor.App Go.Proofs.YtcefmhofidoloaaDoor.Byt

theorem tab_below {w w' : World} {n : String} {k : IntKind} {zs : List Int} (h : Lib.TabIs Tryd.prog w n k zs) (hb : Below w.heap.size w w') : Lib.TabIs Tryd.prog w' n k zs := by
  unfold Lib.TabIs World.var? at h ⊢
  cases hg : Tryd.prog.globalNamed n with
  | none => rw [hg] at h; cases h
  | some g =>
    rw [hg] at h
    simp only [Option.bind_some] at h ⊢
    cases ho : w.heap[g]? with
    | none => rw [ho] at h; cases h
    | some o =>
      rw [ho] at h
      rw [blk_below hb ho]
      exact h
/-- How a word is written. -/
def printB (k n : Int) (t : ByteArray) : ByteArray :=
  if k = 1 ∨ k = 5 then t else if k = 2 then ⟨(Lib.itoa n).toArray⟩ else if k = 3 then ⟨(litText t.data.toList).toArray⟩ else if k = 4 then ⟨(litBlob t.data.toList).toArray⟩ else ⟨#[]⟩
theorem kinds (k : Int) : k = 1 ∨ k = 5 ∨ k = 2 ∨ k = 3 ∨ k = 4 ∨ (¬ (k = 1 ∨ k = 5) ∧ k ≠ 2 ∧ k ≠ 3 ∧ k ≠ 4) := by omega

set_option maxRecDepth 100000 in
set_option maxHeartbeats 1600000 in
theorem print_calls (k a n : Int) (t : ByteArray) (w : World) (ht : t.size ≤ 1048576) (h0 : -9223372036854775808 ≤ n) (h1 : n ≤ 9223372036854775807) (hsh : w.ShapedOpen Tryd.prog) (htab : Lib.TabIs Tryd.prog w "internal/strconv.uint64pow10" .u64 Lib.pow10Tab) :
    Calls Tryd.prog 8 #[.agg #[.int .i64 k, .string t, .int .i64 a, .int .i64 n]] w fun e w' => e = .returned (.string (printB k n t)) ∧ Below w.heap.size w w' := by
  have HB := Asd.mk (below_alloc (Below.refl _ w) (.cells #[.int .i64 k, .string t, .int .i64 a, .int .i64 n] 23))
  have HSH := Asd.mk (shaped_below hsh HB.out)
  have HTB := Asd.mk (tab_below htab HB.out)
  clear hsh htab
  rcases kinds k with rfl | rfl | rfl | rfl | rfl | ⟨h15, h2, h3, h4⟩
  · go_enter Tryd.func8, Tryd.ntmps8
    go_wp2
    go_ret
    exact ⟨rfl, HB.out⟩
  · go_enter Tryd.func8, Tryd.ntmps8
    go_wp2
    go_ret
    exact ⟨rfl, HB.out⟩
  · go_enter Tryd.func8, Tryd.ntmps8
    go_wp2_with fail
    refine (Tryd.strconv_FormatInt_10 n h0 h1 _ HTB.out).mono ?_
    rintro e w1 ⟨rfl, kk, os, hw⟩
    have HBE : Asd (Below w.heap.size w w1) := Asd.mk (by rw [hw]; exact below_step HB.out (Lib.below_grow _ _ (Nat.le_refl _) kk os))
    clear hw
    generalize hit : (⟨(Lib.itoa n).toArray⟩ : ByteArray) = it
    have HIT := Asd.mk hit
    clear hit
    go_wp2
    go_ret
    exact ⟨ret_eq (by show Value.string it = _; rw [← HIT.out]; rfl), HBE.out⟩
  · go_enter Tryd.func8, Tryd.ntmps8
    go_wp2_with fail
    refine (lit_text t _ ht HSH.out).mono ?_
    rintro e w1 ⟨rfl, hb⟩
    have HBE := Asd.mk (below_step HB.out hb)
    clear hb
    go_wp2
    go_ret
    exact ⟨rfl, HBE.out⟩
  · go_enter Tryd.func8, Tryd.ntmps8
    go_wp2_with fail
    refine (lit_blob t _ ht).mono ?_
    rintro e w1 ⟨rfl, hb⟩
    have HBE := Asd.mk (below_step HB.out hb)
    clear hb
    go_wp2
    go_ret
    exact ⟨rfl, HBE.out⟩
  · have HP : Asd (printB k n t = ⟨#[]⟩) := Asd.mk (by unfold printB; rw [if_neg h15, if_neg h2, if_neg h3, if_neg h4])
    have b1 : (k == 1) = false := beq_eq_false_iff_ne.2 (fun e => h15 (.inl e))
    have b5 : (k == 5) = false := beq_eq_false_iff_ne.2 (fun e => h15 (.inr e))
    have b2 : (k == 2) = false := beq_eq_false_iff_ne.2 h2
    have b3 : (k == 3) = false := beq_eq_false_iff_ne.2 h3
    have b4 : (k == 4) = false := beq_eq_false_iff_ne.2 h4
    clear h15 h2 h3 h4
    go_enter Tryd.func8, Tryd.ntmps8
    go_wp2
    go_ret
    exact ⟨ret_eq (by rw [HP.out]; rfl), HB.out⟩

set_option maxRecDepth 100000 in
set_option maxHeartbeats 1600000 in
theorem rprint_calls (k a n : Int) (t : ByteArray) (w : World) (ht : t.size ≤ 1048576) (h0 : -9223372036854775808 ≤ n) (h1 : n ≤ 9223372036854775807) :
    Calls Tryd.prog 9 #[.agg #[.int .i64 k, .string t, .int .i64 a, .int .i64 n]] w fun e w' => e = .returned (.string (printB k n t)) ∧ Below w.heap.size w w' := by
  have HB := Asd.mk (below_alloc (Below.refl _ w) (.cells #[.int .i64 k, .string t, .int .i64 a, .int .i64 n] 23))
  rcases kinds k with rfl | rfl | rfl | rfl | rfl | ⟨h15, h2, h3, h4⟩
  · go_enter Tryd.func9, Tryd.ntmps9
    go_wp2
    go_ret
    exact ⟨rfl, HB.out⟩
  · go_enter Tryd.func9, Tryd.ntmps9
    go_wp2
    go_ret
    exact ⟨rfl, HB.out⟩
  · go_enter Tryd.func9, Tryd.ntmps9
    go_wp2_with fail
    refine (number_calls n h0 h1 _).mono ?_
    rintro e w1 ⟨rfl, hb⟩
    have HBE := Asd.mk (below_step HB.out hb)
    clear hb
    generalize hit : (⟨(Lib.itoa n).toArray⟩ : ByteArray) = it
    have HIT := Asd.mk hit
    clear hit
    go_wp2
    go_ret
    exact ⟨ret_eq (by show Value.string it = _; rw [← HIT.out]; rfl), HBE.out⟩
  · go_enter Tryd.func9, Tryd.ntmps9
    go_wp2_with fail
    refine (rlit_text t _ ht).mono ?_
    rintro e w1 ⟨rfl, hb⟩
    have HBE := Asd.mk (below_step HB.out hb)
    clear hb
    go_wp2
    go_ret
    exact ⟨rfl, HBE.out⟩
  · go_enter Tryd.func9, Tryd.ntmps9
    go_wp2_with fail
    refine (rlit_blob t _ ht).mono ?_
    rintro e w1 ⟨rfl, hb⟩
    have HBE := Asd.mk (below_step HB.out hb)
    clear hb
    go_wp2
    go_ret
    exact ⟨rfl, HBE.out⟩
  · have HP : Asd (printB k n t = ⟨#[]⟩) := Asd.mk (by unfold printB; rw [if_neg h15, if_neg h2, if_neg h3, if_neg h4])
    have b1 : (k == 1) = false := beq_eq_false_iff_ne.2 (fun e => h15 (.inl e))
    have b5 : (k == 5) = false := beq_eq_false_iff_ne.2 (fun e => h15 (.inr e))
    have b2 : (k == 2) = false := beq_eq_false_iff_ne.2 h2
    have b3 : (k == 3) = false := beq_eq_false_iff_ne.2 h3
    have b4 : (k == 4) = false := beq_eq_false_iff_ne.2 h4
    clear h15 h2 h3 h4
    go_enter Tryd.func9, Tryd.ntmps9
    go_wp2
    go_ret
    exact ⟨ret_eq (by rw [HP.out]; rfl), HB.out⟩

set_option maxRecDepth 100000 in
set_option maxHeartbeats 1600000 in
theorem rkeyword_calls (s : ByteArray) (w : World) : Calls Tryd.prog 7 #[.string s] w fun e w' => e = .returned (.bool (kwList.contains s.toList)) ∧ w = w' := by
  have H := Asd.mk (fun w => kw_calls s w)
  generalize kwList.contains s.toList = b at H
  go_enter Tryd.func7, Tryd.ntmps7
  go_wp2_with fail
  refine (H.out _).mono ?_
  rintro e w1 ⟨rfl, rfl⟩
  go_wp2
  go_ret
  exact ⟨rfl, rfl⟩

set_option maxRecDepth 100000 in
set_option maxHeartbeats 3200000 in
theorem law_writes (k a n : Int) (t : ByteArray) (w : World) (ht : t.size ≤ 1048576) (h0 : -9223372036854775808 ≤ n) (h1 : n ≤ 9223372036854775807) (hsh : w.ShapedOpen Tryd.prog) (htab : Lib.TabIs Tryd.prog w "internal/strconv.uint64pow10" .u64 Lib.pow10Tab) :
    Calls Tryd.prog 3 #[.agg #[.int .i64 k, .string t, .int .i64 a, .int .i64 n]] w fun e w' => e = .returned (.bool true) ∧ Below w.heap.size w w' := by
  have HB := Asd.mk (below_alloc (Below.refl _ w) (.cells #[.int .i64 k, .string t, .int .i64 a, .int .i64 n] 23))
  have HX := Asd.mk (blk_new w (.cells #[.int .i64 k, .string t, .int .i64 a, .int .i64 n] 23))
  have HSH := Asd.mk hsh
  have HTB := Asd.mk htab
  have HPR := Asd.mk (fun w h1' h2' => print_calls k a n t w ht h0 h1 h1' h2')
  have HRP := Asd.mk (fun w => rprint_calls k a n t w ht h0 h1)
  have hsz : t.size ≤ 140737488351232 := by omega
  clear hsh htab
  go_enter Tryd.func3, Tryd.ntmps3
  go_upto_region 1 with fail
  generalize w.alloc (.cells #[.int .i64 k, .string t, .int .i64 a, .int .i64 n] 23) = w1 at HB HX ⊢
  generalize printB k n t = pp at HPR HRP
  have HS : Asd (∀ w', Below w1.heap.size w1 w' → w'.cell? ⟨w.heap.size, 0, none⟩ = some (.int .i64 k) ∧ w'.cell? ⟨w.heap.size, 1, none⟩ = some (.string t) ∧ w'.cell? ⟨w.heap.size, 2, none⟩ = some (.int .i64 a) ∧ w'.cell? ⟨w.heap.size, 3, none⟩ = some (.int .i64 n) ∧ Below w1.heap.size w1 w') := Asd.mk fun w' hb => by
    have h := blk_below hb HX.out
    exact ⟨(blk_cell h 0).trans rfl, (blk_cell h 1).trans rfl, (blk_cell h 2).trans rfl, (blk_cell h 3).trans rfl, hb⟩
  have HSW : Asd (∀ w', Below w1.heap.size w1 w' → w'.ShapedOpen Tryd.prog ∧ Lib.TabIs Tryd.prog w' "internal/strconv.uint64pow10" .u64 Lib.pow10Tab) := Asd.mk fun w' hb =>
    ⟨shaped_below HSH.out (below_step HB.out hb), tab_below HTB.out (below_step HB.out hb)⟩
  go_region_held3 (fun w' => w'.cell? ⟨w.heap.size, 0, none⟩ = some (.int .i64 k) ∧ w'.cell? ⟨w.heap.size, 1, none⟩ = some (.string t) ∧ w'.cell? ⟨w.heap.size, 2, none⟩ = some (.int .i64 a) ∧ w'.cell? ⟨w.heap.size, 3, none⟩ = some (.int .i64 n) ∧ Below w1.heap.size w1 w')
    (first
      | exact HS.out _ (Below.refl _ _).drew
      | exact HS.out _ HC.out
      | (go_split_ands; exact HS.out _ (by assumption))
      | fail)
    (first
      | (go_at_call 6
         go_split_ands
         refine (keyword_calls t _ hsz (HSW.out _ (by assumption)).1).mono ?_
         rintro e w2 ⟨rfl, rfl⟩)
      | (go_at_call 7
         refine (rkeyword_calls t _).mono ?_
         rintro e w3 ⟨rfl, rfl⟩)
      | (go_at_call 8
         go_split_ands
         refine (HPR.out _ (HSW.out _ (by assumption)).1 (HSW.out _ (by assumption)).2).mono ?_
         rintro e w4 ⟨rfl, hb4⟩
         have HC : Asd (Below w1.heap.size w1 w4) := Asd.mk (below_step (by assumption) hb4)
         clear hb4)
      | (go_at_call 9
         go_split_ands
         refine (HRP.out _).mono ?_
         rintro e w5 ⟨rfl, hb4⟩
         have HC : Asd (Below w1.heap.size w1 w5) := Asd.mk (below_step (by assumption) hb4)
         clear hb4)
      | fail)
  all_goals
    have HBE := Asd.mk (below_step HB.out HC.out)
    go_wp2
    go_ret
    exact ⟨rfl, HBE.out⟩
end Go.Proofs.YtcefmhofidoloaaDoor.Lex
