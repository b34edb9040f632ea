/- How a word is written by the lexer. -/
import Derived.Test.YtcefmhofidoloaaGreatDoorLit
import Derived.Test.YtcefmhofidoloaaGreatDoorKw
import Derived.Test.YtcefmhofidoloaaGreatDoorBytes
import Derived.Lib.AppendIntMem
set_option linter.unusedVariables false
set_option linter.unusedSimpArgs false
namespace Go.Proofs.YtcefmhofidoloaaGreatDoor.Lex
open Go.RowKit Go.Proofs.YtcefmhofidoloaaGreatDoor.Base Go.Proofs.YtcefmhofidoloaaGreatDoor.App Go.Proofs.YtcefmhofidoloaaGreatDoor.Byt

theorem tab_below {w w' : World} {n : String} {k : IntKind} {zs : List Int} (h : Lib.TabIs Tryz.prog w n k zs) (hb : Below w.heap.size w w') : Lib.TabIs Tryz.prog w' n k zs := by
  unfold Lib.TabIs World.var? at h ⊢
  cases hg : Tryz.prog.globalNamed n with
  | none => rw [hg] at h; cases h
  | some g =>
    rw [hg] at h
    simp only [Option.bind_some] at h ⊢
    cases ho : w.heap[g]? with
    | none => rw [ho] at h; cases h
    | some o =>
      rw [ho] at h
      rw [blk_below hb ho]
      exact h
/-- How a word is written. -/
def printB (k n : Int) (t : ByteArray) : ByteArray :=
  if k = 1 ∨ k = 5 then t else if k = 2 then ⟨(Lib.itoa n).toArray⟩ else if k = 3 then ⟨(litText t.data.toList).toArray⟩ else if k = 4 then ⟨(litBlob t.data.toList).toArray⟩ else ⟨#[]⟩
theorem kinds (k : Int) : k = 1 ∨ k = 5 ∨ k = 2 ∨ k = 3 ∨ k = 4 ∨ (¬ (k = 1 ∨ k = 5) ∧ k ≠ 2 ∧ k ≠ 3 ∧ k ≠ 4) := by omega

set_option maxRecDepth 100000 in
set_option maxHeartbeats 1600000 in
theorem print_calls (k a n : Int) (t : ByteArray) (w : World) (ht : t.size ≤ 1048576) (h0 : -9223372036854775808 ≤ n) (h1 : n ≤ 9223372036854775807) (hsh : w.ShapedOpen Tryz.prog) (htab : Lib.TabIs Tryz.prog w "internal/strconv.uint64pow10" .u64 Lib.pow10Tab) :
    Calls Tryz.prog 19 #[.agg #[.int .i64 k, .string t, .int .i64 a, .int .i64 n]] w fun e w' => e = .returned (.string (printB k n t)) ∧ Below w.heap.size w w' := by
  have HB := Asd.mk (below_alloc (Below.refl _ w) (.cells #[.int .i64 k, .string t, .int .i64 a, .int .i64 n] 52))
  have HSH := Asd.mk (shaped_below hsh HB.out)
  have HTB := Asd.mk (tab_below htab HB.out)
  clear hsh htab
  rcases kinds k with rfl | rfl | rfl | rfl | rfl | ⟨h15, h2, h3, h4⟩
  · go_enter Tryz.func19, Tryz.ntmps19
    go_wp2
    go_ret
    exact ⟨rfl, HB.out⟩
  · go_enter Tryz.func19, Tryz.ntmps19
    go_wp2
    go_ret
    exact ⟨rfl, HB.out⟩
  · go_enter Tryz.func19, Tryz.ntmps19
    go_wp2_with fail
    refine (Tryz.strconv_FormatInt_10 n h0 h1 _ HTB.out).mono ?_
    rintro e w1 ⟨rfl, kk, os, hw⟩
    have HBE : Asd (Below w.heap.size w w1) := Asd.mk (by rw [hw]; exact below_step HB.out (Lib.below_grow _ _ (Nat.le_refl _) kk os))
    clear hw
    generalize hit : (⟨(Lib.itoa n).toArray⟩ : ByteArray) = it
    have HIT := Asd.mk hit
    clear hit
    go_wp2
    go_ret
    exact ⟨ret_eq (by show Value.string it = _; rw [← HIT.out]; rfl), HBE.out⟩
  · go_enter Tryz.func19, Tryz.ntmps19
    go_wp2_with fail
    refine (lit_text t _ ht HSH.out).mono ?_
    rintro e w1 ⟨rfl, hb⟩
    have HBE := Asd.mk (below_step HB.out hb)
    clear hb
    go_wp2
    go_ret
    exact ⟨rfl, HBE.out⟩
  · go_enter Tryz.func19, Tryz.ntmps19
    go_wp2_with fail
    refine (lit_blob t _ ht).mono ?_
    rintro e w1 ⟨rfl, hb⟩
    have HBE := Asd.mk (below_step HB.out hb)
    clear hb
    go_wp2
    go_ret
    exact ⟨rfl, HBE.out⟩
  · have HP : Asd (printB k n t = ⟨#[]⟩) := Asd.mk (by unfold printB; rw [if_neg h15, if_neg h2, if_neg h3, if_neg h4])
    have b1 : (k == 1) = false := beq_eq_false_iff_ne.2 (fun e => h15 (.inl e))
    have b5 : (k == 5) = false := beq_eq_false_iff_ne.2 (fun e => h15 (.inr e))
    have b2 : (k == 2) = false := beq_eq_false_iff_ne.2 h2
    have b3 : (k == 3) = false := beq_eq_false_iff_ne.2 h3
    have b4 : (k == 4) = false := beq_eq_false_iff_ne.2 h4
    clear h15 h2 h3 h4
    go_enter Tryz.func19, Tryz.ntmps19
    go_wp2
    go_ret
    exact ⟨ret_eq (by rw [HP.out]; rfl), HB.out⟩

end Go.Proofs.YtcefmhofidoloaaGreatDoor.Lex
