/- LexerAgain: the walk. -/
import Derived.Test.YtcefmhofidoloaaGreatDoorWorks
import Derived.Test.YtcefmhofidoloaaGreatDoorAgainP
import Derived.Test.YtcefmhofidoloaaGreatDoorPrin
import Derived.Test.YtcefmhofidoloaaGreatDoorPlace
import Derived.Deep.QuietTactic
import Derived.BigQuiet
set_option linter.unusedVariables false
set_option linter.unusedSimpArgs false
namespace Go.Proofs.YtcefmhofidoloaaGreatDoor.Lex
open Go.RowKit Go.Proofs.YtcefmhofidoloaaGreatDoor.Base Go.Proofs.YtcefmhofidoloaaGreatDoor.App Go.Proofs.YtcefmhofidoloaaGreatDoor.Byt

/-- How Tokens ends, by cases. -/
theorem lexR_ways {l : List UInt8} {w w' : World} {e : Ending} (h : LexR l w e w') :
    Below w.heap.size w w' ∧ ((∃ ts A m c, e = .returned (.tuple #[.slice A m c, .nilIface]) ∧ lexT l = .ok ts ∧ TokSl w' A m ts ∧ l.length ≤ 16384) ∨
    (∃ N, e = .returned (.tuple #[.slice none 0 0, .iface 93 (.pointer (some ⟨N, 0, none⟩))]) ∧ (16384 < l.length ∨ ∃ k, lexT l = .error k))) := by
  obtain ⟨hb, h⟩ := h
  refine ⟨hb, ?_⟩
  by_cases hl : 16384 < l.length
  · rw [if_pos hl] at h
    obtain ⟨N, rfl, _⟩ := h
    exact .inr ⟨N, rfl, .inl hl⟩
  rw [if_neg hl] at h
  cases hx : lexT l with
  | ok ts =>
    rw [hx] at h
    obtain ⟨A, m, c, rfl, ht⟩ := h
    exact .inl ⟨ts, A, m, c, rfl, rfl, ht, by omega⟩
  | error k =>
    rw [hx] at h
    obtain ⟨N, rfl, h1⟩ := h
    exact .inr ⟨N, rfl, .inr ⟨k, rfl⟩⟩
theorem printB_eq (t : Tk) : printB (t.kind : Int) t.num ⟨t.text.toArray⟩ = ⟨(prT t).toArray⟩ := by
  unfold printB prT
  by_cases h1 : t.kind = 1 ∨ t.kind = 5
  · rw [if_pos (by omega), if_pos h1]
  · rw [if_neg (by omega), if_neg h1]
    by_cases h2 : t.kind = 2
    · rw [if_pos (by omega), if_pos h2]
    · rw [if_neg (by omega), if_neg h2]
      by_cases h3 : t.kind = 3
      · rw [if_pos (by omega), if_pos h3]
      · rw [if_neg (by omega), if_neg h3]
        by_cases h4 : t.kind = 4
        · rw [if_pos (by omega), if_pos h4]
        · rw [if_neg (by omega), if_neg h4]
theorem prT_len {t : Tk} (h : GoodT t) {n : Nat} (hn : t.text.length ≤ n) : (prT t).length ≤ 2 * n + 21 := by
  unfold prT
  split
  · omega
  · split
    · have := Lib.itoa_length_le t.num (by have := h.num.1; omega) h.num.2; omega
    · split
      · have := quotes_len t.text; simp only [litText, List.length_cons, List.length_append, List.length_nil]; omega
      · split
        · have := hexs_len t.text; simp only [litBlob, List.length_cons, List.length_append, List.length_nil]; omega
        · simp
theorem spaced_snoc (ts : List Tk) (t : Tk) : spaced (ts ++ [t]) = spaced ts ++ prT t ++ [32] := by simp [spaced]

set_option maxRecDepth 100000 in
set_option maxHeartbeats 6400000 in
theorem again_calls (w : World) (text : ByteArray) (ht : text.size ≤ 1048576) (hw : LexW w) (hg : EtyW w) (hp : Lib.TabIs Tryz.prog w "internal/strconv.uint64pow10" .u64 Lib.pow10Tab) :
    Calls Tryz.prog 5 #[.string text] w fun e w' => e = .returned (.bool true) ∧ Below w.heap.size w w' := by
  have HW := Asd.mk hw
  have HG := Asd.mk hg
  have HPW := Asd.mk hp
  clear hw hg hp
  go_enter Tryz.func5, Tryz.ntmps5
  go_wp2_with fail
  refine (works_calls w HW.out HG.out).mono ?_
  rintro e w0 ⟨rfl, hb0⟩
  have HB0 := Asd.mk hb0
  have HW0 := Asd.mk (HW.out.below hb0)
  clear hb0
  go_wp2_with fail
  refine (tokens_reads text _ HW0.out).mono ?_
  rintro e w1 he
  obtain ⟨hb1, hcase⟩ := lexR_ways he
  have HB1 : Asd (Below w.heap.size w w1) := Asd.mk (HB0.out.trans (hb1.mono HB0.out.size))
  have HW1 := Asd.mk (HW.out.below HB1.out)
  clear he hb1
  rcases hcase with ⟨xs, A1, m1, c1, rfl, hx1, ht1, hl1⟩ | ⟨N1, rfl, _⟩
  · have HX := Asd.mk hx1
    have HT1 := Asd.mk ht1
    have HM1 := Asd.mk ht1.1
    have hm1b : m1 ≤ 16384 := ht1.2.1
    have HL1 := Asd.mk hl1
    clear hx1 ht1 hl1
    go_wp2
    go_loopw [5, 6] (fun v5 v6 wr => ∃ (k : Nat) (s : ByteArray), k ≤ m1 ∧ v5 = .string s ∧ v6 = .int .i64 (k : Int) ∧ Asd (s.data.toList = spaced ((xs.take k).map (·.1))) ∧ Asd (s.size ≤ k * 40000) ∧ Asd (Below w1.heap.size w1 wr)) (fun _ v6 _ => m1 - (intOf v6).toNat)
    case atStart => exact ⟨0, ⟨#[]⟩, by omega, rfl, rfl, ⟨rfl⟩, ⟨by decide⟩, ⟨Below.refl _ _⟩⟩
    case round =>
      obtain ⟨k, s, hk, rfl, rfl, HS, HZ, HB⟩ := hrel
      by_cases hlt : k < m1
      · obtain ⟨gx, rfl, hcx⟩ := HT1.out.2.2 (by omega)
        have hkx : k < xs.length := by rw [← HM1.out]; exact hlt
        have hxx := hcx k hkx
        clear hcx
        have hgood := lexT_good HX.out k hkx
        have HSN : Asd (spaced ((xs.take (k + 1)).map (·.1)) = spaced ((xs.take k).map (·.1)) ++ prT (xs[k]'hkx).1 ++ [32]) := Asd.mk (by
          rw [List.take_succ_eq_append_getElem hkx, List.map_append, List.map_singleton, spaced_snoc])
        generalize xs[k]'hkx = x at hxx hgood HSN
        obtain ⟨t, pl⟩ := x
        obtain ⟨z0, z1, z2, z3⟩ := hxx
        simp only at z0 z1 z2 z3 hgood HSN
        have e0 := (HB.out.cell (World.block_lt_of_cell? w1 _ z0)).trans z0
        have e1 := (HB.out.cell (World.block_lt_of_cell? w1 _ z1)).trans z1
        have e2 := (HB.out.cell (World.block_lt_of_cell? w1 _ z2)).trans z2
        have e3 := (HB.out.cell (World.block_lt_of_cell? w1 _ z3)).trans z3
        clear z0 z1 z2 z3
        have HLEN := Asd.mk (prT_len hgood.1 (n := 16384) (by have := HL1.out; omega))
        have HTS : Asd ((⟨t.text.toArray⟩ : ByteArray).size ≤ 1048576) := Asd.mk (by
          have h1 : (⟨t.text.toArray⟩ : ByteArray).size = t.text.length := by show t.text.toArray.size = _; simp
          have := HL1.out; rw [h1]; omega)
        have HNUM := Asd.mk hgood.1.num
        have HWR := Asd.mk (HW1.out.shaped)
        clear hgood
        go_wp2_with fail
        refine (print_calls (t.kind : Int) (pl : Nat) t.num ⟨t.text.toArray⟩ _ HTS.out (by have := HNUM.out.1; omega) HNUM.out.2 (shaped_below HW1.out.shaped HB.out) (tab_below HPW.out (HB1.out.trans (HB.out.mono HB1.out.size)))).mono ?_
        rintro e w2 ⟨rfl, hb2⟩
        have HB2 : Asd (Below w1.heap.size w1 w2) := Asd.mk (HB.out.trans (hb2.mono HB.out.size))
        clear hb2
        rw [printB_eq]
        have HPT : Asd ((⟨(prT t).toArray⟩ : ByteArray).data.toList = prT t) := Asd.mk (by simp)
        have HPZ : Asd ((⟨(prT t).toArray⟩ : ByteArray).size ≤ 32789) := Asd.mk (by
          have h1 : (⟨(prT t).toArray⟩ : ByteArray).size = (prT t).length := by show (prT t).toArray.size = _; simp
          have := HLEN.out; rw [h1]; omega)
        generalize (⟨(prT t).toArray⟩ : ByteArray) = pt at HPT HPZ ⊢
        have hz1 := HZ.out
        have hz2 := HPZ.out
        have hz3 : (s ++ pt).size ≤ 655360000 + 32789 := by rw [ByteArray.size_append]; omega
        go_wp2
        go_roundw
        case rel =>
          refine ⟨k + 1, s ++ pt ++ ⟨#[32]⟩, by omega, rfl, by go_num, ⟨?_⟩, ⟨?_⟩, HB2⟩
          · rw [HSN.out, ← HS.out, ← HPT.out]; simp [ByteArray.data_append]
          · rw [ByteArray.size_append, ByteArray.size_append]; have : (⟨#[32]⟩ : ByteArray).size = 1 := rfl; omega
        case measure => simp [intOf]; omega
      · obtain rfl : k = m1 := by omega
        have HB2 : Asd (Below w.heap.size w wr) := Asd.mk (HB1.out.trans (HB.out.mono HB1.out.size))
        have HW2 := Asd.mk (HW.out.below HB2.out)
        have HSA : Asd (s.data.toList = spaced (xs.map (·.1))) := Asd.mk (by rw [HS.out, List.take_of_length_le (by rw [← HM1.out]; exact Nat.le_refl _)])
        have HT2 := Asd.mk (HT1.out.below HB.out)
        clear hlt HS
        by_cases hbig : 16384 < s.size
        · go_wp2
          go_ret
          exact ⟨ret_eq rfl, HB2.out⟩
        · go_wp2_with fail
          refine (tokens_reads s _ HW2.out).mono ?_
          rintro e w3 he
          obtain ⟨hb3, hcase⟩ := lexR_ways he
          obtain ⟨ys, hy, hmap⟩ := lexT_spaced HX.out
          have HB3 : Asd (Below w.heap.size w w3) := Asd.mk (HB2.out.trans (hb3.mono HB2.out.size))
          have HT3 := Asd.mk (HT2.out.below hb3)
          clear he hb3
          rcases hcase with ⟨zs, A2, m2, c2, rfl, hx2, ht2, hl2⟩ | ⟨N2, rfl, hbad⟩
          · rw [HSA.out, hy] at hx2
            injection hx2 with hx2
            subst hx2
            have HMAP := Asd.mk hmap
            have HT4 := Asd.mk ht2
            have hm2 : m2 = k := by
              have h1 := congrArg List.length hmap
              simp only [List.length_map] at h1
              rw [ht2.1, h1]; exact HM1.out.symm
            clear ht2 hmap hy hl2 HT2 HT1
            subst hm2
            go_wp2
            go_loopw [9] (fun v wr => ∃ k : Nat, k ≤ m2 ∧ v = .int .i64 (k : Int) ∧ Asd (Below w3.heap.size w3 wr)) (fun v _ => m2 - (intOf v).toNat)
            case atStart => exact ⟨0, by omega, rfl, ⟨Below.refl _ _⟩⟩
            case round =>
              obtain ⟨k, hk, rfl, HB⟩ := hrel
              by_cases hlt : k < m2
              · obtain ⟨gx, rfl, hcx⟩ := HT3.out.2.2 (by omega)
                obtain ⟨gy, rfl, hcy⟩ := HT4.out.2.2 (by omega)
                have hkx : k < xs.length := by rw [← HM1.out]; exact hlt
                have hky : k < ys.length := by rw [← HT4.out.1]; exact hlt
                have hxx := hcx k hkx
                have hyy := hcy k hky
                clear hcx hcy
                have HE : Asd ((ys[k]'hky).1 = (xs[k]'hkx).1) := Asd.mk (by
                  have h1 : (ys.map (·.1))[k]'(by simpa using hky) = (xs.map (·.1))[k]'(by simpa using hkx) := by simp only [HMAP.out]
                  simpa using h1)
                rw [HE.out] at hyy
                generalize xs[k]'hkx = x at hxx hyy
                obtain ⟨t, pl⟩ := x
                generalize (ys[k]'hky).2 = pl2 at hyy
                obtain ⟨z0, z1, z2, z3⟩ := hyy
                obtain ⟨q0, q1, q2, q3⟩ := hxx
                simp only at z0 z1 z2 z3 q0 q1 q2 q3
                have e0 := (HB.out.cell (World.block_lt_of_cell? w3 _ z0)).trans z0
                have e1 := (HB.out.cell (World.block_lt_of_cell? w3 _ z1)).trans z1
                have e2 := (HB.out.cell (World.block_lt_of_cell? w3 _ z2)).trans z2
                have e3 := (HB.out.cell (World.block_lt_of_cell? w3 _ z3)).trans z3
                have x2 := ((below_alloc HB.out (.cells #[.int .i64 (t.kind : Int), .string ⟨t.text.toArray⟩, .int .i64 (pl2 : Nat), .int .i64 t.num] 52)).cell (World.block_lt_of_cell? w3 _ q2)).trans q2
                have HBN := Asd.mk (below_alloc HB.out (.cells #[.int .i64 (t.kind : Int), .string ⟨t.text.toArray⟩, .int .i64 (pl : Nat), .int .i64 t.num] 52))
                have HNN := Asd.mk (blk_new wr (.cells #[.int .i64 (t.kind : Int), .string ⟨t.text.toArray⟩, .int .i64 (pl : Nat), .int .i64 t.num] 52))
                have HQ : Asd (∀ w', Below w3.heap.size w3 w' → w'.cell? ⟨gx, k * 4, none⟩ = some (.int .i64 (t.kind : Int)) ∧ w'.cell? ⟨gx, k * 4 + 1, none⟩ = some (.string ⟨t.text.toArray⟩) ∧ w'.cell? ⟨gx, k * 4 + 2, none⟩ = some (.int .i64 (pl : Nat)) ∧ w'.cell? ⟨gx, k * 4 + 3, none⟩ = some (.int .i64 t.num)) := Asd.mk fun w' hb =>
                  ⟨(hb.cell (World.block_lt_of_cell? w3 _ q0)).trans q0, (hb.cell (World.block_lt_of_cell? w3 _ q1)).trans q1, (hb.cell (World.block_lt_of_cell? w3 _ q2)).trans q2, (hb.cell (World.block_lt_of_cell? w3 _ q3)).trans q3⟩
                clear z0 z1 z2 z3 q0 q1 q2 q3
                have hq : ∀ w, (binOp .neq 52 (.agg #[.int .i64 (t.kind : Int), .string ⟨t.text.toArray⟩, .int .i64 (pl : Nat), .int .i64 t.num]) (.agg #[.int .i64 (t.kind : Int), .string ⟨t.text.toArray⟩, .int .i64 (pl : Nat), .int .i64 t.num])).run Tryz.prog w = .ok (.bool false) w := fun w => by rw [tok_neq]; simp
                go_upto_region 21 with fail
                generalize wr.alloc (.cells #[.int .i64 (t.kind : Int), .string ⟨t.text.toArray⟩, .int .i64 (pl : Nat), .int .i64 t.num] 52) = W5 at HBN HNN ⊢
                obtain ⟨q0, q1, q2, q3⟩ := HQ.out _ HBN.out
                have y0 := (blk_cell HNN.out 0).trans rfl
                have y1 := (blk_cell HNN.out 1).trans rfl
                have y2 := (blk_cell HNN.out 2).trans rfl
                have y3 := (blk_cell HNN.out 3).trans rfl
                clear x2
                generalize wr.heap.size = g5 at y0 y1 y2 y3 ⊢
                go_quiet (fail)
                have HB7 : Asd (∀ n, Below w3.heap.size w3 (W5.drewN n)) := Asd.mk fun n => HBN.out.trans ((below_drewN' W5 n).mono HBN.out.size)
                go_wp2
                go_roundw
                case rel => exact ⟨k + 1, by omega, by go_num, ⟨HB7.out _⟩⟩
                case measure => simp [intOf]; omega
              · obtain rfl : k = m2 := by omega
                have HB7 : Asd (Below w.heap.size w wr) := Asd.mk (HB3.out.trans (HB.out.mono HB3.out.size))
                clear hlt
                go_wp2
                go_ret
                exact ⟨ret_eq rfl, HB7.out⟩
          · exfalso
            rcases hbad with h | ⟨k2, h⟩
            · have h1 : s.data.toList.length = s.size := rfl
              omega
            · rw [HSA.out, hy] at h; cases h
  · go_wp2
    go_ret
    exact ⟨ret_eq rfl, HB1.out⟩
end Go.Proofs.YtcefmhofidoloaaGreatDoor.Lex
