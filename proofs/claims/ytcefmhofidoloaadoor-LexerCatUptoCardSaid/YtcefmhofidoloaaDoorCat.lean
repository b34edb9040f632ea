/- LexerCat: the walk. -/
import Derived.Test.YtcefmhofidoloaaDoorWorks
import Derived.Test.YtcefmhofidoloaaDoorCatP
import Derived.Test.YtcefmhofidoloaaDoorPlace
import Derived.Deep.QuietTactic
import Derived.BigQuiet
set_option linter.unusedVariables false
set_option linter.unusedSimpArgs false
namespace Go.Proofs.YtcefmhofidoloaaDoor.Lex
open Go.RowKit Go.Proofs.YtcefmhofidoloaaDoor.Base Go.Proofs.YtcefmhofidoloaaDoor.App Go.Proofs.YtcefmhofidoloaaDoor.Byt

theorem lexR_cases {l : List UInt8} {w w' : World} {e : Ending} (h : LexR l w e w') :
    (∃ ts A m c, e = .returned (.tuple #[.slice A m c, .nilIface]) ∧ lexT l = .ok ts ∧ TokSl w' A m ts ∧ ¬ 16384 < l.length) ∨
    (∃ N, e = .returned (.tuple #[.slice none 0 0, .iface 48 (.pointer (some ⟨N, 0, none⟩))])) := by
  obtain ⟨_, h⟩ := h
  by_cases hl : 16384 < l.length
  · rw [if_pos hl] at h
    obtain ⟨N, rfl, _⟩ := h
    exact .inr ⟨N, rfl⟩
  · rw [if_neg hl] at h
    cases hx : lexT l with
    | ok ts =>
      rw [hx] at h
      obtain ⟨A, m, c, rfl, ht⟩ := h
      exact .inl ⟨ts, A, m, c, rfl, rfl, ht, hl⟩
    | error k =>
      rw [hx] at h
      obtain ⟨N, rfl, _⟩ := h
      exact .inr ⟨N, rfl⟩

set_option maxRecDepth 100000 in
set_option maxHeartbeats 6400000 in
theorem cat_calls (a b : ByteArray) (w : World) (ha : a.size ≤ 1048576) (hb : b.size ≤ 1048576) (hw : LexW w) (hg : EtyW w) :
    Calls Tryd.prog 5 #[.string a, .string b] w fun e w' => e = .returned (.bool true) ∧ Below w.heap.size w w' := by
  have HW := Asd.mk hw
  have HG := Asd.mk hg
  clear hw hg
  go_enter Tryd.func5, Tryd.ntmps5
  go_wp2_with fail
  refine (works_calls w HW.out HG.out).mono ?_
  rintro e w0 ⟨rfl, hb0⟩
  have HB0 := Asd.mk hb0
  have HW0 := Asd.mk (HW.out.below hb0)
  clear hb0
  go_wp2_with fail
  refine (tokens_reads a _ HW0.out).mono ?_
  rintro e w1 he
  have HB1 : Asd (Below w.heap.size w w1) := Asd.mk (HB0.out.trans (he.1.mono HB0.out.size))
  have HW1 := Asd.mk (HW.out.below HB1.out)
  rcases lexR_cases he with ⟨xs, A1, m1, c1, rfl, hx1, ht1, hl1⟩ | ⟨N, rfl⟩
  · have HX := Asd.mk hx1
    have HT1 := Asd.mk ht1
    have HLA := Asd.mk hl1
    clear hx1 ht1 hl1 he
    go_wp2_with fail
    refine (tokens_reads b _ HW1.out).mono ?_
    rintro e w2 he
    have HB2 : Asd (Below w.heap.size w w2) := Asd.mk (HB1.out.trans (he.1.mono HB1.out.size))
    have HW2 := Asd.mk (HW.out.below HB2.out)
    have HT12 := Asd.mk (HT1.out.below he.1)
    rcases lexR_cases he with ⟨ys, A2, m2, c2, rfl, hx2, ht2, hl2⟩ | ⟨N, rfl⟩
    · have HY := Asd.mk hx2
      have HT2 := Asd.mk ht2
      clear hx2 ht2 hl2 he HT1
      by_cases hlen : 16384 ≤ a.size + b.size
      · have hlen2 : (16384 : Int) ≤ (a.size : Int) + (b.size : Int) := by omega
        go_wp2
        go_ret
        exact ⟨ret_eq rfl, HB2.out⟩
      · have hlen2 : (a.size : Int) + (b.size : Int) < 16384 := by omega
        have HZL : Asd ((a ++ ⟨#[10]⟩ ++ b).data.toList = a.data.toList ++ 10 :: b.data.toList) := Asd.mk (by simp [ByteArray.data_append])
        have HZS : Asd ((a ++ ⟨#[10]⟩ ++ b).size = a.size + 1 + b.size) := Asd.mk (by simp [ByteArray.size_append]; rfl)
        clear hlen
        go_wp2_with fail
        generalize (a ++ (⟨#[10]⟩ : ByteArray) ++ b) = z at HZL HZS ⊢
        refine (tokens_reads z _ HW2.out).mono ?_
        rintro e w3 he
        have HB3 : Asd (Below w.heap.size w w3) := Asd.mk (HB2.out.trans (he.1.mono HB2.out.size))
        have HT13 := Asd.mk (HT12.out.below he.1)
        have HT23 := Asd.mk (HT2.out.below he.1)
        obtain ⟨_, he⟩ := he
        have hzlen : ¬ 16384 < z.data.toList.length := by
          have h1 : z.data.toList.length = z.size := rfl
          rw [h1, HZS.out]
          omega
        rw [if_neg hzlen, HZL.out, lexT_cat HX.out HY.out] at he
        obtain ⟨A3, m3, c3, rfl, ht3⟩ := he
        have HT3 := Asd.mk ht3
        have hm1 : m1 = xs.length := HT13.out.1
        have hm2 : m2 = ys.length := HT23.out.1
        have hm3 : m3 = m1 + m2 := by rw [ht3.1, List.length_append, hm1, hm2]; simp [shT]
        have hm1b : m1 ≤ 16384 := HT13.out.2.1
        have hm2b : m2 ≤ 16384 := HT23.out.2.1
        have HM1 := Asd.mk hm1
        have HM2 := Asd.mk hm2
        clear ht3 hzlen HT12 HT2 hm1 hm2
        subst hm3
        have HAL : Asd (a.data.toList.length = a.size) := Asd.mk rfl
        go_wp2
        go_loopw [11] (fun v wr => ∃ k : Nat, k ≤ m1 + m2 ∧ v = .int .i64 (k : Int) ∧ Asd (Below w3.heap.size w3 wr)) (fun v _ => (m1 + m2) - (intOf v).toNat)
        case atStart => exact ⟨0, by omega, rfl, ⟨Below.refl _ _⟩⟩
        case round =>
          obtain ⟨k, hk, rfl, HB⟩ := hrel
          by_cases hlt : k < m1 + m2
          · obtain ⟨gz, rfl, hcz⟩ := HT3.out.2.2 (by omega)
            have hkz : k < (xs ++ shT (a.data.toList.length + 1) ys).length := by rw [← HT3.out.1]; exact hlt
            have hz := hcz k hkz
            clear hcz
            by_cases hx : k < m1
            · obtain ⟨gx, rfl, hcx⟩ := HT13.out.2.2 (by omega)
              have hkx : k < xs.length := by rw [← HM1.out]; exact hx
              have hxx := hcx k hkx
              clear hcx
              have HE : Asd ((xs ++ shT (a.data.toList.length + 1) ys)[k]'hkz = xs[k]'hkx) := Asd.mk (List.getElem_append_left hkx)
              rw [HE.out] at hz
              generalize xs[k]'hkx = x at hz hxx
              obtain ⟨t, p⟩ := x
              obtain ⟨z0, z1, z2, z3⟩ := hz
              obtain ⟨q0, q1, q2, q3⟩ := hxx
              simp only at z0 z1 z2 z3 q0 q1 q2 q3
              have e0 := (HB.out.cell (World.block_lt_of_cell? w3 _ z0)).trans z0
              have e1 := (HB.out.cell (World.block_lt_of_cell? w3 _ z1)).trans z1
              have e2 := (HB.out.cell (World.block_lt_of_cell? w3 _ z2)).trans z2
              have e3 := (HB.out.cell (World.block_lt_of_cell? w3 _ z3)).trans z3
              have HBN := Asd.mk (below_alloc HB.out (.cells #[.int .i64 (t.kind : Int), .string ⟨t.text.toArray⟩, .int .i64 (p : Nat), .int .i64 t.num] 23))
              have HNN := Asd.mk (blk_new wr (.cells #[.int .i64 (t.kind : Int), .string ⟨t.text.toArray⟩, .int .i64 (p : Nat), .int .i64 t.num] 23))
              have HQ : Asd (∀ w', Below w3.heap.size w3 w' → w'.cell? ⟨gx, k * 4, none⟩ = some (.int .i64 (t.kind : Int)) ∧ w'.cell? ⟨gx, k * 4 + 1, none⟩ = some (.string ⟨t.text.toArray⟩) ∧ w'.cell? ⟨gx, k * 4 + 2, none⟩ = some (.int .i64 (p : Nat)) ∧ w'.cell? ⟨gx, k * 4 + 3, none⟩ = some (.int .i64 t.num)) := Asd.mk fun w' hb =>
                ⟨(hb.cell (World.block_lt_of_cell? w3 _ q0)).trans q0, (hb.cell (World.block_lt_of_cell? w3 _ q1)).trans q1, (hb.cell (World.block_lt_of_cell? w3 _ q2)).trans q2, (hb.cell (World.block_lt_of_cell? w3 _ q3)).trans q3⟩
              clear z0 z1 z2 z3 q0 q1 q2 q3
              have hq : ∀ w, (binOp .neq 23 (.agg #[.int .i64 (t.kind : Int), .string ⟨t.text.toArray⟩, .int .i64 (p : Nat), .int .i64 t.num]) (.agg #[.int .i64 (t.kind : Int), .string ⟨t.text.toArray⟩, .int .i64 (p : Nat), .int .i64 t.num])).run Tryd.prog w = .ok (.bool false) w := fun w => by rw [tok_neq]; simp
              go_upto_region 15 with fail
              generalize wr.alloc (.cells #[.int .i64 (t.kind : Int), .string ⟨t.text.toArray⟩, .int .i64 (p : Nat), .int .i64 t.num] 23) = W5 at HBN HNN ⊢
              obtain ⟨q0, q1, q2, q3⟩ := HQ.out _ HBN.out
              have y0 := (blk_cell HNN.out 0).trans rfl
              have y1 := (blk_cell HNN.out 1).trans rfl
              have y2 := (blk_cell HNN.out 2).trans rfl
              have y3 := (blk_cell HNN.out 3).trans rfl
              generalize wr.heap.size = g5 at y0 y1 y2 y3 ⊢
              go_quiet (fail)
              have HB6 : Asd (∀ n, Below w3.heap.size w3 (W5.drewN n)) := Asd.mk fun n => HBN.out.trans ((below_drewN' W5 n).mono HBN.out.size)
              go_wp2
              go_roundw
              case rel => exact ⟨k + 1, by omega, by go_num, ⟨HB6.out _⟩⟩
              case measure => simp [intOf]; omega
            · have hx' : m1 ≤ k := by omega
              obtain ⟨gy, rfl, hcy⟩ := HT23.out.2.2 (by omega)
              have hky : k - m1 < ys.length := by rw [← HM2.out]; omega
              have hyy := hcy (k - m1) hky
              clear hcy
              have HE : Asd ((xs ++ shT (a.data.toList.length + 1) ys)[k]'hkz = ((ys[k - m1]'hky).1, (ys[k - m1]'hky).2 + (a.size + 1))) := Asd.mk (by
                rw [List.getElem_append_right (by rw [← HM1.out]; exact hx')]
                simp only [shT, List.getElem_map, HAL.out, HM1.out])
              rw [HE.out] at hz
              have hpl := lexT_place HY.out (k - m1) hky
              generalize ys[k - m1]'hky = x at hz hyy hpl
              obtain ⟨t, p⟩ := x
              obtain ⟨z0, z1, z2, z3⟩ := hz
              obtain ⟨q0, q1, q2, q3⟩ := hyy
              simp only at z0 z1 z2 z3 q0 q1 q2 q3 hpl
              have hpb : p ≤ 1048576 := by
                have h9 : b.data.toList.length = b.size := rfl
                omega
              have HPI : Asd ((p : Int) + ((a.size : Int) + 1) - (a.size : Int) - 1 = (p : Int)) := Asd.mk (by omega)
              clear hpl
              have e0 := (HB.out.cell (World.block_lt_of_cell? w3 _ z0)).trans z0
              have e1 := (HB.out.cell (World.block_lt_of_cell? w3 _ z1)).trans z1
              have e2 := (HB.out.cell (World.block_lt_of_cell? w3 _ z2)).trans z2
              have e3 := (HB.out.cell (World.block_lt_of_cell? w3 _ z3)).trans z3
              have HBN := Asd.mk (below_alloc HB.out (.cells #[.int .i64 (t.kind : Int), .string ⟨t.text.toArray⟩, .int .i64 (p : Nat), .int .i64 t.num] 23))
              have HNN := Asd.mk (blk_new wr (.cells #[.int .i64 (t.kind : Int), .string ⟨t.text.toArray⟩, .int .i64 (p : Nat), .int .i64 t.num] 23))
              have HQ : Asd (∀ w', Below w3.heap.size w3 w' → w'.cell? ⟨gy, (k - m1) * 4, none⟩ = some (.int .i64 (t.kind : Int)) ∧ w'.cell? ⟨gy, (k - m1) * 4 + 1, none⟩ = some (.string ⟨t.text.toArray⟩) ∧ w'.cell? ⟨gy, (k - m1) * 4 + 2, none⟩ = some (.int .i64 (p : Nat)) ∧ w'.cell? ⟨gy, (k - m1) * 4 + 3, none⟩ = some (.int .i64 t.num)) := Asd.mk fun w' hb =>
                ⟨(hb.cell (World.block_lt_of_cell? w3 _ q0)).trans q0, (hb.cell (World.block_lt_of_cell? w3 _ q1)).trans q1, (hb.cell (World.block_lt_of_cell? w3 _ q2)).trans q2, (hb.cell (World.block_lt_of_cell? w3 _ q3)).trans q3⟩
              clear z0 z1 z2 z3 q0 q1 q2 q3
              have hq : ∀ w, (binOp .neq 23 (.agg #[.int .i64 (t.kind : Int), .string ⟨t.text.toArray⟩, .int .i64 (p : Nat), .int .i64 t.num]) (.agg #[.int .i64 (t.kind : Int), .string ⟨t.text.toArray⟩, .int .i64 (p : Nat), .int .i64 t.num])).run Tryd.prog w = .ok (.bool false) w := fun w => by rw [tok_neq]; simp
              go_upto_region 18 with fail
              rw [HPI.out]
              generalize wr.alloc (.cells #[.int .i64 (t.kind : Int), .string ⟨t.text.toArray⟩, .int .i64 (p : Nat), .int .i64 t.num] 23) = W5 at HBN HNN ⊢
              obtain ⟨q0, q1, q2, q3⟩ := HQ.out _ HBN.out
              have y0 := (blk_cell HNN.out 0).trans rfl
              have y1 := (blk_cell HNN.out 1).trans rfl
              have y2 := (blk_cell HNN.out 2).trans rfl
              have y3 := (blk_cell HNN.out 3).trans rfl
              generalize wr.heap.size = g5 at y0 y1 y2 y3 ⊢
              have hsub : ((k : Int) - (m1 : Int)) = ((k - m1 : Nat) : Int) := by omega
              have hkm : k - m1 < m2 := by omega
              go_quiet (fail)
              have HB6 : Asd (∀ n, Below w3.heap.size w3 (W5.drewN n)) := Asd.mk fun n => HBN.out.trans ((below_drewN' W5 n).mono HBN.out.size)
              go_wp2
              go_roundw
              case rel => exact ⟨k + 1, by omega, by go_num, ⟨HB6.out _⟩⟩
              case measure => simp [intOf]; omega
          · have hkk : k = m1 + m2 := by omega
            subst hkk
            have HB6 : Asd (Below w.heap.size w wr) := Asd.mk (HB3.out.trans (HB.out.mono HB3.out.size))
            clear hlt
            go_wp2
            go_ret
            exact ⟨ret_eq rfl, HB6.out⟩
    · clear he
      go_wp2
      go_ret
      exact ⟨ret_eq rfl, HB2.out⟩
  · clear he
    go_wp2_with fail
    refine (tokens_reads b _ HW1.out).mono ?_
    rintro e w2 he
    have HB2 : Asd (Below w.heap.size w w2) := Asd.mk (HB1.out.trans (he.1.mono HB1.out.size))
    rcases lexR_cases he with ⟨ys, A2, m2, c2, rfl, hx2, ht2, hl2⟩ | ⟨N2, rfl⟩
    · clear he hx2 ht2 hl2
      go_wp2
      go_ret
      exact ⟨ret_eq rfl, HB2.out⟩
    · clear he
      go_wp2
      go_ret
      exact ⟨ret_eq rfl, HB2.out⟩
end Go.Proofs.YtcefmhofidoloaaDoor.Lex
