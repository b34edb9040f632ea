/- The reference's Size. -/
import Derived.Test.YtnohhmopiflboaaNode3
set_option linter.unusedVariables false
set_option linter.unusedSimpArgs false
namespace Go.Proofs.Ytnohhmopiflboaa.Nod
open Go.RowKit Go.Proofs.Ytnohhmopiflboaa.Base Go.Proofs.Ytnohhmopiflboaa.Byt Go.Proofs.Ytnohhmopiflboaa.Rd

theorem wrap_add3 (a b c : Int) : wrap64 (wrap64 a + b + c) = wrap64 (a + b + c) := by unfold wrap64; omega
theorem wrap_add4 (a b c d : Int) : wrap64 (wrap64 a + b + c + d) = wrap64 (a + b + c + d) := by unfold wrap64; omega

set_option maxHeartbeats 1600000 in
theorem rsize_calls (v0 v1 v2 v3 : Value) (x : PNode) (w : World) (h : rNode w [v0, v1, v2, v3] x) :
    Calls Try.prog 15 #[.agg #[v0, v1, v2, v3]] w fun e w' => e = .returned (.int .i64 (wrap64 (nodeSz x))) ∧ Below w.heap.size w w' := by
  obtain ⟨A1, n1, c1, A2, n2, c2, A3, n3, c3, rfl, rfl, rfl, rfl, hna⟩ := node_of h
  have HNA := Asd.mk hna
  have hb1 : n1 ≤ 140737488351232 := by have := hna.b1; simp only [reachBytes] at this; omega
  have hb2 : n2 ≤ 140737488351232 := by have := hna.b2; simp only [reachBytes] at this; omega
  clear h hna
  cases hx : x.1 with
  | true =>
    have HX := Asd.mk hx
    clear hx
    go_enter Try.func15, Try.ntmps15
    go_wp2
    go_loop [5, 6] (fun s i => ∃ (k : Nat) (t : Int), k ≤ n1 ∧ i = .int .i64 (k : Int) ∧ s = .int .i64 t ∧ Asd (t = wrap64 (3 + sumI ((x.2.1.take k).map cellSz)))) (fun _ i => n1 - (intOf i).toNat)
    case atStart => exact ⟨0, 3, by omega, rfl, rfl, ⟨by simp [sumI, wrap64]⟩⟩
    case round =>
      obtain ⟨k, t, hk, rfl, rfl, HT⟩ := hrel
      by_cases hlt : k < n1
      · have hkl : k < x.2.1.length := by rw [HNA.out.cells.1]; exact hlt
        obtain ⟨b, o, Ak, nk, ck, Av, nv, cv, rfl, hbl, q0, q1, q2, q3, ib0, ib1, _, _, hnk, hnv⟩ := cell_at HNA.out.cells k hkl
        have HSN := Asd.mk (take_snoc x.2.1 k hkl)
        have HC : Asd (cellSz x.2.1[k] = csz nk nv x.2.1[k].2.2.1) := Asd.mk (by unfold cellSz; rw [ib0.1, ib1.1])
        generalize hover : x.2.1[k].2.2.1 = over at q2 HC
        generalize hsize : x.2.1[k].2.2.2 = size at q3
        clear ib0 ib1 hover hsize
        by_cases ho : over = 0
        · have HO := Asd.mk ho
          have ho' : (over != 0) = false := by rw [ho]; rfl
          clear ho
          go_wp2
          go_round
          case rel =>
            refine ⟨k + 1, _, by omega, by go_num, rfl, ⟨?_⟩⟩
            simp only [HT.out, wrap_add, wrap_add3, wrap_add4]
            rw [HSN.out, List.map_append, List.map_cons, List.map_nil, sumI_snoc, HC.out]
            congr 1
            simp only [csz, HO.out, if_true]
            omega
          case measure => simp [intOf]; omega
        · have HO := Asd.mk ho
          have ho' : (over != 0) = true := by rw [bne_iff_ne]; exact ho
          clear ho
          go_wp2
          go_round
          case rel =>
            refine ⟨k + 1, _, by omega, by go_num, rfl, ⟨?_⟩⟩
            simp only [HT.out, wrap_add, wrap_add3, wrap_add4]
            rw [HSN.out, List.map_append, List.map_cons, List.map_nil, sumI_snoc, HC.out]
            congr 1
            simp only [csz, if_neg HO.out]
            omega
          case measure => simp [intOf]; omega
      · have hkn : x.2.1.take k = x.2.1 := List.take_of_length_le (by rw [HNA.out.cells.1]; omega)
        have HE := Asd.mk hkn
        clear hkn
        go_wp2
        go_ret
        exact ⟨ret_eq (by rw [HT.out, HE.out]; simp [nodeSz, HX.out]), (Below.refl _ _).alloc (Nat.le_refl _) _⟩
  | false =>
    have HX := Asd.mk hx
    clear hx
    go_enter Try.func15, Try.ntmps15
    go_wp2
    go_loop [3, 4] (fun s i => ∃ (k : Nat) (t : Int), k ≤ n2 ∧ i = .int .i64 (k : Int) ∧ s = .int .i64 t ∧ Asd (t = wrap64 (5 + sumI ((x.2.2.1.take k).map keySz)))) (fun _ i => n2 - (intOf i).toNat)
    case atStart => exact ⟨0, 5, by omega, rfl, rfl, ⟨by simp [sumI, wrap64]⟩⟩
    case round =>
      obtain ⟨k, t, hk, rfl, rfl, HT⟩ := hrel
      by_cases hlt : k < n2
      · have hkl : k < x.2.2.1.length := by rw [HNA.out.keys.1]; exact hlt
        obtain ⟨b, o, Ak, nk, ck, rfl, hbl, q0, ib0, _, hnk⟩ := key_at HNA.out.keys k hkl
        have HSN := Asd.mk (take_snoc x.2.2.1 k hkl)
        have HC : Asd (keySz x.2.2.1[k] = 3 + nk) := Asd.mk (by unfold keySz; rw [ib0.1])
        clear ib0
        go_wp2
        go_round
        case rel =>
          refine ⟨k + 1, _, by omega, by go_num, rfl, ⟨?_⟩⟩
          simp only [HT.out, wrap_add, wrap_add3, wrap_add4]
          rw [HSN.out, List.map_append, List.map_cons, List.map_nil, sumI_snoc, HC.out]
          congr 1
          omega
        case measure => simp [intOf]; omega
      · have hkn : x.2.2.1.take k = x.2.2.1 := List.take_of_length_le (by rw [HNA.out.keys.1]; omega)
        have HE := Asd.mk hkn
        clear hkn
        go_wp2
        go_ret
        exact ⟨ret_eq (by rw [HT.out, HE.out]; simp [nodeSz, HX.out]), (Below.refl _ _).alloc (Nat.le_refl _) _⟩
end Go.Proofs.Ytnohhmopiflboaa.Nod
