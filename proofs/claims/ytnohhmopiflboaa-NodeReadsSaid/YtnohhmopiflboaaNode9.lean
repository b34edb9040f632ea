/- The reference's fields. -/
import Derived.Test.YtnohhmopiflboaaNode8
import Derived.Deep.RegionHeld3
set_option linter.unusedVariables false
set_option linter.unusedSimpArgs false
namespace Go.Proofs.Ytnohhmopiflboaa.Nod
open Go.RowKit Go.Proofs.Ytnohhmopiflboaa.Base Go.Proofs.Ytnohhmopiflboaa.Byt Go.Proofs.Ytnohhmopiflboaa.Rd

theorem below_trans' {a b c : World} (h : Below a.heap.size a b) (k : Below b.heap.size b c) : Below a.heap.size a c := h.trans (k.mono h.size)
def keysOf (x : PNode) : List PB := x.2.1.map (·.1)
def goodAt (x : PNode) (j : Nat) : Bool := cellOk (x.2.1.getD j ([], [], 0, 0)) && (decide (j = 0) || !badPair ((keysOf x).getD (j - 1) []) ((keysOf x).getD j []))
theorem good_all {x : PNode} (h : ∀ j, j < x.2.1.length → goodAt x j = true) : (x.2.1.all cellOk && risingB (x.2.1.map (·.1))) = true := by
  rw [Bool.and_eq_true]
  constructor
  · rw [List.all_eq_true]
    intro c hc
    obtain ⟨j, hj, rfl⟩ := List.getElem_of_mem hc
    have := h j hj
    simp only [goodAt, Bool.and_eq_true, getD_of _ _ j hj] at this
    exact this.1
  · refine rising_true.2 fun i hi => ?_
    simp only [List.length_map] at hi
    have := h (i + 1) hi
    simp only [goodAt, Bool.and_eq_true, keysOf, Nat.add_sub_cancel] at this
    simpa using this.2
theorem good_not {x : PNode} {j : Nat} (hj : j < x.2.1.length) (h : goodAt x j = false) : (x.2.1.all cellOk && risingB (x.2.1.map (·.1))) = false := by
  cases hv : (x.2.1.all cellOk && risingB (x.2.1.map (·.1))) with
  | false => rfl
  | true =>
    rw [Bool.and_eq_true, List.all_eq_true] at hv
    have h1 := hv.1 _ (List.getElem_mem hj)
    simp only [goodAt, getD_of _ _ j hj, h1, Bool.true_and] at h
    cases j with
    | zero => simp at h
    | succ i =>
      have := rising_true.1 hv.2 i (by simpa using hj)
      simp only [Nat.add_sub_cancel, keysOf, this] at h
      simp at h

theorem below_cell {B : Nat} {w w' : World} (h : Below B w w') {a : Addr} {v : Value} (ha : a.block < B) (hc : w.cell? a = some v) : w'.cell? a = some v := (h.cell ha).trans hc

set_option maxRecDepth 100000 in
set_option maxHeartbeats 3200000 in
theorem rfields_leaf (v1 v2 v3 : Value) (x : PNode) (w : World) (h : rNode w [.bool true, v1, v2, v3] x) :
    Calls Try.prog 41 #[.agg #[.bool true, v1, v2, v3]] w (Tells w (.bool (leafOk x))) := by
  obtain ⟨A1, n1, c1, A2, n2, c2, A3, n3, c3, hv0, rfl, rfl, rfl, hna⟩ := node_of h
  have HNA := Asd.mk hna
  have hb1 : n1 * 64 ≤ 140737488351232 := hna.b1
  have hb2 : n2 ≤ 140737488351232 := by have := hna.b2; simp only [reachBytes] at this; omega
  have hb3 : n3 ≤ 140737488351232 := by have := hna.b3; simp only [reachBytes] at this; omega
  have hl1 := Asd.mk hna.cells.1
  have hl2 := Asd.mk hna.keys.1
  have hl3 := Asd.mk hna.kids.1
  have HB : Asd (∀ o, Below w.heap.size w (w.alloc o)) := Asd.mk fun o => (Below.refl _ _).alloc (Nat.le_refl _) _
  clear h hna hv0
  by_cases h1 : n1 = 0
  · have HI : Asd (leafOk x = false) := Asd.mk (by simp only [leafOk, hl1.out, h1]; simp)
    subst h1
    go_enter Try.func41, Try.ntmps41
    go_wp2
    go_ret
    exact ⟨ret_eq (by rw [HI.out]; rfl), HB.out _⟩
  · have t1 : ((n1 : Int) == 0) = false := by simp; omega
    by_cases h2 : 0 < n2
    · have HI : Asd (leafOk x = false) := Asd.mk (by have : decide (n2 + n3 = 0) = false := by simp; omega
                                                     simp only [leafOk, hl2.out, hl3.out, this]; simp)
      clear h1
      go_enter Try.func41, Try.ntmps41
      go_wp2
      go_ret
      exact ⟨ret_eq (by rw [HI.out]; rfl), HB.out _⟩
    · obtain rfl : n2 = 0 := by omega
      by_cases h3 : 0 < n3
      · have HI : Asd (leafOk x = false) := Asd.mk (by have : decide (0 + n3 = 0) = false := by simp; omega
                                                       simp only [leafOk, hl2.out, hl3.out, this]; simp)
        clear h1
        go_enter Try.func41, Try.ntmps41
        go_wp2
        go_ret
        exact ⟨ret_eq (by rw [HI.out]; rfl), HB.out _⟩
      · obtain rfl : n3 = 0 := by omega
        have HI : Asd (leafOk x = (x.2.1.all cellOk && risingB (x.2.1.map (·.1)))) := Asd.mk (by
          have : decide (0 < n1) = true := by simp; omega
          simp only [leafOk, hl1.out, hl2.out, hl3.out, this]
          simp)
        clear h1 h2 h3
        go_enter Try.func41, Try.ntmps41
        go_wp2
        go_loopw [3] (fun i wr => ∃ k : Nat, k ≤ n1 ∧ i = .int .i64 (k : Int) ∧ Below (w.heap.size + 1) (w.alloc (.cells #[.bool true, .slice A1 n1 c1, .slice A2 0 c2, .slice A3 0 c3] 26)) wr ∧ Asd (∀ j, j < k → goodAt x j = true)) (fun i _ => n1 - (intOf i).toNat)
        case atStart => exact ⟨0, by omega, rfl, Below.refl _ _, ⟨fun j h => absurd h (by omega)⟩⟩
        case round =>
          obtain ⟨k, hk, rfl, hb, HG⟩ := hrel
          have HBW := Asd.mk hb
          have hp1 : wr.cell? ⟨w.heap.size, 1, none⟩ = some (.slice A1 n1 c1) := below_cell hb (by simp) (by simp)
          clear hb
          by_cases hlt : k < n1
          · have hkl : k < x.2.1.length := by rw [hl1.out]; exact hlt
            have hbw : Below w.heap.size w wr := (HB.out _).trans (HBW.out.mono (by simp))
            obtain ⟨b, o, Ak, nk, ck, Av, nv, cv, rfl, hbl, q0, q1, q2, q3, ib0, ib1, _, _, hnk, hnv⟩ := cell_at (HNA.out.below hbw).cells k hkl
            have HOK : Asd (cellOk x.2.1[k] = cRight nk nv x.2.1[k].2.2.1 x.2.1[k].2.2.2) := Asd.mk (by unfold cellOk; rw [ib0.1, ib1.1])
            generalize hover : x.2.1[k].2.2.1 = over at q2 HOK
            generalize hsize : x.2.1[k].2.2.2 = size at q3 HOK
            cases hcr : cRight nk nv over size with
            | false =>
              have HGN : Asd (goodAt x k = false) := Asd.mk (by simp only [goodAt, getD_of _ _ k hkl, HOK.out, hcr, Bool.false_and])
              have HS : Asd (∀ w', Below wr.heap.size wr w' → w'.cell? ⟨w.heap.size, 1, none⟩ = some (.slice (some ⟨b, o, none⟩) n1 c1) ∧ w'.cell? ⟨b, o + k * 4, none⟩ = some (.slice Ak nk ck) ∧ w'.cell? ⟨b, o + k * 4 + 1, none⟩ = some (.slice Av nv cv) ∧ w'.cell? ⟨b, o + k * 4 + 2, none⟩ = some (.int .i64 over) ∧ w'.cell? ⟨b, o + k * 4 + 3, none⟩ = some (.int .i64 size) ∧ Below wr.heap.size wr w') := Asd.mk fun w' h => ⟨below_cell h (World.block_lt_of_cell? _ _ hp1) hp1, below_cell h hbl q0, below_cell h hbl q1, below_cell h hbl q2, below_cell h hbl q3, h⟩
              go_upto_region 7 with fail
              refine wp_region_held_drew (S := fun w' => w'.cell? ⟨w.heap.size, 1, none⟩ = some (.slice (some ⟨b, o, none⟩) n1 c1) ∧ w'.cell? ⟨b, o + k * 4, none⟩ = some (.slice Ak nk ck) ∧ w'.cell? ⟨b, o + k * 4 + 1, none⟩ = some (.slice Av nv cv) ∧ w'.cell? ⟨b, o + k * 4 + 2, none⟩ = some (.int .i64 over) ∧ w'.cell? ⟨b, o + k * 4 + 3, none⟩ = some (.int .i64 size) ∧ Below wr.heap.size wr w') (by kernel_rfl) (HS.out _ (Below.refl _ _).drew) (fun hHeld => ?_)
              refine wpAnyH_take (i := 0) (oi := ({ dst := some 31, op := Op.fieldAddr 26 (Operand.tmp 1) 1, type := 0, pos := "ref.go:62", after := #[], guard := none } : Oper)) (v := ?va0) rfl (by kernel_rfl) (by kernel_rfl) (by kernel_rfl) (fun _ _ _ h => h) (Or.inl ⟨by rfl, ?ha0⟩) (by assumption) ?ra0
              case ha0 => (intro w hSw; (try dsimp only at hSw); go_simp; try (with_reducible rfl))
              try simp only [Act.put, List.setIfInBounds_toArray, List.set_cons_zero, List.set_cons_succ]
              refine wpAnyH_take (i := 1) (oi := ({ dst := some 32, op := Op.load 22 (Operand.tmp 31), type := 22, pos := "ref.go:62", after := #[{ on := 0, ground := Ground.data }], guard := none } : Oper)) (v := ?va1) rfl (by kernel_rfl) (by kernel_rfl) (by kernel_rfl) (fun _ _ _ h => h) (Or.inl ⟨by rfl, ?ha1⟩) (by assumption) ?ra1
              case ha1 => (intro w hSw; (try dsimp only at hSw); go_simp; try (with_reducible rfl))
              try simp only [Act.put, List.setIfInBounds_toArray, List.set_cons_zero, List.set_cons_succ]
              refine wpAnyH_take (i := 2) (oi := ({ dst := some 33, op := Op.move (Operand.tmp 3), type := 3, pos := "ref.go:62", after := #[], guard := none } : Oper)) (v := ?va2) rfl (by kernel_rfl) (by kernel_rfl) (by kernel_rfl) (fun _ _ _ h => h) (Or.inl ⟨by rfl, ?ha2⟩) (by assumption) ?ra2
              case ha2 => (intro w hSw; (try dsimp only at hSw); go_simp; try (with_reducible rfl))
              try simp only [Act.put, List.setIfInBounds_toArray, List.set_cons_zero, List.set_cons_succ]
              refine wpAnyH_take (i := 3) (oi := ({ dst := some 34, op := Op.indexAddr 22 (Operand.tmp 32) (Operand.tmp 33), type := 0, pos := "ref.go:62", after := #[{ on := 1, ground := Ground.data }, { on := 2, ground := Ground.data }], guard := none } : Oper)) (v := ?va3) rfl (by kernel_rfl) (by kernel_rfl) (by kernel_rfl) (fun _ _ _ h => h) (Or.inl ⟨by rfl, ?ha3⟩) (by assumption) ?ra3
              case ha3 => (intro w hSw; (try dsimp only at hSw); go_simp; try (with_reducible rfl))
              try simp only [Act.put, List.setIfInBounds_toArray, List.set_cons_zero, List.set_cons_succ]
              refine wpAnyH_take (i := 4) (oi := ({ dst := some 35, op := Op.load 78 (Operand.tmp 34), type := 78, pos := "ref.go:62", after := #[{ on := 3, ground := Ground.data }], guard := none } : Oper)) (v := ?va4) rfl (by kernel_rfl) (by kernel_rfl) (by kernel_rfl) (fun _ _ _ h => h) (Or.inl ⟨by rfl, ?ha4⟩) (by assumption) ?ra4
              case ha4 => (intro w hSw; (try dsimp only at hSw); go_simp; try (with_reducible rfl))
              try simp only [Act.put, List.setIfInBounds_toArray, List.set_cons_zero, List.set_cons_succ]
              refine wpAnyH_ready (rs := [5]) (by kernel_rfl) (by simp) ?_
              refine AllReadyH.cons (o := ({ dst := some 36, op := Op.call { callee := Callee.value (Operand.func 75), args := #[Operand.tmp 35], argTypes := #[78] }, type := 4, pos := "ref.go:62", after := #[{ on := 4, ground := Ground.data }], guard := none } : Oper)) rfl (fun K hK => ?_) AllReadyH.nil
              go_simp
              refine (rcell_calls Ak Av nk nv ck cv over size _ hnk hnv).mono ?_
              rintro e w2 ⟨rfl, hb2⟩
              rw [hcr]
              go_wp2_with fail
              refine hK.out _ _ (HS.out _ (below_trans' (Below.refl _ _).drew hb2)) (fun hHeld => ?_)
              clear hK K
              try simp only [Act.put, List.setIfInBounds_toArray, List.set_cons_zero, List.set_cons_succ]
              refine wpAnyH_take (i := 6) (oi := ({ dst := some 37, op := Op.unOp UnOp.not 4 (Operand.tmp 36), type := 4, pos := "ref.go:62", after := #[{ on := 5, ground := Ground.data }], guard := none } : Oper)) (v := ?va6) rfl (by kernel_rfl) (by kernel_rfl) (by kernel_rfl) (fun _ _ _ h => h) (Or.inl ⟨by rfl, ?ha6⟩) (by assumption) ?ra6
              case ha6 => (intro w hSw; (try dsimp only at hSw); go_simp; try (with_reducible rfl))
              try simp only [Act.put, List.setIfInBounds_toArray, List.set_cons_zero, List.set_cons_succ]
              refine wpAnyH_take (i := 7) (oi := ({ dst := some 38, op := Op.move (Operand.tmp 37), type := 4, pos := "ref.go:62", after := #[{ on := 6, ground := Ground.data }, { on := 5, ground := Ground.chain }], guard := none } : Oper)) (v := ?va7) rfl (by kernel_rfl) (by kernel_rfl) (by kernel_rfl) (fun _ _ _ h => h) (Or.inl ⟨by rfl, ?ha7⟩) (by assumption) ?ra7
              case ha7 => (intro w hSw; (try dsimp only at hSw); go_simp; try (with_reducible rfl))
              try simp only [Act.put, List.setIfInBounds_toArray, List.set_cons_zero, List.set_cons_succ]
              refine wpAnyH_take (i := 8) (oi := ({ dst := some 39, op := Op.move (Operand.tmp 3), type := 3, pos := "ref.go:62", after := #[{ on := 7, ground := Ground.guard }], guard := some (7, false) } : Oper)) (v := undef) rfl (by kernel_rfl) (by kernel_rfl) (by kernel_rfl) (fun _ _ _ h => h) (Or.inr ⟨by rfl, rfl⟩) (by assumption) ?_
              try simp only [Act.put, List.setIfInBounds_toArray, List.set_cons_zero, List.set_cons_succ]
              refine wpAnyH_take (i := 9) (oi := ({ dst := some 40, op := Op.binOp BinOp.gtr 3 (Operand.tmp 39) (Operand.const (Value.int IntKind.i64 0)) 3, type := 4, pos := "ref.go:62", after := #[{ on := 8, ground := Ground.data }, { on := 7, ground := Ground.guard }], guard := some (7, false) } : Oper)) (v := undef) rfl (by kernel_rfl) (by kernel_rfl) (by kernel_rfl) (fun _ _ _ h => h) (Or.inr ⟨by rfl, rfl⟩) (by assumption) ?_
              try simp only [Act.put, List.setIfInBounds_toArray, List.set_cons_zero, List.set_cons_succ]
              refine wpAnyH_take (i := 10) (oi := ({ dst := some 41, op := Op.move (Operand.tmp 40), type := 4, pos := "ref.go:62", after := #[{ on := 9, ground := Ground.data }, { on := 7, ground := Ground.chain }, { on := 7, ground := Ground.guard }], guard := some (7, false) } : Oper)) (v := undef) rfl (by kernel_rfl) (by kernel_rfl) (by kernel_rfl) (fun _ _ _ h => h) (Or.inr ⟨by rfl, rfl⟩) (by assumption) ?_
              try simp only [Act.put, List.setIfInBounds_toArray, List.set_cons_zero, List.set_cons_succ]
              refine wpAnyH_take (i := 11) (oi := ({ dst := some 42, op := Op.fieldAddr 26 (Operand.tmp 1) 1, type := 0, pos := "ref.go:62", after := #[{ on := 10, ground := Ground.guard }], guard := some (10, true) } : Oper)) (v := undef) rfl (by kernel_rfl) (by kernel_rfl) (by kernel_rfl) (fun _ _ _ h => h) (Or.inr ⟨by rfl, rfl⟩) (by assumption) ?_
              try simp only [Act.put, List.setIfInBounds_toArray, List.set_cons_zero, List.set_cons_succ]
              refine wpAnyH_take (i := 12) (oi := ({ dst := some 43, op := Op.load 22 (Operand.tmp 42), type := 22, pos := "ref.go:62", after := #[{ on := 11, ground := Ground.data }, { on := 10, ground := Ground.guard }], guard := some (10, true) } : Oper)) (v := undef) rfl (by kernel_rfl) (by kernel_rfl) (by kernel_rfl) (fun _ _ _ h => h) (Or.inr ⟨by rfl, rfl⟩) (by assumption) ?_
              try simp only [Act.put, List.setIfInBounds_toArray, List.set_cons_zero, List.set_cons_succ]
              refine wpAnyH_take (i := 13) (oi := ({ dst := some 44, op := Op.move (Operand.tmp 3), type := 3, pos := "ref.go:62", after := #[{ on := 10, ground := Ground.guard }], guard := some (10, true) } : Oper)) (v := undef) rfl (by kernel_rfl) (by kernel_rfl) (by kernel_rfl) (fun _ _ _ h => h) (Or.inr ⟨by rfl, rfl⟩) (by assumption) ?_
              try simp only [Act.put, List.setIfInBounds_toArray, List.set_cons_zero, List.set_cons_succ]
              refine wpAnyH_take (i := 14) (oi := ({ dst := some 45, op := Op.indexAddr 22 (Operand.tmp 43) (Operand.tmp 44), type := 0, pos := "ref.go:62", after := #[{ on := 12, ground := Ground.data }, { on := 13, ground := Ground.data }, { on := 10, ground := Ground.guard }], guard := some (10, true) } : Oper)) (v := undef) rfl (by kernel_rfl) (by kernel_rfl) (by kernel_rfl) (fun _ _ _ h => h) (Or.inr ⟨by rfl, rfl⟩) (by assumption) ?_
              try simp only [Act.put, List.setIfInBounds_toArray, List.set_cons_zero, List.set_cons_succ]
              refine wpAnyH_take (i := 15) (oi := ({ dst := some 46, op := Op.fieldAddr 78 (Operand.tmp 45) 0, type := 0, pos := "ref.go:62", after := #[{ on := 14, ground := Ground.data }, { on := 10, ground := Ground.guard }], guard := some (10, true) } : Oper)) (v := undef) rfl (by kernel_rfl) (by kernel_rfl) (by kernel_rfl) (fun _ _ _ h => h) (Or.inr ⟨by rfl, rfl⟩) (by assumption) ?_
              try simp only [Act.put, List.setIfInBounds_toArray, List.set_cons_zero, List.set_cons_succ]
              refine wpAnyH_take (i := 16) (oi := ({ dst := some 47, op := Op.load 31 (Operand.tmp 46), type := 31, pos := "ref.go:62", after := #[{ on := 15, ground := Ground.data }, { on := 10, ground := Ground.guard }], guard := some (10, true) } : Oper)) (v := undef) rfl (by kernel_rfl) (by kernel_rfl) (by kernel_rfl) (fun _ _ _ h => h) (Or.inr ⟨by rfl, rfl⟩) (by assumption) ?_
              try simp only [Act.put, List.setIfInBounds_toArray, List.set_cons_zero, List.set_cons_succ]
              refine wpAnyH_take (i := 17) (oi := ({ dst := some 48, op := Op.convert 31 9 (Operand.tmp 47), type := 9, pos := "ref.go:62", after := #[{ on := 16, ground := Ground.data }, { on := 10, ground := Ground.guard }], guard := some (10, true) } : Oper)) (v := undef) rfl (by kernel_rfl) (by kernel_rfl) (by kernel_rfl) (fun _ _ _ h => h) (Or.inr ⟨by rfl, rfl⟩) (by assumption) ?_
              try simp only [Act.put, List.setIfInBounds_toArray, List.set_cons_zero, List.set_cons_succ]
              refine wpAnyH_take (i := 18) (oi := ({ dst := some 49, op := Op.fieldAddr 26 (Operand.tmp 1) 1, type := 0, pos := "ref.go:62", after := #[{ on := 10, ground := Ground.guard }], guard := some (10, true) } : Oper)) (v := undef) rfl (by kernel_rfl) (by kernel_rfl) (by kernel_rfl) (fun _ _ _ h => h) (Or.inr ⟨by rfl, rfl⟩) (by assumption) ?_
              try simp only [Act.put, List.setIfInBounds_toArray, List.set_cons_zero, List.set_cons_succ]
              refine wpAnyH_take (i := 19) (oi := ({ dst := some 50, op := Op.load 22 (Operand.tmp 49), type := 22, pos := "ref.go:62", after := #[{ on := 18, ground := Ground.data }, { on := 10, ground := Ground.guard }], guard := some (10, true) } : Oper)) (v := undef) rfl (by kernel_rfl) (by kernel_rfl) (by kernel_rfl) (fun _ _ _ h => h) (Or.inr ⟨by rfl, rfl⟩) (by assumption) ?_
              try simp only [Act.put, List.setIfInBounds_toArray, List.set_cons_zero, List.set_cons_succ]
              refine wpAnyH_take (i := 20) (oi := ({ dst := some 51, op := Op.move (Operand.tmp 3), type := 3, pos := "ref.go:62", after := #[{ on := 10, ground := Ground.guard }], guard := some (10, true) } : Oper)) (v := undef) rfl (by kernel_rfl) (by kernel_rfl) (by kernel_rfl) (fun _ _ _ h => h) (Or.inr ⟨by rfl, rfl⟩) (by assumption) ?_
              try simp only [Act.put, List.setIfInBounds_toArray, List.set_cons_zero, List.set_cons_succ]
              refine wpAnyH_take (i := 21) (oi := ({ dst := some 52, op := Op.binOp BinOp.sub 3 (Operand.tmp 51) (Operand.const (Value.int IntKind.i64 1)) 3, type := 3, pos := "ref.go:62", after := #[{ on := 20, ground := Ground.data }, { on := 10, ground := Ground.guard }], guard := some (10, true) } : Oper)) (v := undef) rfl (by kernel_rfl) (by kernel_rfl) (by kernel_rfl) (fun _ _ _ h => h) (Or.inr ⟨by rfl, rfl⟩) (by assumption) ?_
              try simp only [Act.put, List.setIfInBounds_toArray, List.set_cons_zero, List.set_cons_succ]
              refine wpAnyH_take (i := 22) (oi := ({ dst := some 53, op := Op.indexAddr 22 (Operand.tmp 50) (Operand.tmp 52), type := 0, pos := "ref.go:62", after := #[{ on := 19, ground := Ground.data }, { on := 21, ground := Ground.data }, { on := 10, ground := Ground.guard }], guard := some (10, true) } : Oper)) (v := undef) rfl (by kernel_rfl) (by kernel_rfl) (by kernel_rfl) (fun _ _ _ h => h) (Or.inr ⟨by rfl, rfl⟩) (by assumption) ?_
              try simp only [Act.put, List.setIfInBounds_toArray, List.set_cons_zero, List.set_cons_succ]
              refine wpAnyH_take (i := 23) (oi := ({ dst := some 54, op := Op.fieldAddr 78 (Operand.tmp 53) 0, type := 0, pos := "ref.go:62", after := #[{ on := 22, ground := Ground.data }, { on := 10, ground := Ground.guard }], guard := some (10, true) } : Oper)) (v := undef) rfl (by kernel_rfl) (by kernel_rfl) (by kernel_rfl) (fun _ _ _ h => h) (Or.inr ⟨by rfl, rfl⟩) (by assumption) ?_
              try simp only [Act.put, List.setIfInBounds_toArray, List.set_cons_zero, List.set_cons_succ]
              refine wpAnyH_take (i := 24) (oi := ({ dst := some 55, op := Op.load 31 (Operand.tmp 54), type := 31, pos := "ref.go:62", after := #[{ on := 23, ground := Ground.data }, { on := 10, ground := Ground.guard }], guard := some (10, true) } : Oper)) (v := undef) rfl (by kernel_rfl) (by kernel_rfl) (by kernel_rfl) (fun _ _ _ h => h) (Or.inr ⟨by rfl, rfl⟩) (by assumption) ?_
              try simp only [Act.put, List.setIfInBounds_toArray, List.set_cons_zero, List.set_cons_succ]
              refine wpAnyH_take (i := 25) (oi := ({ dst := some 56, op := Op.convert 31 9 (Operand.tmp 55), type := 9, pos := "ref.go:62", after := #[{ on := 24, ground := Ground.data }, { on := 10, ground := Ground.guard }], guard := some (10, true) } : Oper)) (v := undef) rfl (by kernel_rfl) (by kernel_rfl) (by kernel_rfl) (fun _ _ _ h => h) (Or.inr ⟨by rfl, rfl⟩) (by assumption) ?_
              try simp only [Act.put, List.setIfInBounds_toArray, List.set_cons_zero, List.set_cons_succ]
              refine wpAnyH_take (i := 26) (oi := ({ dst := some 57, op := Op.binOp BinOp.leq 9 (Operand.tmp 48) (Operand.tmp 56) 9, type := 4, pos := "ref.go:62", after := #[{ on := 17, ground := Ground.data }, { on := 25, ground := Ground.data }, { on := 10, ground := Ground.guard }], guard := some (10, true) } : Oper)) (v := undef) rfl (by kernel_rfl) (by kernel_rfl) (by kernel_rfl) (fun _ _ _ h => h) (Or.inr ⟨by rfl, rfl⟩) (by assumption) ?_
              try simp only [Act.put, List.setIfInBounds_toArray, List.set_cons_zero, List.set_cons_succ]
              refine wpAnyH_take (i := 27) (oi := ({ dst := some 58, op := Op.pick (Operand.tmp 41) (Operand.tmp 57) (Operand.const (Value.bool false)), type := 4, pos := "ref.go:62", after := #[{ on := 10, ground := Ground.data }, { on := 26, ground := Ground.data }, { on := 7, ground := Ground.guard }], guard := some (7, false) } : Oper)) (v := undef) rfl (by kernel_rfl) (by kernel_rfl) (by kernel_rfl) (fun _ _ _ h => h) (Or.inr ⟨by rfl, rfl⟩) (by assumption) ?_
              try simp only [Act.put, List.setIfInBounds_toArray, List.set_cons_zero, List.set_cons_succ]
              refine wpAnyH_take (i := 28) (oi := ({ dst := some 59, op := Op.pick (Operand.tmp 38) (Operand.const (Value.bool true)) (Operand.tmp 58), type := 4, pos := "ref.go:62", after := #[{ on := 7, ground := Ground.data }, { on := 27, ground := Ground.data }], guard := none } : Oper)) (v := ?va28) rfl (by kernel_rfl) (by kernel_rfl) (by kernel_rfl) (fun _ _ _ h => h) (Or.inl ⟨by rfl, ?ha28⟩) (by assumption) ?ra28
              case ha28 => (intro w hSw; (try dsimp only at hSw); go_simp; try (with_reducible rfl))
              try simp only [Act.put, List.setIfInBounds_toArray, List.set_cons_zero, List.set_cons_succ]
              refine wpAnyH_done (by kernel_rfl) ?_ _
              have HBR := Asd.mk hbw
              have HB2 : Asd (Below w.heap.size w w2) := Asd.mk (HBR.out.trans (hHeld.2.2.2.2.2.mono HBR.out.size))
              clear hHeld HS ib0 ib1
              go_wp2
              go_ret
              exact ⟨ret_eq (by rw [HI.out, good_not hkl HGN.out]; rfl), HB2.out⟩
            | true =>
              by_cases hk0 : k = 0
              · subst hk0
                have HGN : Asd (goodAt x 0 = true) := Asd.mk (by simp only [goodAt, getD_of _ _ 0 hkl, HOK.out, hcr]; simp)
                simp only [Nat.zero_mul, Nat.add_zero] at q0 q1 q2 q3
                have HS : Asd (∀ w', Below wr.heap.size wr w' → w'.cell? ⟨w.heap.size, 1, none⟩ = some (.slice (some ⟨b, o, none⟩) n1 c1) ∧ w'.cell? ⟨b, o, none⟩ = some (.slice Ak nk ck) ∧ w'.cell? ⟨b, o + 1, none⟩ = some (.slice Av nv cv) ∧ w'.cell? ⟨b, o + 2, none⟩ = some (.int .i64 over) ∧ w'.cell? ⟨b, o + 3, none⟩ = some (.int .i64 size) ∧ Below wr.heap.size wr w') := Asd.mk fun w' h => ⟨below_cell h (World.block_lt_of_cell? _ _ hp1) hp1, below_cell h hbl q0, below_cell h hbl q1, below_cell h hbl q2, below_cell h hbl q3, h⟩
                go_upto_region 7 with fail
                refine wp_region_held_drew (S := fun w' => w'.cell? ⟨w.heap.size, 1, none⟩ = some (.slice (some ⟨b, o, none⟩) n1 c1) ∧ w'.cell? ⟨b, o, none⟩ = some (.slice Ak nk ck) ∧ w'.cell? ⟨b, o + 1, none⟩ = some (.slice Av nv cv) ∧ w'.cell? ⟨b, o + 2, none⟩ = some (.int .i64 over) ∧ w'.cell? ⟨b, o + 3, none⟩ = some (.int .i64 size) ∧ Below wr.heap.size wr w') (by kernel_rfl) (HS.out _ (Below.refl _ _).drew) (fun hHeld => ?_)
                refine wpAnyH_take (i := 0) (oi := ({ dst := some 31, op := Op.fieldAddr 26 (Operand.tmp 1) 1, type := 0, pos := "ref.go:62", after := #[], guard := none } : Oper)) (v := ?vb0) rfl (by kernel_rfl) (by kernel_rfl) (by kernel_rfl) (fun _ _ _ h => h) (Or.inl ⟨by rfl, ?hb0⟩) (by assumption) ?rb0
                case hb0 => (intro w hSw; (try dsimp only at hSw); go_simp; try (with_reducible rfl))
                try simp only [Act.put, List.setIfInBounds_toArray, List.set_cons_zero, List.set_cons_succ]
                refine wpAnyH_take (i := 1) (oi := ({ dst := some 32, op := Op.load 22 (Operand.tmp 31), type := 22, pos := "ref.go:62", after := #[{ on := 0, ground := Ground.data }], guard := none } : Oper)) (v := ?vb1) rfl (by kernel_rfl) (by kernel_rfl) (by kernel_rfl) (fun _ _ _ h => h) (Or.inl ⟨by rfl, ?hb1⟩) (by assumption) ?rb1
                case hb1 => (intro w hSw; (try dsimp only at hSw); go_simp; try (with_reducible rfl))
                try simp only [Act.put, List.setIfInBounds_toArray, List.set_cons_zero, List.set_cons_succ]
                refine wpAnyH_take (i := 2) (oi := ({ dst := some 33, op := Op.move (Operand.tmp 3), type := 3, pos := "ref.go:62", after := #[], guard := none } : Oper)) (v := ?vb2) rfl (by kernel_rfl) (by kernel_rfl) (by kernel_rfl) (fun _ _ _ h => h) (Or.inl ⟨by rfl, ?hb2⟩) (by assumption) ?rb2
                case hb2 => (intro w hSw; (try dsimp only at hSw); go_simp; try (with_reducible rfl))
                try simp only [Act.put, List.setIfInBounds_toArray, List.set_cons_zero, List.set_cons_succ]
                refine wpAnyH_take (i := 3) (oi := ({ dst := some 34, op := Op.indexAddr 22 (Operand.tmp 32) (Operand.tmp 33), type := 0, pos := "ref.go:62", after := #[{ on := 1, ground := Ground.data }, { on := 2, ground := Ground.data }], guard := none } : Oper)) (v := ?vb3) rfl (by kernel_rfl) (by kernel_rfl) (by kernel_rfl) (fun _ _ _ h => h) (Or.inl ⟨by rfl, ?hb3⟩) (by assumption) ?rb3
                case hb3 => (intro w hSw; (try dsimp only at hSw); go_simp; try (with_reducible rfl))
                try simp only [Act.put, List.setIfInBounds_toArray, List.set_cons_zero, List.set_cons_succ]
                refine wpAnyH_take (i := 4) (oi := ({ dst := some 35, op := Op.load 78 (Operand.tmp 34), type := 78, pos := "ref.go:62", after := #[{ on := 3, ground := Ground.data }], guard := none } : Oper)) (v := ?vb4) rfl (by kernel_rfl) (by kernel_rfl) (by kernel_rfl) (fun _ _ _ h => h) (Or.inl ⟨by rfl, ?hb4⟩) (by assumption) ?rb4
                case hb4 => (intro w hSw; (try dsimp only at hSw); go_simp; try (with_reducible rfl))
                try simp only [Act.put, List.setIfInBounds_toArray, List.set_cons_zero, List.set_cons_succ]
                refine wpAnyH_ready (rs := [5]) (by kernel_rfl) (by simp) ?_
                refine AllReadyH.cons (o := ({ dst := some 36, op := Op.call { callee := Callee.value (Operand.func 75), args := #[Operand.tmp 35], argTypes := #[78] }, type := 4, pos := "ref.go:62", after := #[{ on := 4, ground := Ground.data }], guard := none } : Oper)) rfl (fun K hK => ?_) AllReadyH.nil
                go_simp
                refine (rcell_calls Ak Av nk nv ck cv over size _ hnk hnv).mono ?_
                rintro e w2 ⟨rfl, hb2⟩
                rw [hcr]
                go_wp2_with fail
                refine hK.out _ _ (HS.out _ (below_trans' (Below.refl _ _).drew hb2)) (fun hHeld => ?_)
                clear hK K
                try simp only [Act.put, List.setIfInBounds_toArray, List.set_cons_zero, List.set_cons_succ]
                refine wpAnyH_take (i := 6) (oi := ({ dst := some 37, op := Op.unOp UnOp.not 4 (Operand.tmp 36), type := 4, pos := "ref.go:62", after := #[{ on := 5, ground := Ground.data }], guard := none } : Oper)) (v := ?vb6) rfl (by kernel_rfl) (by kernel_rfl) (by kernel_rfl) (fun _ _ _ h => h) (Or.inl ⟨by rfl, ?hb6⟩) (by assumption) ?rb6
                case hb6 => (intro w hSw; (try dsimp only at hSw); go_simp; try (with_reducible rfl))
                try simp only [Act.put, List.setIfInBounds_toArray, List.set_cons_zero, List.set_cons_succ]
                refine wpAnyH_take (i := 7) (oi := ({ dst := some 38, op := Op.move (Operand.tmp 37), type := 4, pos := "ref.go:62", after := #[{ on := 6, ground := Ground.data }, { on := 5, ground := Ground.chain }], guard := none } : Oper)) (v := ?vb7) rfl (by kernel_rfl) (by kernel_rfl) (by kernel_rfl) (fun _ _ _ h => h) (Or.inl ⟨by rfl, ?hb7⟩) (by assumption) ?rb7
                case hb7 => (intro w hSw; (try dsimp only at hSw); go_simp; try (with_reducible rfl))
                try simp only [Act.put, List.setIfInBounds_toArray, List.set_cons_zero, List.set_cons_succ]
                refine wpAnyH_take (i := 8) (oi := ({ dst := some 39, op := Op.move (Operand.tmp 3), type := 3, pos := "ref.go:62", after := #[{ on := 7, ground := Ground.guard }], guard := some (7, false) } : Oper)) (v := ?vb8) rfl (by kernel_rfl) (by kernel_rfl) (by kernel_rfl) (fun _ _ _ h => h) (Or.inl ⟨by rfl, ?hb8⟩) (by assumption) ?rb8
                case hb8 => (intro w hSw; (try dsimp only at hSw); go_simp; try (with_reducible rfl))
                try simp only [Act.put, List.setIfInBounds_toArray, List.set_cons_zero, List.set_cons_succ]
                refine wpAnyH_take (i := 9) (oi := ({ dst := some 40, op := Op.binOp BinOp.gtr 3 (Operand.tmp 39) (Operand.const (Value.int IntKind.i64 0)) 3, type := 4, pos := "ref.go:62", after := #[{ on := 8, ground := Ground.data }, { on := 7, ground := Ground.guard }], guard := some (7, false) } : Oper)) (v := ?vb9) rfl (by kernel_rfl) (by kernel_rfl) (by kernel_rfl) (fun _ _ _ h => h) (Or.inl ⟨by rfl, ?hb9⟩) (by assumption) ?rb9
                case hb9 => (intro w hSw; (try dsimp only at hSw); go_simp; try (with_reducible rfl))
                try simp only [Act.put, List.setIfInBounds_toArray, List.set_cons_zero, List.set_cons_succ]
                refine wpAnyH_take (i := 10) (oi := ({ dst := some 41, op := Op.move (Operand.tmp 40), type := 4, pos := "ref.go:62", after := #[{ on := 9, ground := Ground.data }, { on := 7, ground := Ground.chain }, { on := 7, ground := Ground.guard }], guard := some (7, false) } : Oper)) (v := ?vb10) rfl (by kernel_rfl) (by kernel_rfl) (by kernel_rfl) (fun _ _ _ h => h) (Or.inl ⟨by rfl, ?hb10⟩) (by assumption) ?rb10
                case hb10 => (intro w hSw; (try dsimp only at hSw); go_simp; try (with_reducible rfl))
                try simp only [Act.put, List.setIfInBounds_toArray, List.set_cons_zero, List.set_cons_succ]
                refine wpAnyH_take (i := 11) (oi := ({ dst := some 42, op := Op.fieldAddr 26 (Operand.tmp 1) 1, type := 0, pos := "ref.go:62", after := #[{ on := 10, ground := Ground.guard }], guard := some (10, true) } : Oper)) (v := undef) rfl (by kernel_rfl) (by kernel_rfl) (by kernel_rfl) (fun _ _ _ h => h) (Or.inr ⟨by rfl, rfl⟩) (by assumption) ?_
                try simp only [Act.put, List.setIfInBounds_toArray, List.set_cons_zero, List.set_cons_succ]
                refine wpAnyH_take (i := 12) (oi := ({ dst := some 43, op := Op.load 22 (Operand.tmp 42), type := 22, pos := "ref.go:62", after := #[{ on := 11, ground := Ground.data }, { on := 10, ground := Ground.guard }], guard := some (10, true) } : Oper)) (v := undef) rfl (by kernel_rfl) (by kernel_rfl) (by kernel_rfl) (fun _ _ _ h => h) (Or.inr ⟨by rfl, rfl⟩) (by assumption) ?_
                try simp only [Act.put, List.setIfInBounds_toArray, List.set_cons_zero, List.set_cons_succ]
                refine wpAnyH_take (i := 13) (oi := ({ dst := some 44, op := Op.move (Operand.tmp 3), type := 3, pos := "ref.go:62", after := #[{ on := 10, ground := Ground.guard }], guard := some (10, true) } : Oper)) (v := undef) rfl (by kernel_rfl) (by kernel_rfl) (by kernel_rfl) (fun _ _ _ h => h) (Or.inr ⟨by rfl, rfl⟩) (by assumption) ?_
                try simp only [Act.put, List.setIfInBounds_toArray, List.set_cons_zero, List.set_cons_succ]
                refine wpAnyH_take (i := 14) (oi := ({ dst := some 45, op := Op.indexAddr 22 (Operand.tmp 43) (Operand.tmp 44), type := 0, pos := "ref.go:62", after := #[{ on := 12, ground := Ground.data }, { on := 13, ground := Ground.data }, { on := 10, ground := Ground.guard }], guard := some (10, true) } : Oper)) (v := undef) rfl (by kernel_rfl) (by kernel_rfl) (by kernel_rfl) (fun _ _ _ h => h) (Or.inr ⟨by rfl, rfl⟩) (by assumption) ?_
                try simp only [Act.put, List.setIfInBounds_toArray, List.set_cons_zero, List.set_cons_succ]
                refine wpAnyH_take (i := 15) (oi := ({ dst := some 46, op := Op.fieldAddr 78 (Operand.tmp 45) 0, type := 0, pos := "ref.go:62", after := #[{ on := 14, ground := Ground.data }, { on := 10, ground := Ground.guard }], guard := some (10, true) } : Oper)) (v := undef) rfl (by kernel_rfl) (by kernel_rfl) (by kernel_rfl) (fun _ _ _ h => h) (Or.inr ⟨by rfl, rfl⟩) (by assumption) ?_
                try simp only [Act.put, List.setIfInBounds_toArray, List.set_cons_zero, List.set_cons_succ]
                refine wpAnyH_take (i := 16) (oi := ({ dst := some 47, op := Op.load 31 (Operand.tmp 46), type := 31, pos := "ref.go:62", after := #[{ on := 15, ground := Ground.data }, { on := 10, ground := Ground.guard }], guard := some (10, true) } : Oper)) (v := undef) rfl (by kernel_rfl) (by kernel_rfl) (by kernel_rfl) (fun _ _ _ h => h) (Or.inr ⟨by rfl, rfl⟩) (by assumption) ?_
                try simp only [Act.put, List.setIfInBounds_toArray, List.set_cons_zero, List.set_cons_succ]
                refine wpAnyH_take (i := 17) (oi := ({ dst := some 48, op := Op.convert 31 9 (Operand.tmp 47), type := 9, pos := "ref.go:62", after := #[{ on := 16, ground := Ground.data }, { on := 10, ground := Ground.guard }], guard := some (10, true) } : Oper)) (v := undef) rfl (by kernel_rfl) (by kernel_rfl) (by kernel_rfl) (fun _ _ _ h => h) (Or.inr ⟨by rfl, rfl⟩) (by assumption) ?_
                try simp only [Act.put, List.setIfInBounds_toArray, List.set_cons_zero, List.set_cons_succ]
                refine wpAnyH_take (i := 18) (oi := ({ dst := some 49, op := Op.fieldAddr 26 (Operand.tmp 1) 1, type := 0, pos := "ref.go:62", after := #[{ on := 10, ground := Ground.guard }], guard := some (10, true) } : Oper)) (v := undef) rfl (by kernel_rfl) (by kernel_rfl) (by kernel_rfl) (fun _ _ _ h => h) (Or.inr ⟨by rfl, rfl⟩) (by assumption) ?_
                try simp only [Act.put, List.setIfInBounds_toArray, List.set_cons_zero, List.set_cons_succ]
                refine wpAnyH_take (i := 19) (oi := ({ dst := some 50, op := Op.load 22 (Operand.tmp 49), type := 22, pos := "ref.go:62", after := #[{ on := 18, ground := Ground.data }, { on := 10, ground := Ground.guard }], guard := some (10, true) } : Oper)) (v := undef) rfl (by kernel_rfl) (by kernel_rfl) (by kernel_rfl) (fun _ _ _ h => h) (Or.inr ⟨by rfl, rfl⟩) (by assumption) ?_
                try simp only [Act.put, List.setIfInBounds_toArray, List.set_cons_zero, List.set_cons_succ]
                refine wpAnyH_take (i := 20) (oi := ({ dst := some 51, op := Op.move (Operand.tmp 3), type := 3, pos := "ref.go:62", after := #[{ on := 10, ground := Ground.guard }], guard := some (10, true) } : Oper)) (v := undef) rfl (by kernel_rfl) (by kernel_rfl) (by kernel_rfl) (fun _ _ _ h => h) (Or.inr ⟨by rfl, rfl⟩) (by assumption) ?_
                try simp only [Act.put, List.setIfInBounds_toArray, List.set_cons_zero, List.set_cons_succ]
                refine wpAnyH_take (i := 21) (oi := ({ dst := some 52, op := Op.binOp BinOp.sub 3 (Operand.tmp 51) (Operand.const (Value.int IntKind.i64 1)) 3, type := 3, pos := "ref.go:62", after := #[{ on := 20, ground := Ground.data }, { on := 10, ground := Ground.guard }], guard := some (10, true) } : Oper)) (v := undef) rfl (by kernel_rfl) (by kernel_rfl) (by kernel_rfl) (fun _ _ _ h => h) (Or.inr ⟨by rfl, rfl⟩) (by assumption) ?_
                try simp only [Act.put, List.setIfInBounds_toArray, List.set_cons_zero, List.set_cons_succ]
                refine wpAnyH_take (i := 22) (oi := ({ dst := some 53, op := Op.indexAddr 22 (Operand.tmp 50) (Operand.tmp 52), type := 0, pos := "ref.go:62", after := #[{ on := 19, ground := Ground.data }, { on := 21, ground := Ground.data }, { on := 10, ground := Ground.guard }], guard := some (10, true) } : Oper)) (v := undef) rfl (by kernel_rfl) (by kernel_rfl) (by kernel_rfl) (fun _ _ _ h => h) (Or.inr ⟨by rfl, rfl⟩) (by assumption) ?_
                try simp only [Act.put, List.setIfInBounds_toArray, List.set_cons_zero, List.set_cons_succ]
                refine wpAnyH_take (i := 23) (oi := ({ dst := some 54, op := Op.fieldAddr 78 (Operand.tmp 53) 0, type := 0, pos := "ref.go:62", after := #[{ on := 22, ground := Ground.data }, { on := 10, ground := Ground.guard }], guard := some (10, true) } : Oper)) (v := undef) rfl (by kernel_rfl) (by kernel_rfl) (by kernel_rfl) (fun _ _ _ h => h) (Or.inr ⟨by rfl, rfl⟩) (by assumption) ?_
                try simp only [Act.put, List.setIfInBounds_toArray, List.set_cons_zero, List.set_cons_succ]
                refine wpAnyH_take (i := 24) (oi := ({ dst := some 55, op := Op.load 31 (Operand.tmp 54), type := 31, pos := "ref.go:62", after := #[{ on := 23, ground := Ground.data }, { on := 10, ground := Ground.guard }], guard := some (10, true) } : Oper)) (v := undef) rfl (by kernel_rfl) (by kernel_rfl) (by kernel_rfl) (fun _ _ _ h => h) (Or.inr ⟨by rfl, rfl⟩) (by assumption) ?_
                try simp only [Act.put, List.setIfInBounds_toArray, List.set_cons_zero, List.set_cons_succ]
                refine wpAnyH_take (i := 25) (oi := ({ dst := some 56, op := Op.convert 31 9 (Operand.tmp 55), type := 9, pos := "ref.go:62", after := #[{ on := 24, ground := Ground.data }, { on := 10, ground := Ground.guard }], guard := some (10, true) } : Oper)) (v := undef) rfl (by kernel_rfl) (by kernel_rfl) (by kernel_rfl) (fun _ _ _ h => h) (Or.inr ⟨by rfl, rfl⟩) (by assumption) ?_
                try simp only [Act.put, List.setIfInBounds_toArray, List.set_cons_zero, List.set_cons_succ]
                refine wpAnyH_take (i := 26) (oi := ({ dst := some 57, op := Op.binOp BinOp.leq 9 (Operand.tmp 48) (Operand.tmp 56) 9, type := 4, pos := "ref.go:62", after := #[{ on := 17, ground := Ground.data }, { on := 25, ground := Ground.data }, { on := 10, ground := Ground.guard }], guard := some (10, true) } : Oper)) (v := undef) rfl (by kernel_rfl) (by kernel_rfl) (by kernel_rfl) (fun _ _ _ h => h) (Or.inr ⟨by rfl, rfl⟩) (by assumption) ?_
                try simp only [Act.put, List.setIfInBounds_toArray, List.set_cons_zero, List.set_cons_succ]
                refine wpAnyH_take (i := 27) (oi := ({ dst := some 58, op := Op.pick (Operand.tmp 41) (Operand.tmp 57) (Operand.const (Value.bool false)), type := 4, pos := "ref.go:62", after := #[{ on := 10, ground := Ground.data }, { on := 26, ground := Ground.data }, { on := 7, ground := Ground.guard }], guard := some (7, false) } : Oper)) (v := ?vb27) rfl (by kernel_rfl) (by kernel_rfl) (by kernel_rfl) (fun _ _ _ h => h) (Or.inl ⟨by rfl, ?hb27⟩) (by assumption) ?rb27
                case hb27 => (intro w hSw; (try dsimp only at hSw); go_simp; try (with_reducible rfl))
                try simp only [Act.put, List.setIfInBounds_toArray, List.set_cons_zero, List.set_cons_succ]
                refine wpAnyH_take (i := 28) (oi := ({ dst := some 59, op := Op.pick (Operand.tmp 38) (Operand.const (Value.bool true)) (Operand.tmp 58), type := 4, pos := "ref.go:62", after := #[{ on := 7, ground := Ground.data }, { on := 27, ground := Ground.data }], guard := none } : Oper)) (v := ?vb28) rfl (by kernel_rfl) (by kernel_rfl) (by kernel_rfl) (fun _ _ _ h => h) (Or.inl ⟨by rfl, ?hb28⟩) (by assumption) ?rb28
                case hb28 => (intro w hSw; (try dsimp only at hSw); go_simp; try (with_reducible rfl))
                try simp only [Act.put, List.setIfInBounds_toArray, List.set_cons_zero, List.set_cons_succ]
                refine wpAnyH_done (by kernel_rfl) ?_ _
                have HBR := Asd.mk (HBW.out.trans (hHeld.2.2.2.2.2.mono (by have := HBW.out.size; simpa using this)))
                clear hHeld HS ib0 ib1
                go_wp2
                go_roundw
                case rel => exact ⟨1, by omega, by go_num, HBR.out, ⟨fun j hj => by obtain rfl : j = 0 := (by omega); exact HGN.out⟩⟩
                case measure => simp [intOf]; omega
              · obtain ⟨q, hq⟩ : ∃ q, k = q + 1 := ⟨k - 1, by omega⟩
                have hql : q < x.2.1.length := by omega
                obtain ⟨b', o', Ak2, nk2, ck2, Av2, nv2, cv2, he2, hbl2, r0, _, _, _, ib2, _, _, _, hnk2, _⟩ := cell_at (HNA.out.below hbw).cells q hql
                cases he2
                have HGE : Asd (goodAt x k = !(badPair x.2.1[q].1 x.2.1[k].1)) := Asd.mk (by
                  subst hq
                  simp only [goodAt, getD_of _ _ (q + 1) hkl, HOK.out, hcr, Bool.true_and, Nat.add_sub_cancel, keysOf]
                  rw [getD_of _ _ q (by rw [List.length_map]; exact hql), getD_of _ _ (q + 1) (by rw [List.length_map]; exact hkl)]
                  simp)
                have HQ := Asd.mk hq
                have hkp : 0 < k := by omega
                have hqn : (q : Int) < (n1 : Int) := by omega
                have hq0 : (0 : Int) ≤ (q : Int) := by omega
                have hsub : (k : Int) - 1 = (q : Int) := by omega
                have hwr : IntKind.i64.wrap (q : Int) = (q : Int) := by rw [IntKind.wrap_i64]; omega
                have HIB := Asd.mk ib0
                have HIB2 := Asd.mk ib2
                generalize x.2.1[q].1 = kq at HIB2 HGE
                generalize x.2.1[k].1 = kk at HIB HGE
                have HC1 : Asd (∀ w', Below wr.heap.size wr w' → (convert 31 9 (.slice Ak nk ck)).run Try.prog w' = .ok (.string ⟨kk.toArray⟩) w') := Asd.mk fun w' h => Byt.run_string 31 9 5 Try.underlying31 Try.underlying5 Try.underlying9 ck (HIB.out.below h)
                have HC2 : Asd (∀ w', Below wr.heap.size wr w' → (convert 31 9 (.slice Ak2 nk2 ck2)).run Try.prog w' = .ok (.string ⟨kq.toArray⟩) w') := Asd.mk fun w' h => Byt.run_string 31 9 5 Try.underlying31 Try.underlying5 Try.underlying9 ck2 (HIB2.out.below h)
                have HT1 : Asd ((⟨kk.toArray⟩ : ByteArray).toList = kk) := Asd.mk (by simp [ByteArray.toList_eq])
                have HT2 : Asd ((⟨kq.toArray⟩ : ByteArray).toList = kq) := Asd.mk (by simp [ByteArray.toList_eq])
                generalize (⟨kk.toArray⟩ : ByteArray) = sk at HC1 HT1
                generalize (⟨kq.toArray⟩ : ByteArray) = sq at HC2 HT2
                clear hq hk0 ib0 ib1 ib2
                have HS : Asd (∀ w', Below wr.heap.size wr w' → w'.cell? ⟨w.heap.size, 1, none⟩ = some (.slice (some ⟨b, o, none⟩) n1 c1) ∧ w'.cell? ⟨b, o + k * 4, none⟩ = some (.slice Ak nk ck) ∧ w'.cell? ⟨b, o + k * 4 + 1, none⟩ = some (.slice Av nv cv) ∧ w'.cell? ⟨b, o + k * 4 + 2, none⟩ = some (.int .i64 over) ∧ w'.cell? ⟨b, o + k * 4 + 3, none⟩ = some (.int .i64 size) ∧ w'.cell? ⟨b, o + q * 4, none⟩ = some (.slice Ak2 nk2 ck2) ∧ (convert 31 9 (.slice Ak nk ck)).run Try.prog w' = .ok (.string sk) w' ∧ (convert 31 9 (.slice Ak2 nk2 ck2)).run Try.prog w' = .ok (.string sq) w' ∧ Below wr.heap.size wr w') := Asd.mk fun w' h => ⟨below_cell h (World.block_lt_of_cell? _ _ hp1) hp1, below_cell h hbl q0, below_cell h hbl q1, below_cell h hbl q2, below_cell h hbl q3, below_cell h hbl r0, HC1.out _ h, HC2.out _ h, h⟩
                go_upto_region 7 with fail
                refine wp_region_held_drew (S := fun w' => w'.cell? ⟨w.heap.size, 1, none⟩ = some (.slice (some ⟨b, o, none⟩) n1 c1) ∧ w'.cell? ⟨b, o + k * 4, none⟩ = some (.slice Ak nk ck) ∧ w'.cell? ⟨b, o + k * 4 + 1, none⟩ = some (.slice Av nv cv) ∧ w'.cell? ⟨b, o + k * 4 + 2, none⟩ = some (.int .i64 over) ∧ w'.cell? ⟨b, o + k * 4 + 3, none⟩ = some (.int .i64 size) ∧ w'.cell? ⟨b, o + q * 4, none⟩ = some (.slice Ak2 nk2 ck2) ∧ (convert 31 9 (.slice Ak nk ck)).run Try.prog w' = .ok (.string sk) w' ∧ (convert 31 9 (.slice Ak2 nk2 ck2)).run Try.prog w' = .ok (.string sq) w' ∧ Below wr.heap.size wr w') (by kernel_rfl) (HS.out _ (Below.refl _ _).drew) (fun hHeld => ?_)
                refine wpAnyH_take (i := 0) (oi := ({ dst := some 31, op := Op.fieldAddr 26 (Operand.tmp 1) 1, type := 0, pos := "ref.go:62", after := #[], guard := none } : Oper)) (v := ?vc0) rfl (by kernel_rfl) (by kernel_rfl) (by kernel_rfl) (fun _ _ _ h => h) (Or.inl ⟨by rfl, ?hc0⟩) (by assumption) ?rc0
                case hc0 => (intro w hSw; (try dsimp only at hSw); go_simp; try (with_reducible rfl))
                try simp only [Act.put, List.setIfInBounds_toArray, List.set_cons_zero, List.set_cons_succ]
                refine wpAnyH_take (i := 1) (oi := ({ dst := some 32, op := Op.load 22 (Operand.tmp 31), type := 22, pos := "ref.go:62", after := #[{ on := 0, ground := Ground.data }], guard := none } : Oper)) (v := ?vc1) rfl (by kernel_rfl) (by kernel_rfl) (by kernel_rfl) (fun _ _ _ h => h) (Or.inl ⟨by rfl, ?hc1⟩) (by assumption) ?rc1
                case hc1 => (intro w hSw; (try dsimp only at hSw); go_simp; try (with_reducible rfl))
                try simp only [Act.put, List.setIfInBounds_toArray, List.set_cons_zero, List.set_cons_succ]
                refine wpAnyH_take (i := 2) (oi := ({ dst := some 33, op := Op.move (Operand.tmp 3), type := 3, pos := "ref.go:62", after := #[], guard := none } : Oper)) (v := ?vc2) rfl (by kernel_rfl) (by kernel_rfl) (by kernel_rfl) (fun _ _ _ h => h) (Or.inl ⟨by rfl, ?hc2⟩) (by assumption) ?rc2
                case hc2 => (intro w hSw; (try dsimp only at hSw); go_simp; try (with_reducible rfl))
                try simp only [Act.put, List.setIfInBounds_toArray, List.set_cons_zero, List.set_cons_succ]
                refine wpAnyH_take (i := 3) (oi := ({ dst := some 34, op := Op.indexAddr 22 (Operand.tmp 32) (Operand.tmp 33), type := 0, pos := "ref.go:62", after := #[{ on := 1, ground := Ground.data }, { on := 2, ground := Ground.data }], guard := none } : Oper)) (v := ?vc3) rfl (by kernel_rfl) (by kernel_rfl) (by kernel_rfl) (fun _ _ _ h => h) (Or.inl ⟨by rfl, ?hc3⟩) (by assumption) ?rc3
                case hc3 => (intro w hSw; (try dsimp only at hSw); go_simp; try (with_reducible rfl))
                try simp only [Act.put, List.setIfInBounds_toArray, List.set_cons_zero, List.set_cons_succ]
                refine wpAnyH_take (i := 4) (oi := ({ dst := some 35, op := Op.load 78 (Operand.tmp 34), type := 78, pos := "ref.go:62", after := #[{ on := 3, ground := Ground.data }], guard := none } : Oper)) (v := ?vc4) rfl (by kernel_rfl) (by kernel_rfl) (by kernel_rfl) (fun _ _ _ h => h) (Or.inl ⟨by rfl, ?hc4⟩) (by assumption) ?rc4
                case hc4 => (intro w hSw; (try dsimp only at hSw); go_simp; try (with_reducible rfl))
                try simp only [Act.put, List.setIfInBounds_toArray, List.set_cons_zero, List.set_cons_succ]
                refine wpAnyH_ready (rs := [5]) (by kernel_rfl) (by simp) ?_
                refine AllReadyH.cons (o := ({ dst := some 36, op := Op.call { callee := Callee.value (Operand.func 75), args := #[Operand.tmp 35], argTypes := #[78] }, type := 4, pos := "ref.go:62", after := #[{ on := 4, ground := Ground.data }], guard := none } : Oper)) rfl (fun K hK => ?_) AllReadyH.nil
                go_simp
                refine (rcell_calls Ak Av nk nv ck cv over size _ hnk hnv).mono ?_
                rintro e w2 ⟨rfl, hb2⟩
                rw [hcr]
                go_wp2_with fail
                refine hK.out _ _ (HS.out _ (below_trans' (Below.refl _ _).drew hb2)) (fun hHeld => ?_)
                clear hK K
                try simp only [Act.put, List.setIfInBounds_toArray, List.set_cons_zero, List.set_cons_succ]
                refine wpAnyH_take (i := 6) (oi := ({ dst := some 37, op := Op.unOp UnOp.not 4 (Operand.tmp 36), type := 4, pos := "ref.go:62", after := #[{ on := 5, ground := Ground.data }], guard := none } : Oper)) (v := ?vc6) rfl (by kernel_rfl) (by kernel_rfl) (by kernel_rfl) (fun _ _ _ h => h) (Or.inl ⟨by rfl, ?hc6⟩) (by assumption) ?rc6
                case hc6 => (intro w hSw; (try dsimp only at hSw); go_simp; try (with_reducible rfl))
                try simp only [Act.put, List.setIfInBounds_toArray, List.set_cons_zero, List.set_cons_succ]
                refine wpAnyH_take (i := 7) (oi := ({ dst := some 38, op := Op.move (Operand.tmp 37), type := 4, pos := "ref.go:62", after := #[{ on := 6, ground := Ground.data }, { on := 5, ground := Ground.chain }], guard := none } : Oper)) (v := ?vc7) rfl (by kernel_rfl) (by kernel_rfl) (by kernel_rfl) (fun _ _ _ h => h) (Or.inl ⟨by rfl, ?hc7⟩) (by assumption) ?rc7
                case hc7 => (intro w hSw; (try dsimp only at hSw); go_simp; try (with_reducible rfl))
                try simp only [Act.put, List.setIfInBounds_toArray, List.set_cons_zero, List.set_cons_succ]
                refine wpAnyH_take (i := 8) (oi := ({ dst := some 39, op := Op.move (Operand.tmp 3), type := 3, pos := "ref.go:62", after := #[{ on := 7, ground := Ground.guard }], guard := some (7, false) } : Oper)) (v := ?vc8) rfl (by kernel_rfl) (by kernel_rfl) (by kernel_rfl) (fun _ _ _ h => h) (Or.inl ⟨by rfl, ?hc8⟩) (by assumption) ?rc8
                case hc8 => (intro w hSw; (try dsimp only at hSw); go_simp; try (with_reducible rfl))
                try simp only [Act.put, List.setIfInBounds_toArray, List.set_cons_zero, List.set_cons_succ]
                refine wpAnyH_take (i := 9) (oi := ({ dst := some 40, op := Op.binOp BinOp.gtr 3 (Operand.tmp 39) (Operand.const (Value.int IntKind.i64 0)) 3, type := 4, pos := "ref.go:62", after := #[{ on := 8, ground := Ground.data }, { on := 7, ground := Ground.guard }], guard := some (7, false) } : Oper)) (v := ?vc9) rfl (by kernel_rfl) (by kernel_rfl) (by kernel_rfl) (fun _ _ _ h => h) (Or.inl ⟨by rfl, ?hc9⟩) (by assumption) ?rc9
                case hc9 => (intro w hSw; (try dsimp only at hSw); go_simp; try (with_reducible rfl))
                try simp only [Act.put, List.setIfInBounds_toArray, List.set_cons_zero, List.set_cons_succ]
                refine wpAnyH_take (i := 10) (oi := ({ dst := some 41, op := Op.move (Operand.tmp 40), type := 4, pos := "ref.go:62", after := #[{ on := 9, ground := Ground.data }, { on := 7, ground := Ground.chain }, { on := 7, ground := Ground.guard }], guard := some (7, false) } : Oper)) (v := ?vc10) rfl (by kernel_rfl) (by kernel_rfl) (by kernel_rfl) (fun _ _ _ h => h) (Or.inl ⟨by rfl, ?hc10⟩) (by assumption) ?rc10
                case hc10 => (intro w hSw; (try dsimp only at hSw); go_simp; try (with_reducible rfl))
                try simp only [Act.put, List.setIfInBounds_toArray, List.set_cons_zero, List.set_cons_succ]
                refine wpAnyH_take (i := 11) (oi := ({ dst := some 42, op := Op.fieldAddr 26 (Operand.tmp 1) 1, type := 0, pos := "ref.go:62", after := #[{ on := 10, ground := Ground.guard }], guard := some (10, true) } : Oper)) (v := ?vc11) rfl (by kernel_rfl) (by kernel_rfl) (by kernel_rfl) (fun _ _ _ h => h) (Or.inl ⟨by rfl, ?hc11⟩) (by assumption) ?rc11
                case hc11 => (intro w hSw; (try dsimp only at hSw); go_simp; try (with_reducible rfl))
                try simp only [Act.put, List.setIfInBounds_toArray, List.set_cons_zero, List.set_cons_succ]
                refine wpAnyH_take (i := 12) (oi := ({ dst := some 43, op := Op.load 22 (Operand.tmp 42), type := 22, pos := "ref.go:62", after := #[{ on := 11, ground := Ground.data }, { on := 10, ground := Ground.guard }], guard := some (10, true) } : Oper)) (v := ?vc12) rfl (by kernel_rfl) (by kernel_rfl) (by kernel_rfl) (fun _ _ _ h => h) (Or.inl ⟨by rfl, ?hc12⟩) (by assumption) ?rc12
                case hc12 => (intro w hSw; (try dsimp only at hSw); go_simp; try (with_reducible rfl))
                try simp only [Act.put, List.setIfInBounds_toArray, List.set_cons_zero, List.set_cons_succ]
                refine wpAnyH_take (i := 13) (oi := ({ dst := some 44, op := Op.move (Operand.tmp 3), type := 3, pos := "ref.go:62", after := #[{ on := 10, ground := Ground.guard }], guard := some (10, true) } : Oper)) (v := ?vc13) rfl (by kernel_rfl) (by kernel_rfl) (by kernel_rfl) (fun _ _ _ h => h) (Or.inl ⟨by rfl, ?hc13⟩) (by assumption) ?rc13
                case hc13 => (intro w hSw; (try dsimp only at hSw); go_simp; try (with_reducible rfl))
                try simp only [Act.put, List.setIfInBounds_toArray, List.set_cons_zero, List.set_cons_succ]
                refine wpAnyH_take (i := 14) (oi := ({ dst := some 45, op := Op.indexAddr 22 (Operand.tmp 43) (Operand.tmp 44), type := 0, pos := "ref.go:62", after := #[{ on := 12, ground := Ground.data }, { on := 13, ground := Ground.data }, { on := 10, ground := Ground.guard }], guard := some (10, true) } : Oper)) (v := ?vc14) rfl (by kernel_rfl) (by kernel_rfl) (by kernel_rfl) (fun _ _ _ h => h) (Or.inl ⟨by rfl, ?hc14⟩) (by assumption) ?rc14
                case hc14 => (intro w hSw; (try dsimp only at hSw); go_simp; try (with_reducible rfl))
                try simp only [Act.put, List.setIfInBounds_toArray, List.set_cons_zero, List.set_cons_succ]
                refine wpAnyH_take (i := 15) (oi := ({ dst := some 46, op := Op.fieldAddr 78 (Operand.tmp 45) 0, type := 0, pos := "ref.go:62", after := #[{ on := 14, ground := Ground.data }, { on := 10, ground := Ground.guard }], guard := some (10, true) } : Oper)) (v := ?vc15) rfl (by kernel_rfl) (by kernel_rfl) (by kernel_rfl) (fun _ _ _ h => h) (Or.inl ⟨by rfl, ?hc15⟩) (by assumption) ?rc15
                case hc15 => (intro w hSw; (try dsimp only at hSw); go_simp; try (with_reducible rfl))
                try simp only [Act.put, List.setIfInBounds_toArray, List.set_cons_zero, List.set_cons_succ]
                refine wpAnyH_take (i := 16) (oi := ({ dst := some 47, op := Op.load 31 (Operand.tmp 46), type := 31, pos := "ref.go:62", after := #[{ on := 15, ground := Ground.data }, { on := 10, ground := Ground.guard }], guard := some (10, true) } : Oper)) (v := ?vc16) rfl (by kernel_rfl) (by kernel_rfl) (by kernel_rfl) (fun _ _ _ h => h) (Or.inl ⟨by rfl, ?hc16⟩) (by assumption) ?rc16
                case hc16 => (intro w hSw; (try dsimp only at hSw); go_simp; try (with_reducible rfl))
                try simp only [Act.put, List.setIfInBounds_toArray, List.set_cons_zero, List.set_cons_succ]
                refine wpAnyH_take (i := 17) (oi := ({ dst := some 48, op := Op.convert 31 9 (Operand.tmp 47), type := 9, pos := "ref.go:62", after := #[{ on := 16, ground := Ground.data }, { on := 10, ground := Ground.guard }], guard := some (10, true) } : Oper)) (v := ?vc17) rfl (by kernel_rfl) (by kernel_rfl) (by kernel_rfl) (fun _ _ _ h => h) (Or.inl ⟨by rfl, ?hc17⟩) (by assumption) ?rc17
                case hc17 => (intro w hSw; (try dsimp only at hSw); go_simp; try (with_reducible rfl))
                try simp only [Act.put, List.setIfInBounds_toArray, List.set_cons_zero, List.set_cons_succ]
                refine wpAnyH_take (i := 18) (oi := ({ dst := some 49, op := Op.fieldAddr 26 (Operand.tmp 1) 1, type := 0, pos := "ref.go:62", after := #[{ on := 10, ground := Ground.guard }], guard := some (10, true) } : Oper)) (v := ?vc18) rfl (by kernel_rfl) (by kernel_rfl) (by kernel_rfl) (fun _ _ _ h => h) (Or.inl ⟨by rfl, ?hc18⟩) (by assumption) ?rc18
                case hc18 => (intro w hSw; (try dsimp only at hSw); go_simp; try (with_reducible rfl))
                try simp only [Act.put, List.setIfInBounds_toArray, List.set_cons_zero, List.set_cons_succ]
                refine wpAnyH_take (i := 19) (oi := ({ dst := some 50, op := Op.load 22 (Operand.tmp 49), type := 22, pos := "ref.go:62", after := #[{ on := 18, ground := Ground.data }, { on := 10, ground := Ground.guard }], guard := some (10, true) } : Oper)) (v := ?vc19) rfl (by kernel_rfl) (by kernel_rfl) (by kernel_rfl) (fun _ _ _ h => h) (Or.inl ⟨by rfl, ?hc19⟩) (by assumption) ?rc19
                case hc19 => (intro w hSw; (try dsimp only at hSw); go_simp; try (with_reducible rfl))
                try simp only [Act.put, List.setIfInBounds_toArray, List.set_cons_zero, List.set_cons_succ]
                refine wpAnyH_take (i := 20) (oi := ({ dst := some 51, op := Op.move (Operand.tmp 3), type := 3, pos := "ref.go:62", after := #[{ on := 10, ground := Ground.guard }], guard := some (10, true) } : Oper)) (v := ?vc20) rfl (by kernel_rfl) (by kernel_rfl) (by kernel_rfl) (fun _ _ _ h => h) (Or.inl ⟨by rfl, ?hc20⟩) (by assumption) ?rc20
                case hc20 => (intro w hSw; (try dsimp only at hSw); go_simp; try (with_reducible rfl))
                try simp only [Act.put, List.setIfInBounds_toArray, List.set_cons_zero, List.set_cons_succ]
                refine wpAnyH_take (i := 21) (oi := ({ dst := some 52, op := Op.binOp BinOp.sub 3 (Operand.tmp 51) (Operand.const (Value.int IntKind.i64 1)) 3, type := 3, pos := "ref.go:62", after := #[{ on := 20, ground := Ground.data }, { on := 10, ground := Ground.guard }], guard := some (10, true) } : Oper)) (v := ?vc21) rfl (by kernel_rfl) (by kernel_rfl) (by kernel_rfl) (fun _ _ _ h => h) (Or.inl ⟨by rfl, ?hc21⟩) (by assumption) ?rc21
                case hc21 => (intro w hSw; (try dsimp only at hSw); go_simp; try (with_reducible rfl))
                try simp only [Act.put, List.setIfInBounds_toArray, List.set_cons_zero, List.set_cons_succ]
                refine wpAnyH_take (i := 22) (oi := ({ dst := some 53, op := Op.indexAddr 22 (Operand.tmp 50) (Operand.tmp 52), type := 0, pos := "ref.go:62", after := #[{ on := 19, ground := Ground.data }, { on := 21, ground := Ground.data }, { on := 10, ground := Ground.guard }], guard := some (10, true) } : Oper)) (v := ?vc22) rfl (by kernel_rfl) (by kernel_rfl) (by kernel_rfl) (fun _ _ _ h => h) (Or.inl ⟨by rfl, ?hc22⟩) (by assumption) ?rc22
                case hc22 => (intro w hSw; (try dsimp only at hSw); go_simp; try (with_reducible rfl))
                try simp only [Act.put, List.setIfInBounds_toArray, List.set_cons_zero, List.set_cons_succ]
                refine wpAnyH_take (i := 23) (oi := ({ dst := some 54, op := Op.fieldAddr 78 (Operand.tmp 53) 0, type := 0, pos := "ref.go:62", after := #[{ on := 22, ground := Ground.data }, { on := 10, ground := Ground.guard }], guard := some (10, true) } : Oper)) (v := ?vc23) rfl (by kernel_rfl) (by kernel_rfl) (by kernel_rfl) (fun _ _ _ h => h) (Or.inl ⟨by rfl, ?hc23⟩) (by assumption) ?rc23
                case hc23 => (intro w hSw; (try dsimp only at hSw); go_simp; try (with_reducible rfl))
                try simp only [Act.put, List.setIfInBounds_toArray, List.set_cons_zero, List.set_cons_succ]
                refine wpAnyH_take (i := 24) (oi := ({ dst := some 55, op := Op.load 31 (Operand.tmp 54), type := 31, pos := "ref.go:62", after := #[{ on := 23, ground := Ground.data }, { on := 10, ground := Ground.guard }], guard := some (10, true) } : Oper)) (v := ?vc24) rfl (by kernel_rfl) (by kernel_rfl) (by kernel_rfl) (fun _ _ _ h => h) (Or.inl ⟨by rfl, ?hc24⟩) (by assumption) ?rc24
                case hc24 => (intro w hSw; (try dsimp only at hSw); go_simp; try (with_reducible rfl))
                try simp only [Act.put, List.setIfInBounds_toArray, List.set_cons_zero, List.set_cons_succ]
                refine wpAnyH_take (i := 25) (oi := ({ dst := some 56, op := Op.convert 31 9 (Operand.tmp 55), type := 9, pos := "ref.go:62", after := #[{ on := 24, ground := Ground.data }, { on := 10, ground := Ground.guard }], guard := some (10, true) } : Oper)) (v := ?vc25) rfl (by kernel_rfl) (by kernel_rfl) (by kernel_rfl) (fun _ _ _ h => h) (Or.inl ⟨by rfl, ?hc25⟩) (by assumption) ?rc25
                case hc25 => (intro w hSw; (try dsimp only at hSw); go_simp; try (with_reducible rfl))
                try simp only [Act.put, List.setIfInBounds_toArray, List.set_cons_zero, List.set_cons_succ]
                refine wpAnyH_take (i := 26) (oi := ({ dst := some 57, op := Op.binOp BinOp.leq 9 (Operand.tmp 48) (Operand.tmp 56) 9, type := 4, pos := "ref.go:62", after := #[{ on := 17, ground := Ground.data }, { on := 25, ground := Ground.data }, { on := 10, ground := Ground.guard }], guard := some (10, true) } : Oper)) (v := ?vc26) rfl (by kernel_rfl) (by kernel_rfl) (by kernel_rfl) (fun _ _ _ h => h) (Or.inl ⟨by rfl, ?hc26⟩) (by assumption) ?rc26
                case hc26 => (intro w hSw; (try dsimp only at hSw); go_simp; try (with_reducible rfl))
                try simp only [Act.put, List.setIfInBounds_toArray, List.set_cons_zero, List.set_cons_succ]
                refine wpAnyH_take (i := 27) (oi := ({ dst := some 58, op := Op.pick (Operand.tmp 41) (Operand.tmp 57) (Operand.const (Value.bool false)), type := 4, pos := "ref.go:62", after := #[{ on := 10, ground := Ground.data }, { on := 26, ground := Ground.data }, { on := 7, ground := Ground.guard }], guard := some (7, false) } : Oper)) (v := ?vc27) rfl (by kernel_rfl) (by kernel_rfl) (by kernel_rfl) (fun _ _ _ h => h) (Or.inl ⟨by rfl, ?hc27⟩) (by assumption) ?rc27
                case hc27 => (intro w hSw; (try dsimp only at hSw); go_simp; try (with_reducible rfl))
                try simp only [Act.put, List.setIfInBounds_toArray, List.set_cons_zero, List.set_cons_succ]
                refine wpAnyH_take (i := 28) (oi := ({ dst := some 59, op := Op.pick (Operand.tmp 38) (Operand.const (Value.bool true)) (Operand.tmp 58), type := 4, pos := "ref.go:62", after := #[{ on := 7, ground := Ground.data }, { on := 27, ground := Ground.data }], guard := none } : Oper)) (v := ?vc28) rfl (by kernel_rfl) (by kernel_rfl) (by kernel_rfl) (fun _ _ _ h => h) (Or.inl ⟨by rfl, ?hc28⟩) (by assumption) ?rc28
                case hc28 => (intro w hSw; (try dsimp only at hSw); go_simp; try (with_reducible rfl))
                try simp only [Act.put, List.setIfInBounds_toArray, List.set_cons_zero, List.set_cons_succ]
                refine wpAnyH_done (by kernel_rfl) ?_ _
                have HBR := Asd.mk hHeld.2.2.2.2.2.2.2.2
                have HBB := Asd.mk (HBW.out.trans (HBR.out.mono (by have := HBW.out.size; simpa using this)))
                have HBT := Asd.mk (hbw.trans (HBR.out.mono hbw.size))
                clear hHeld HS HC1 HC2
                cases hl : Op.bytesLess sk.toList sq.toList with
                | true =>
                  have HBD : Asd (goodAt x k = false) := Asd.mk (by rw [HGE.out, bad_eq, ← HT1.out, ← HT2.out, hl]; rfl)
                  clear HT1 HT2 HGE
                  go_wp2
                  all_goals first
                    | (go_ret; exact ⟨ret_eq (by rw [HI.out, good_not hkl HBD.out]; rfl), HBT.out⟩)
                    | (rename_i hh; exact absurd hh.1 (by decide))
                | false =>
                  cases he : (sk.toList == sq.toList) with
                  | true =>
                    have HBD : Asd (goodAt x k = false) := Asd.mk (by rw [HGE.out, bad_eq, ← HT1.out, ← HT2.out, hl, he]; rfl)
                    clear HT1 HT2 HGE
                    go_wp2
                    go_ret
                    exact ⟨ret_eq (by rw [HI.out, good_not hkl HBD.out]; rfl), HBT.out⟩
                  | false =>
                    have HBD : Asd (goodAt x k = true) := Asd.mk (by rw [HGE.out, bad_eq, ← HT1.out, ← HT2.out, hl, he]; rfl)
                    clear HT1 HT2 HGE
                    go_wp2
                    go_roundw
                    case rel => exact ⟨k + 1, by omega, by go_num, HBB.out, ⟨fun j hj => by
                      by_cases hjk : j < k
                      · exact HG.out j hjk
                      · obtain rfl : j = k := (by omega)
                        exact HBD.out⟩⟩
                    case measure => simp [intOf]; omega
          · have hkn : k = n1 := by omega
            have hgd := good_all (x := x) (fun j hj => HG.out j (by rw [hl1.out] at hj; omega))
            have HF : Asd (leafOk x = true) := Asd.mk (HI.out.trans hgd)
            have HBT : Asd (Below w.heap.size w wr) := Asd.mk ((HB.out _).trans (HBW.out.mono (by simp)))
            clear hgd hkn
            go_wp2
            go_ret
            exact ⟨ret_eq (by rw [HF.out]; rfl), HBT.out⟩
end Go.Proofs.Ytnohhmopiflboaa.Nod
