/- The reference's fields, an inner node; its Check. -/
import Derived.Test.YtnohhmopiflboaaNode9
set_option linter.unusedVariables false
set_option linter.unusedSimpArgs false
namespace Go.Proofs.Ytnohhmopiflboaa.Nod
open Go.RowKit Go.Proofs.Ytnohhmopiflboaa.Base Go.Proofs.Ytnohhmopiflboaa.Byt Go.Proofs.Ytnohhmopiflboaa.Rd

def goodK (x : PNode) (j : Nat) : Bool := keyOk (x.2.2.1.getD j []) && (decide (j = 0) || !badPair (x.2.2.1.getD (j - 1) []) (x.2.2.1.getD j []))
theorem goodK_all {x : PNode} (h : ∀ j, j < x.2.2.1.length → goodK x j = true) : (risingB x.2.2.1 && x.2.2.1.all keyOk) = true := by
  rw [Bool.and_eq_true]
  constructor
  · refine rising_true.2 fun i hi => ?_
    have := h (i + 1) hi
    simp only [goodK, Bool.and_eq_true, Nat.add_sub_cancel] at this
    simpa using this.2
  · rw [List.all_eq_true]
    intro c hc
    obtain ⟨j, hj, rfl⟩ := List.getElem_of_mem hc
    have := h j hj
    simp only [goodK, Bool.and_eq_true, getD_of _ _ j hj] at this
    exact this.1
theorem goodK_not {x : PNode} {j : Nat} (hj : j < x.2.2.1.length) (h : goodK x j = false) : (risingB x.2.2.1 && x.2.2.1.all keyOk) = false := by
  cases hv : (risingB x.2.2.1 && x.2.2.1.all keyOk) with
  | false => rfl
  | true =>
    rw [Bool.and_eq_true, List.all_eq_true] at hv
    have h1 := hv.2 _ (List.getElem_mem hj)
    simp only [goodK, getD_of _ _ j hj, h1, Bool.true_and] at h
    cases j with
    | zero => simp at h
    | succ i =>
      have := rising_true.1 hv.1 i (by simpa using hj)
      rw [getD_of _ _ (i + 1) hj] at this
      simp only [Nat.add_sub_cancel, this] at h
      simp at h

set_option maxRecDepth 100000 in
set_option maxHeartbeats 6400000 in
theorem rfields_inner (v1 v2 v3 : Value) (x : PNode) (w : World) (h : rNode w [.bool false, v1, v2, v3] x) :
    Calls Try.prog 41 #[.agg #[.bool false, v1, v2, v3]] w (Tells w (.bool (innerOk x))) := by
  obtain ⟨A1, n1, c1, A2, n2, c2, A3, n3, c3, hv0, rfl, rfl, rfl, hna⟩ := node_of h
  have HNA := Asd.mk hna
  have hb1 : n1 * 64 ≤ 140737488351232 := hna.b1
  have hb2 : n2 ≤ 140737488351232 := by have := hna.b2; simp only [reachBytes] at this; omega
  have hb3 : n3 ≤ 140737488351232 := by have := hna.b3; simp only [reachBytes] at this; omega
  have hl1 := Asd.mk hna.cells.1
  have hl2 := Asd.mk hna.keys.1
  have hl3 := Asd.mk hna.kids.1
  have HB : Asd (∀ o, Below w.heap.size w (w.alloc o)) := Asd.mk fun o => (Below.refl _ _).alloc (Nat.le_refl _) _
  clear h hna hv0
  by_cases h2 : n2 = 0
  · have HI : Asd (innerOk x = false) := Asd.mk (by simp [innerOk, hl2.out, h2])
    subst h2
    go_enter Try.func41, Try.ntmps41
    go_wp2
    go_ret
    exact ⟨ret_eq (by rw [HI.out]; rfl), HB.out _⟩
  · have t2 : ((n2 : Int) == 0) = false := by simp; omega
    by_cases h1 : 0 < n1
    · have HI : Asd (innerOk x = false) := Asd.mk (by
        have : decide (n1 = 0) = false := by simp; omega
        simp only [innerOk, hl1.out, this]; simp)
      clear h2
      go_enter Try.func41, Try.ntmps41
      go_wp2
      go_ret
      exact ⟨ret_eq (by rw [HI.out]; rfl), HB.out _⟩
    · obtain rfl : n1 = 0 := by omega
      by_cases h3 : n3 = n2 + 1
      · have HI : Asd (innerOk x = ((risingB x.2.2.1 && x.2.2.1.all keyOk) && x.2.2.2.all isPage)) := Asd.mk (by
          have : decide (0 < n2) = true := by simp; omega
          simp only [innerOk, hl1.out, hl2.out, hl3.out, h3, this]; simp)
        subst h3
        have t3 : ((n2 : Int) + 1 != n2 + 1) = false := by simp
        clear h1 h2
        go_enter Try.func41, Try.ntmps41
        go_wp2
        go_loopw [4] (fun i wr => ∃ k : Nat, k ≤ n2 ∧ i = .int .i64 (k : Int) ∧ Below (w.heap.size + 1) (w.alloc (.cells #[.bool false, .slice A1 0 c1, .slice A2 n2 c2, .slice A3 (n2 + 1) c3] 26)) wr ∧ Asd (∀ j, j < k → goodK x j = true)) (fun i _ => n2 - (intOf i).toNat)
        case atStart => exact ⟨0, by omega, rfl, Below.refl _ _, ⟨fun j h => absurd h (by omega)⟩⟩
        case round =>
          obtain ⟨k, hk, rfl, hb, HG⟩ := hrel
          have HBW := Asd.mk hb
          have hp1 : wr.cell? ⟨w.heap.size, 2, none⟩ = some (.slice A2 n2 c2) := below_cell hb (by simp) (by simp)
          have hp3 : wr.cell? ⟨w.heap.size, 3, none⟩ = some (.slice A3 (n2 + 1) c3) := below_cell hb (by simp) (by simp)
          have hbw : Below w.heap.size w wr := (HB.out _).trans (HBW.out.mono (by simp))
          clear hb
          by_cases hlt : k < n2
          · clear hp3
            have hkl : k < x.2.2.1.length := by rw [hl2.out]; exact hlt
            obtain ⟨b, o, Ak, nk, ck, rfl, hbl, q0, ib0, _, hnk⟩ := key_at (HNA.out.below hbw).keys k hkl
            have HOK : Asd (keyOk x.2.2.1[k] = decide (nk ≤ 128)) := Asd.mk (by unfold keyOk; rw [ib0.1])
            by_cases hcr : 128 < nk
            · have HGN : Asd (goodK x k = false) := Asd.mk (by simp only [goodK, getD_of _ _ k hkl, HOK.out]; simp; omega)
              have hcr2 : (128 : Int) < (nk : Int) := by omega
              clear hcr
              have HS : Asd (∀ w', Below wr.heap.size wr w' → w'.cell? ⟨w.heap.size, 2, none⟩ = some (.slice (some ⟨b, o, none⟩) n2 c2) ∧ w'.cell? ⟨b, o + k, none⟩ = some (.slice Ak nk ck) ∧ Below wr.heap.size wr w') := Asd.mk fun w' h => ⟨below_cell h (World.block_lt_of_cell? _ _ hp1) hp1, below_cell h hbl q0, h⟩
              go_upto_region 15 with fail
              refine wp_region_held_drew (S := fun w' => w'.cell? ⟨w.heap.size, 2, none⟩ = some (.slice (some ⟨b, o, none⟩) n2 c2) ∧ w'.cell? ⟨b, o + k, none⟩ = some (.slice Ak nk ck) ∧ Below wr.heap.size wr w') (by kernel_rfl) (HS.out _ (Below.refl _ _).drew) (fun hHeld => ?_)
              refine wpAnyH_take (i := 0) (oi := ({ dst := some 87, op := Op.fieldAddr 26 (Operand.tmp 1) 2, type := 0, pos := "ref.go:72", after := #[], guard := none } : Oper)) (v := ?va0) rfl (by kernel_rfl) (by kernel_rfl) (by kernel_rfl) (fun _ _ _ h => h) (Or.inl ⟨by rfl, ?ha0⟩) (by assumption) ?ra0
              case ha0 => (intro w hSw; (try dsimp only at hSw); go_simp; try (with_reducible rfl))
              try simp only [Act.put, List.setIfInBounds_toArray, List.set_cons_zero, List.set_cons_succ]
              refine wpAnyH_take (i := 1) (oi := ({ dst := some 88, op := Op.load 23 (Operand.tmp 87), type := 23, pos := "ref.go:72", after := #[{ on := 0, ground := Ground.data }], guard := none } : Oper)) (v := ?va1) rfl (by kernel_rfl) (by kernel_rfl) (by kernel_rfl) (fun _ _ _ h => h) (Or.inl ⟨by rfl, ?ha1⟩) (by assumption) ?ra1
              case ha1 => (intro w hSw; (try dsimp only at hSw); go_simp; try (with_reducible rfl))
              try simp only [Act.put, List.setIfInBounds_toArray, List.set_cons_zero, List.set_cons_succ]
              refine wpAnyH_take (i := 2) (oi := ({ dst := some 89, op := Op.move (Operand.tmp 4), type := 3, pos := "ref.go:72", after := #[], guard := none } : Oper)) (v := ?va2) rfl (by kernel_rfl) (by kernel_rfl) (by kernel_rfl) (fun _ _ _ h => h) (Or.inl ⟨by rfl, ?ha2⟩) (by assumption) ?ra2
              case ha2 => (intro w hSw; (try dsimp only at hSw); go_simp; try (with_reducible rfl))
              try simp only [Act.put, List.setIfInBounds_toArray, List.set_cons_zero, List.set_cons_succ]
              refine wpAnyH_take (i := 3) (oi := ({ dst := some 90, op := Op.indexAddr 23 (Operand.tmp 88) (Operand.tmp 89), type := 0, pos := "ref.go:72", after := #[{ on := 1, ground := Ground.data }, { on := 2, ground := Ground.data }], guard := none } : Oper)) (v := ?va3) rfl (by kernel_rfl) (by kernel_rfl) (by kernel_rfl) (fun _ _ _ h => h) (Or.inl ⟨by rfl, ?ha3⟩) (by assumption) ?ra3
              case ha3 => (intro w hSw; (try dsimp only at hSw); go_simp; try (with_reducible rfl))
              try simp only [Act.put, List.setIfInBounds_toArray, List.set_cons_zero, List.set_cons_succ]
              refine wpAnyH_take (i := 4) (oi := ({ dst := some 91, op := Op.load 31 (Operand.tmp 90), type := 31, pos := "ref.go:72", after := #[{ on := 3, ground := Ground.data }], guard := none } : Oper)) (v := ?va4) rfl (by kernel_rfl) (by kernel_rfl) (by kernel_rfl) (fun _ _ _ h => h) (Or.inl ⟨by rfl, ?ha4⟩) (by assumption) ?ra4
              case ha4 => (intro w hSw; (try dsimp only at hSw); go_simp; try (with_reducible rfl))
              try simp only [Act.put, List.setIfInBounds_toArray, List.set_cons_zero, List.set_cons_succ]
              refine wpAnyH_take (i := 5) (oi := ({ dst := some 92, op := Op.call { callee := Callee.builtin Builtin.len, args := #[Operand.tmp 91], argTypes := #[31] }, type := 3, pos := "ref.go:72", after := #[{ on := 4, ground := Ground.data }], guard := none } : Oper)) (v := ?va5) rfl (by kernel_rfl) (by kernel_rfl) (by kernel_rfl) (fun _ _ _ h => h) (Or.inl ⟨by rfl, ?ha5⟩) (by assumption) ?ra5
              case ha5 => (intro w hSw; (try dsimp only at hSw); go_simp; try (with_reducible rfl))
              try simp only [Act.put, List.setIfInBounds_toArray, List.set_cons_zero, List.set_cons_succ]
              refine wpAnyH_take (i := 6) (oi := ({ dst := some 93, op := Op.binOp BinOp.gtr 3 (Operand.tmp 92) (Operand.const (Value.int IntKind.i64 128)) 3, type := 4, pos := "ref.go:72", after := #[{ on := 5, ground := Ground.data }], guard := none } : Oper)) (v := ?va6) rfl (by kernel_rfl) (by kernel_rfl) (by kernel_rfl) (fun _ _ _ h => h) (Or.inl ⟨by rfl, ?ha6⟩) (by assumption) ?ra6
              case ha6 => (intro w hSw; (try dsimp only at hSw); go_simp; try (with_reducible rfl))
              try simp only [Act.put, List.setIfInBounds_toArray, List.set_cons_zero, List.set_cons_succ]
              refine wpAnyH_take (i := 7) (oi := ({ dst := some 94, op := Op.move (Operand.tmp 93), type := 4, pos := "ref.go:72", after := #[{ on := 6, ground := Ground.data }], guard := none } : Oper)) (v := ?va7) rfl (by kernel_rfl) (by kernel_rfl) (by kernel_rfl) (fun _ _ _ h => h) (Or.inl ⟨by rfl, ?ha7⟩) (by assumption) ?ra7
              case ha7 => (intro w hSw; (try dsimp only at hSw); go_simp; try (with_reducible rfl))
              try simp only [Act.put, List.setIfInBounds_toArray, List.set_cons_zero, List.set_cons_succ]
              refine wpAnyH_take (i := 8) (oi := ({ dst := some 95, op := Op.move (Operand.tmp 4), type := 3, pos := "ref.go:72", after := #[{ on := 7, ground := Ground.guard }], guard := some (7, false) } : Oper)) (v := undef) rfl (by kernel_rfl) (by kernel_rfl) (by kernel_rfl) (fun _ _ _ h => h) (Or.inr ⟨by rfl, rfl⟩) (by assumption) ?_
              try simp only [Act.put, List.setIfInBounds_toArray, List.set_cons_zero, List.set_cons_succ]
              refine wpAnyH_take (i := 9) (oi := ({ dst := some 96, op := Op.binOp BinOp.gtr 3 (Operand.tmp 95) (Operand.const (Value.int IntKind.i64 0)) 3, type := 4, pos := "ref.go:72", after := #[{ on := 8, ground := Ground.data }, { on := 7, ground := Ground.guard }], guard := some (7, false) } : Oper)) (v := undef) rfl (by kernel_rfl) (by kernel_rfl) (by kernel_rfl) (fun _ _ _ h => h) (Or.inr ⟨by rfl, rfl⟩) (by assumption) ?_
              try simp only [Act.put, List.setIfInBounds_toArray, List.set_cons_zero, List.set_cons_succ]
              refine wpAnyH_take (i := 10) (oi := ({ dst := some 97, op := Op.move (Operand.tmp 96), type := 4, pos := "ref.go:72", after := #[{ on := 9, ground := Ground.data }, { on := 7, ground := Ground.chain }, { on := 7, ground := Ground.guard }], guard := some (7, false) } : Oper)) (v := undef) rfl (by kernel_rfl) (by kernel_rfl) (by kernel_rfl) (fun _ _ _ h => h) (Or.inr ⟨by rfl, rfl⟩) (by assumption) ?_
              try simp only [Act.put, List.setIfInBounds_toArray, List.set_cons_zero, List.set_cons_succ]
              refine wpAnyH_take (i := 11) (oi := ({ dst := some 98, op := Op.fieldAddr 26 (Operand.tmp 1) 2, type := 0, pos := "ref.go:72", after := #[{ on := 10, ground := Ground.guard }], guard := some (10, true) } : Oper)) (v := undef) rfl (by kernel_rfl) (by kernel_rfl) (by kernel_rfl) (fun _ _ _ h => h) (Or.inr ⟨by rfl, rfl⟩) (by assumption) ?_
              try simp only [Act.put, List.setIfInBounds_toArray, List.set_cons_zero, List.set_cons_succ]
              refine wpAnyH_take (i := 12) (oi := ({ dst := some 99, op := Op.load 23 (Operand.tmp 98), type := 23, pos := "ref.go:72", after := #[{ on := 11, ground := Ground.data }, { on := 10, ground := Ground.guard }], guard := some (10, true) } : Oper)) (v := undef) rfl (by kernel_rfl) (by kernel_rfl) (by kernel_rfl) (fun _ _ _ h => h) (Or.inr ⟨by rfl, rfl⟩) (by assumption) ?_
              try simp only [Act.put, List.setIfInBounds_toArray, List.set_cons_zero, List.set_cons_succ]
              refine wpAnyH_take (i := 13) (oi := ({ dst := some 100, op := Op.move (Operand.tmp 4), type := 3, pos := "ref.go:72", after := #[{ on := 10, ground := Ground.guard }], guard := some (10, true) } : Oper)) (v := undef) rfl (by kernel_rfl) (by kernel_rfl) (by kernel_rfl) (fun _ _ _ h => h) (Or.inr ⟨by rfl, rfl⟩) (by assumption) ?_
              try simp only [Act.put, List.setIfInBounds_toArray, List.set_cons_zero, List.set_cons_succ]
              refine wpAnyH_take (i := 14) (oi := ({ dst := some 101, op := Op.indexAddr 23 (Operand.tmp 99) (Operand.tmp 100), type := 0, pos := "ref.go:72", after := #[{ on := 12, ground := Ground.data }, { on := 13, ground := Ground.data }, { on := 10, ground := Ground.guard }], guard := some (10, true) } : Oper)) (v := undef) rfl (by kernel_rfl) (by kernel_rfl) (by kernel_rfl) (fun _ _ _ h => h) (Or.inr ⟨by rfl, rfl⟩) (by assumption) ?_
              try simp only [Act.put, List.setIfInBounds_toArray, List.set_cons_zero, List.set_cons_succ]
              refine wpAnyH_take (i := 15) (oi := ({ dst := some 102, op := Op.load 31 (Operand.tmp 101), type := 31, pos := "ref.go:72", after := #[{ on := 14, ground := Ground.data }, { on := 10, ground := Ground.guard }], guard := some (10, true) } : Oper)) (v := undef) rfl (by kernel_rfl) (by kernel_rfl) (by kernel_rfl) (fun _ _ _ h => h) (Or.inr ⟨by rfl, rfl⟩) (by assumption) ?_
              try simp only [Act.put, List.setIfInBounds_toArray, List.set_cons_zero, List.set_cons_succ]
              refine wpAnyH_take (i := 16) (oi := ({ dst := some 103, op := Op.convert 31 9 (Operand.tmp 102), type := 9, pos := "ref.go:72", after := #[{ on := 15, ground := Ground.data }, { on := 10, ground := Ground.guard }], guard := some (10, true) } : Oper)) (v := undef) rfl (by kernel_rfl) (by kernel_rfl) (by kernel_rfl) (fun _ _ _ h => h) (Or.inr ⟨by rfl, rfl⟩) (by assumption) ?_
              try simp only [Act.put, List.setIfInBounds_toArray, List.set_cons_zero, List.set_cons_succ]
              refine wpAnyH_take (i := 17) (oi := ({ dst := some 104, op := Op.fieldAddr 26 (Operand.tmp 1) 2, type := 0, pos := "ref.go:72", after := #[{ on := 10, ground := Ground.guard }], guard := some (10, true) } : Oper)) (v := undef) rfl (by kernel_rfl) (by kernel_rfl) (by kernel_rfl) (fun _ _ _ h => h) (Or.inr ⟨by rfl, rfl⟩) (by assumption) ?_
              try simp only [Act.put, List.setIfInBounds_toArray, List.set_cons_zero, List.set_cons_succ]
              refine wpAnyH_take (i := 18) (oi := ({ dst := some 105, op := Op.load 23 (Operand.tmp 104), type := 23, pos := "ref.go:72", after := #[{ on := 17, ground := Ground.data }, { on := 10, ground := Ground.guard }], guard := some (10, true) } : Oper)) (v := undef) rfl (by kernel_rfl) (by kernel_rfl) (by kernel_rfl) (fun _ _ _ h => h) (Or.inr ⟨by rfl, rfl⟩) (by assumption) ?_
              try simp only [Act.put, List.setIfInBounds_toArray, List.set_cons_zero, List.set_cons_succ]
              refine wpAnyH_take (i := 19) (oi := ({ dst := some 106, op := Op.move (Operand.tmp 4), type := 3, pos := "ref.go:72", after := #[{ on := 10, ground := Ground.guard }], guard := some (10, true) } : Oper)) (v := undef) rfl (by kernel_rfl) (by kernel_rfl) (by kernel_rfl) (fun _ _ _ h => h) (Or.inr ⟨by rfl, rfl⟩) (by assumption) ?_
              try simp only [Act.put, List.setIfInBounds_toArray, List.set_cons_zero, List.set_cons_succ]
              refine wpAnyH_take (i := 20) (oi := ({ dst := some 107, op := Op.binOp BinOp.sub 3 (Operand.tmp 106) (Operand.const (Value.int IntKind.i64 1)) 3, type := 3, pos := "ref.go:72", after := #[{ on := 19, ground := Ground.data }, { on := 10, ground := Ground.guard }], guard := some (10, true) } : Oper)) (v := undef) rfl (by kernel_rfl) (by kernel_rfl) (by kernel_rfl) (fun _ _ _ h => h) (Or.inr ⟨by rfl, rfl⟩) (by assumption) ?_
              try simp only [Act.put, List.setIfInBounds_toArray, List.set_cons_zero, List.set_cons_succ]
              refine wpAnyH_take (i := 21) (oi := ({ dst := some 108, op := Op.indexAddr 23 (Operand.tmp 105) (Operand.tmp 107), type := 0, pos := "ref.go:72", after := #[{ on := 18, ground := Ground.data }, { on := 20, ground := Ground.data }, { on := 10, ground := Ground.guard }], guard := some (10, true) } : Oper)) (v := undef) rfl (by kernel_rfl) (by kernel_rfl) (by kernel_rfl) (fun _ _ _ h => h) (Or.inr ⟨by rfl, rfl⟩) (by assumption) ?_
              try simp only [Act.put, List.setIfInBounds_toArray, List.set_cons_zero, List.set_cons_succ]
              refine wpAnyH_take (i := 22) (oi := ({ dst := some 109, op := Op.load 31 (Operand.tmp 108), type := 31, pos := "ref.go:72", after := #[{ on := 21, ground := Ground.data }, { on := 10, ground := Ground.guard }], guard := some (10, true) } : Oper)) (v := undef) rfl (by kernel_rfl) (by kernel_rfl) (by kernel_rfl) (fun _ _ _ h => h) (Or.inr ⟨by rfl, rfl⟩) (by assumption) ?_
              try simp only [Act.put, List.setIfInBounds_toArray, List.set_cons_zero, List.set_cons_succ]
              refine wpAnyH_take (i := 23) (oi := ({ dst := some 110, op := Op.convert 31 9 (Operand.tmp 109), type := 9, pos := "ref.go:72", after := #[{ on := 22, ground := Ground.data }, { on := 10, ground := Ground.guard }], guard := some (10, true) } : Oper)) (v := undef) rfl (by kernel_rfl) (by kernel_rfl) (by kernel_rfl) (fun _ _ _ h => h) (Or.inr ⟨by rfl, rfl⟩) (by assumption) ?_
              try simp only [Act.put, List.setIfInBounds_toArray, List.set_cons_zero, List.set_cons_succ]
              refine wpAnyH_take (i := 24) (oi := ({ dst := some 111, op := Op.binOp BinOp.leq 9 (Operand.tmp 103) (Operand.tmp 110) 9, type := 4, pos := "ref.go:72", after := #[{ on := 16, ground := Ground.data }, { on := 23, ground := Ground.data }, { on := 10, ground := Ground.guard }], guard := some (10, true) } : Oper)) (v := undef) rfl (by kernel_rfl) (by kernel_rfl) (by kernel_rfl) (fun _ _ _ h => h) (Or.inr ⟨by rfl, rfl⟩) (by assumption) ?_
              try simp only [Act.put, List.setIfInBounds_toArray, List.set_cons_zero, List.set_cons_succ]
              refine wpAnyH_take (i := 25) (oi := ({ dst := some 112, op := Op.pick (Operand.tmp 97) (Operand.tmp 111) (Operand.const (Value.bool false)), type := 4, pos := "ref.go:72", after := #[{ on := 10, ground := Ground.data }, { on := 24, ground := Ground.data }, { on := 7, ground := Ground.guard }], guard := some (7, false) } : Oper)) (v := undef) rfl (by kernel_rfl) (by kernel_rfl) (by kernel_rfl) (fun _ _ _ h => h) (Or.inr ⟨by rfl, rfl⟩) (by assumption) ?_
              try simp only [Act.put, List.setIfInBounds_toArray, List.set_cons_zero, List.set_cons_succ]
              refine wpAnyH_take (i := 26) (oi := ({ dst := some 113, op := Op.pick (Operand.tmp 94) (Operand.const (Value.bool true)) (Operand.tmp 112), type := 4, pos := "ref.go:72", after := #[{ on := 7, ground := Ground.data }, { on := 25, ground := Ground.data }], guard := none } : Oper)) (v := ?va26) rfl (by kernel_rfl) (by kernel_rfl) (by kernel_rfl) (fun _ _ _ h => h) (Or.inl ⟨by rfl, ?ha26⟩) (by assumption) ?ra26
              case ha26 => (intro w hSw; (try dsimp only at hSw); go_simp; try (with_reducible rfl))
              try simp only [Act.put, List.setIfInBounds_toArray, List.set_cons_zero, List.set_cons_succ]
              refine wpAnyH_done (by kernel_rfl) ?_ _
              have HBR : Asd (Below wr.heap.size wr wr.drew) := Asd.mk (Below.refl _ _).drew
              have HBB := Asd.mk (HBW.out.trans (HBR.out.mono (by have := HBW.out.size; simpa using this)))
              have HBT := Asd.mk (hbw.trans (HBR.out.mono hbw.size))
              clear hHeld HS ib0
              go_wp2
              go_ret
              exact ⟨ret_eq (by rw [HI.out, goodK_not hkl HGN.out]; rfl), HBT.out⟩
            · have hcr2 : ¬ (128 : Int) < (nk : Int) := by omega
              have hcd : decide ((128 : Int) < (nk : Int)) = false := decide_eq_false hcr2
              by_cases hk0 : k = 0
              · subst hk0
                have HGN : Asd (goodK x 0 = true) := Asd.mk (by simp only [goodK, getD_of _ _ 0 hkl, HOK.out]; simp; omega)
                simp only [Nat.add_zero] at q0
                have HS : Asd (∀ w', Below wr.heap.size wr w' → w'.cell? ⟨w.heap.size, 2, none⟩ = some (.slice (some ⟨b, o, none⟩) n2 c2) ∧ w'.cell? ⟨b, o, none⟩ = some (.slice Ak nk ck) ∧ Below wr.heap.size wr w') := Asd.mk fun w' h => ⟨below_cell h (World.block_lt_of_cell? _ _ hp1) hp1, below_cell h hbl q0, h⟩
                go_upto_region 15 with fail
                refine wp_region_held_drew (S := fun w' => w'.cell? ⟨w.heap.size, 2, none⟩ = some (.slice (some ⟨b, o, none⟩) n2 c2) ∧ w'.cell? ⟨b, o, none⟩ = some (.slice Ak nk ck) ∧ Below wr.heap.size wr w') (by kernel_rfl) (HS.out _ (Below.refl _ _).drew) (fun hHeld => ?_)
                refine wpAnyH_take (i := 0) (oi := ({ dst := some 87, op := Op.fieldAddr 26 (Operand.tmp 1) 2, type := 0, pos := "ref.go:72", after := #[], guard := none } : Oper)) (v := ?vb0) rfl (by kernel_rfl) (by kernel_rfl) (by kernel_rfl) (fun _ _ _ h => h) (Or.inl ⟨by rfl, ?hb0⟩) (by assumption) ?rb0
                case hb0 => (intro w hSw; (try dsimp only at hSw); go_simp; try (with_reducible rfl))
                try simp only [Act.put, List.setIfInBounds_toArray, List.set_cons_zero, List.set_cons_succ]
                refine wpAnyH_take (i := 1) (oi := ({ dst := some 88, op := Op.load 23 (Operand.tmp 87), type := 23, pos := "ref.go:72", after := #[{ on := 0, ground := Ground.data }], guard := none } : Oper)) (v := ?vb1) rfl (by kernel_rfl) (by kernel_rfl) (by kernel_rfl) (fun _ _ _ h => h) (Or.inl ⟨by rfl, ?hb1⟩) (by assumption) ?rb1
                case hb1 => (intro w hSw; (try dsimp only at hSw); go_simp; try (with_reducible rfl))
                try simp only [Act.put, List.setIfInBounds_toArray, List.set_cons_zero, List.set_cons_succ]
                refine wpAnyH_take (i := 2) (oi := ({ dst := some 89, op := Op.move (Operand.tmp 4), type := 3, pos := "ref.go:72", after := #[], guard := none } : Oper)) (v := ?vb2) rfl (by kernel_rfl) (by kernel_rfl) (by kernel_rfl) (fun _ _ _ h => h) (Or.inl ⟨by rfl, ?hb2⟩) (by assumption) ?rb2
                case hb2 => (intro w hSw; (try dsimp only at hSw); go_simp; try (with_reducible rfl))
                try simp only [Act.put, List.setIfInBounds_toArray, List.set_cons_zero, List.set_cons_succ]
                refine wpAnyH_take (i := 3) (oi := ({ dst := some 90, op := Op.indexAddr 23 (Operand.tmp 88) (Operand.tmp 89), type := 0, pos := "ref.go:72", after := #[{ on := 1, ground := Ground.data }, { on := 2, ground := Ground.data }], guard := none } : Oper)) (v := ?vb3) rfl (by kernel_rfl) (by kernel_rfl) (by kernel_rfl) (fun _ _ _ h => h) (Or.inl ⟨by rfl, ?hb3⟩) (by assumption) ?rb3
                case hb3 => (intro w hSw; (try dsimp only at hSw); go_simp; try (with_reducible rfl))
                try simp only [Act.put, List.setIfInBounds_toArray, List.set_cons_zero, List.set_cons_succ]
                refine wpAnyH_take (i := 4) (oi := ({ dst := some 91, op := Op.load 31 (Operand.tmp 90), type := 31, pos := "ref.go:72", after := #[{ on := 3, ground := Ground.data }], guard := none } : Oper)) (v := ?vb4) rfl (by kernel_rfl) (by kernel_rfl) (by kernel_rfl) (fun _ _ _ h => h) (Or.inl ⟨by rfl, ?hb4⟩) (by assumption) ?rb4
                case hb4 => (intro w hSw; (try dsimp only at hSw); go_simp; try (with_reducible rfl))
                try simp only [Act.put, List.setIfInBounds_toArray, List.set_cons_zero, List.set_cons_succ]
                refine wpAnyH_take (i := 5) (oi := ({ dst := some 92, op := Op.call { callee := Callee.builtin Builtin.len, args := #[Operand.tmp 91], argTypes := #[31] }, type := 3, pos := "ref.go:72", after := #[{ on := 4, ground := Ground.data }], guard := none } : Oper)) (v := ?vb5) rfl (by kernel_rfl) (by kernel_rfl) (by kernel_rfl) (fun _ _ _ h => h) (Or.inl ⟨by rfl, ?hb5⟩) (by assumption) ?rb5
                case hb5 => (intro w hSw; (try dsimp only at hSw); go_simp; try (with_reducible rfl))
                try simp only [Act.put, List.setIfInBounds_toArray, List.set_cons_zero, List.set_cons_succ]
                refine wpAnyH_take (i := 6) (oi := ({ dst := some 93, op := Op.binOp BinOp.gtr 3 (Operand.tmp 92) (Operand.const (Value.int IntKind.i64 128)) 3, type := 4, pos := "ref.go:72", after := #[{ on := 5, ground := Ground.data }], guard := none } : Oper)) (v := ?vb6) rfl (by kernel_rfl) (by kernel_rfl) (by kernel_rfl) (fun _ _ _ h => h) (Or.inl ⟨by rfl, ?hb6⟩) (by assumption) ?rb6
                case hb6 => (intro w hSw; (try dsimp only at hSw); go_simp; try (with_reducible rfl))
                try simp only [Act.put, List.setIfInBounds_toArray, List.set_cons_zero, List.set_cons_succ]
                refine wpAnyH_take (i := 7) (oi := ({ dst := some 94, op := Op.move (Operand.tmp 93), type := 4, pos := "ref.go:72", after := #[{ on := 6, ground := Ground.data }], guard := none } : Oper)) (v := ?vb7) rfl (by kernel_rfl) (by kernel_rfl) (by kernel_rfl) (fun _ _ _ h => h) (Or.inl ⟨by rfl, ?hb7⟩) (by assumption) ?rb7
                case hb7 => (intro w hSw; (try dsimp only at hSw); go_simp; try (with_reducible rfl))
                try simp only [Act.put, List.setIfInBounds_toArray, List.set_cons_zero, List.set_cons_succ]
                refine wpAnyH_take (i := 8) (oi := ({ dst := some 95, op := Op.move (Operand.tmp 4), type := 3, pos := "ref.go:72", after := #[{ on := 7, ground := Ground.guard }], guard := some (7, false) } : Oper)) (v := ?vb8) rfl (by kernel_rfl) (by kernel_rfl) (by kernel_rfl) (fun _ _ _ h => h) (Or.inl ⟨by rfl, ?hb8⟩) (by assumption) ?rb8
                case hb8 => (intro w hSw; (try dsimp only at hSw); go_simp; try (with_reducible rfl))
                try simp only [Act.put, List.setIfInBounds_toArray, List.set_cons_zero, List.set_cons_succ]
                refine wpAnyH_take (i := 9) (oi := ({ dst := some 96, op := Op.binOp BinOp.gtr 3 (Operand.tmp 95) (Operand.const (Value.int IntKind.i64 0)) 3, type := 4, pos := "ref.go:72", after := #[{ on := 8, ground := Ground.data }, { on := 7, ground := Ground.guard }], guard := some (7, false) } : Oper)) (v := ?vb9) rfl (by kernel_rfl) (by kernel_rfl) (by kernel_rfl) (fun _ _ _ h => h) (Or.inl ⟨by rfl, ?hb9⟩) (by assumption) ?rb9
                case hb9 => (intro w hSw; (try dsimp only at hSw); go_simp; try (with_reducible rfl))
                try simp only [Act.put, List.setIfInBounds_toArray, List.set_cons_zero, List.set_cons_succ]
                refine wpAnyH_take (i := 10) (oi := ({ dst := some 97, op := Op.move (Operand.tmp 96), type := 4, pos := "ref.go:72", after := #[{ on := 9, ground := Ground.data }, { on := 7, ground := Ground.chain }, { on := 7, ground := Ground.guard }], guard := some (7, false) } : Oper)) (v := ?vb10) rfl (by kernel_rfl) (by kernel_rfl) (by kernel_rfl) (fun _ _ _ h => h) (Or.inl ⟨by rfl, ?hb10⟩) (by assumption) ?rb10
                case hb10 => (intro w hSw; (try dsimp only at hSw); go_simp; try (with_reducible rfl))
                try simp only [Act.put, List.setIfInBounds_toArray, List.set_cons_zero, List.set_cons_succ]
                refine wpAnyH_take (i := 11) (oi := ({ dst := some 98, op := Op.fieldAddr 26 (Operand.tmp 1) 2, type := 0, pos := "ref.go:72", after := #[{ on := 10, ground := Ground.guard }], guard := some (10, true) } : Oper)) (v := undef) rfl (by kernel_rfl) (by kernel_rfl) (by kernel_rfl) (fun _ _ _ h => h) (Or.inr ⟨by rfl, rfl⟩) (by assumption) ?_
                try simp only [Act.put, List.setIfInBounds_toArray, List.set_cons_zero, List.set_cons_succ]
                refine wpAnyH_take (i := 12) (oi := ({ dst := some 99, op := Op.load 23 (Operand.tmp 98), type := 23, pos := "ref.go:72", after := #[{ on := 11, ground := Ground.data }, { on := 10, ground := Ground.guard }], guard := some (10, true) } : Oper)) (v := undef) rfl (by kernel_rfl) (by kernel_rfl) (by kernel_rfl) (fun _ _ _ h => h) (Or.inr ⟨by rfl, rfl⟩) (by assumption) ?_
                try simp only [Act.put, List.setIfInBounds_toArray, List.set_cons_zero, List.set_cons_succ]
                refine wpAnyH_take (i := 13) (oi := ({ dst := some 100, op := Op.move (Operand.tmp 4), type := 3, pos := "ref.go:72", after := #[{ on := 10, ground := Ground.guard }], guard := some (10, true) } : Oper)) (v := undef) rfl (by kernel_rfl) (by kernel_rfl) (by kernel_rfl) (fun _ _ _ h => h) (Or.inr ⟨by rfl, rfl⟩) (by assumption) ?_
                try simp only [Act.put, List.setIfInBounds_toArray, List.set_cons_zero, List.set_cons_succ]
                refine wpAnyH_take (i := 14) (oi := ({ dst := some 101, op := Op.indexAddr 23 (Operand.tmp 99) (Operand.tmp 100), type := 0, pos := "ref.go:72", after := #[{ on := 12, ground := Ground.data }, { on := 13, ground := Ground.data }, { on := 10, ground := Ground.guard }], guard := some (10, true) } : Oper)) (v := undef) rfl (by kernel_rfl) (by kernel_rfl) (by kernel_rfl) (fun _ _ _ h => h) (Or.inr ⟨by rfl, rfl⟩) (by assumption) ?_
                try simp only [Act.put, List.setIfInBounds_toArray, List.set_cons_zero, List.set_cons_succ]
                refine wpAnyH_take (i := 15) (oi := ({ dst := some 102, op := Op.load 31 (Operand.tmp 101), type := 31, pos := "ref.go:72", after := #[{ on := 14, ground := Ground.data }, { on := 10, ground := Ground.guard }], guard := some (10, true) } : Oper)) (v := undef) rfl (by kernel_rfl) (by kernel_rfl) (by kernel_rfl) (fun _ _ _ h => h) (Or.inr ⟨by rfl, rfl⟩) (by assumption) ?_
                try simp only [Act.put, List.setIfInBounds_toArray, List.set_cons_zero, List.set_cons_succ]
                refine wpAnyH_take (i := 16) (oi := ({ dst := some 103, op := Op.convert 31 9 (Operand.tmp 102), type := 9, pos := "ref.go:72", after := #[{ on := 15, ground := Ground.data }, { on := 10, ground := Ground.guard }], guard := some (10, true) } : Oper)) (v := undef) rfl (by kernel_rfl) (by kernel_rfl) (by kernel_rfl) (fun _ _ _ h => h) (Or.inr ⟨by rfl, rfl⟩) (by assumption) ?_
                try simp only [Act.put, List.setIfInBounds_toArray, List.set_cons_zero, List.set_cons_succ]
                refine wpAnyH_take (i := 17) (oi := ({ dst := some 104, op := Op.fieldAddr 26 (Operand.tmp 1) 2, type := 0, pos := "ref.go:72", after := #[{ on := 10, ground := Ground.guard }], guard := some (10, true) } : Oper)) (v := undef) rfl (by kernel_rfl) (by kernel_rfl) (by kernel_rfl) (fun _ _ _ h => h) (Or.inr ⟨by rfl, rfl⟩) (by assumption) ?_
                try simp only [Act.put, List.setIfInBounds_toArray, List.set_cons_zero, List.set_cons_succ]
                refine wpAnyH_take (i := 18) (oi := ({ dst := some 105, op := Op.load 23 (Operand.tmp 104), type := 23, pos := "ref.go:72", after := #[{ on := 17, ground := Ground.data }, { on := 10, ground := Ground.guard }], guard := some (10, true) } : Oper)) (v := undef) rfl (by kernel_rfl) (by kernel_rfl) (by kernel_rfl) (fun _ _ _ h => h) (Or.inr ⟨by rfl, rfl⟩) (by assumption) ?_
                try simp only [Act.put, List.setIfInBounds_toArray, List.set_cons_zero, List.set_cons_succ]
                refine wpAnyH_take (i := 19) (oi := ({ dst := some 106, op := Op.move (Operand.tmp 4), type := 3, pos := "ref.go:72", after := #[{ on := 10, ground := Ground.guard }], guard := some (10, true) } : Oper)) (v := undef) rfl (by kernel_rfl) (by kernel_rfl) (by kernel_rfl) (fun _ _ _ h => h) (Or.inr ⟨by rfl, rfl⟩) (by assumption) ?_
                try simp only [Act.put, List.setIfInBounds_toArray, List.set_cons_zero, List.set_cons_succ]
                refine wpAnyH_take (i := 20) (oi := ({ dst := some 107, op := Op.binOp BinOp.sub 3 (Operand.tmp 106) (Operand.const (Value.int IntKind.i64 1)) 3, type := 3, pos := "ref.go:72", after := #[{ on := 19, ground := Ground.data }, { on := 10, ground := Ground.guard }], guard := some (10, true) } : Oper)) (v := undef) rfl (by kernel_rfl) (by kernel_rfl) (by kernel_rfl) (fun _ _ _ h => h) (Or.inr ⟨by rfl, rfl⟩) (by assumption) ?_
                try simp only [Act.put, List.setIfInBounds_toArray, List.set_cons_zero, List.set_cons_succ]
                refine wpAnyH_take (i := 21) (oi := ({ dst := some 108, op := Op.indexAddr 23 (Operand.tmp 105) (Operand.tmp 107), type := 0, pos := "ref.go:72", after := #[{ on := 18, ground := Ground.data }, { on := 20, ground := Ground.data }, { on := 10, ground := Ground.guard }], guard := some (10, true) } : Oper)) (v := undef) rfl (by kernel_rfl) (by kernel_rfl) (by kernel_rfl) (fun _ _ _ h => h) (Or.inr ⟨by rfl, rfl⟩) (by assumption) ?_
                try simp only [Act.put, List.setIfInBounds_toArray, List.set_cons_zero, List.set_cons_succ]
                refine wpAnyH_take (i := 22) (oi := ({ dst := some 109, op := Op.load 31 (Operand.tmp 108), type := 31, pos := "ref.go:72", after := #[{ on := 21, ground := Ground.data }, { on := 10, ground := Ground.guard }], guard := some (10, true) } : Oper)) (v := undef) rfl (by kernel_rfl) (by kernel_rfl) (by kernel_rfl) (fun _ _ _ h => h) (Or.inr ⟨by rfl, rfl⟩) (by assumption) ?_
                try simp only [Act.put, List.setIfInBounds_toArray, List.set_cons_zero, List.set_cons_succ]
                refine wpAnyH_take (i := 23) (oi := ({ dst := some 110, op := Op.convert 31 9 (Operand.tmp 109), type := 9, pos := "ref.go:72", after := #[{ on := 22, ground := Ground.data }, { on := 10, ground := Ground.guard }], guard := some (10, true) } : Oper)) (v := undef) rfl (by kernel_rfl) (by kernel_rfl) (by kernel_rfl) (fun _ _ _ h => h) (Or.inr ⟨by rfl, rfl⟩) (by assumption) ?_
                try simp only [Act.put, List.setIfInBounds_toArray, List.set_cons_zero, List.set_cons_succ]
                refine wpAnyH_take (i := 24) (oi := ({ dst := some 111, op := Op.binOp BinOp.leq 9 (Operand.tmp 103) (Operand.tmp 110) 9, type := 4, pos := "ref.go:72", after := #[{ on := 16, ground := Ground.data }, { on := 23, ground := Ground.data }, { on := 10, ground := Ground.guard }], guard := some (10, true) } : Oper)) (v := undef) rfl (by kernel_rfl) (by kernel_rfl) (by kernel_rfl) (fun _ _ _ h => h) (Or.inr ⟨by rfl, rfl⟩) (by assumption) ?_
                try simp only [Act.put, List.setIfInBounds_toArray, List.set_cons_zero, List.set_cons_succ]
                refine wpAnyH_take (i := 25) (oi := ({ dst := some 112, op := Op.pick (Operand.tmp 97) (Operand.tmp 111) (Operand.const (Value.bool false)), type := 4, pos := "ref.go:72", after := #[{ on := 10, ground := Ground.data }, { on := 24, ground := Ground.data }, { on := 7, ground := Ground.guard }], guard := some (7, false) } : Oper)) (v := ?vb25) rfl (by kernel_rfl) (by kernel_rfl) (by kernel_rfl) (fun _ _ _ h => h) (Or.inl ⟨by rfl, ?hb25⟩) (by assumption) ?rb25
                case hb25 => (intro w hSw; (try dsimp only at hSw); go_simp; try (with_reducible rfl))
                try simp only [Act.put, List.setIfInBounds_toArray, List.set_cons_zero, List.set_cons_succ]
                refine wpAnyH_take (i := 26) (oi := ({ dst := some 113, op := Op.pick (Operand.tmp 94) (Operand.const (Value.bool true)) (Operand.tmp 112), type := 4, pos := "ref.go:72", after := #[{ on := 7, ground := Ground.data }, { on := 25, ground := Ground.data }], guard := none } : Oper)) (v := ?vb26) rfl (by kernel_rfl) (by kernel_rfl) (by kernel_rfl) (fun _ _ _ h => h) (Or.inl ⟨by rfl, ?hb26⟩) (by assumption) ?rb26
                case hb26 => (intro w hSw; (try dsimp only at hSw); go_simp; try (with_reducible rfl))
                try simp only [Act.put, List.setIfInBounds_toArray, List.set_cons_zero, List.set_cons_succ]
                refine wpAnyH_done (by kernel_rfl) ?_ _
                have HBR : Asd (Below wr.heap.size wr wr.drew) := Asd.mk (Below.refl _ _).drew
                have HBB := Asd.mk (HBW.out.trans (HBR.out.mono (by have := HBW.out.size; simpa using this)))
                have HBT := Asd.mk (hbw.trans (HBR.out.mono hbw.size))
                clear hHeld HS ib0
                go_wp2
                go_roundw
                case rel => exact ⟨1, by omega, by go_num, HBB.out, ⟨fun j hj => by obtain rfl : j = 0 := (by omega); exact HGN.out⟩⟩
                case measure => simp [intOf]; omega
              · obtain ⟨q, hq⟩ : ∃ q, k = q + 1 := ⟨k - 1, by omega⟩
                have hql : q < x.2.2.1.length := by omega
                obtain ⟨b', o', Ak2, nk2, ck2, he2, hbl2, r0, ib2, _, hnk2⟩ := key_at (HNA.out.below hbw).keys q hql
                cases he2
                have HGE : Asd (goodK x k = !(badPair x.2.2.1[q] x.2.2.1[k])) := Asd.mk (by
                  subst hq
                  have hd : decide (nk ≤ 128) = true := by simp; omega
                  simp only [goodK, getD_of _ _ (q + 1) hkl, HOK.out, hd, Bool.true_and, Nat.add_sub_cancel]
                  rw [getD_of _ _ q hql]
                  simp)
                have hkp : 0 < k := by omega
                have hqn : (q : Int) < (n2 : Int) := by omega
                have hq0 : (0 : Int) ≤ (q : Int) := by omega
                have hsub : (k : Int) - 1 = (q : Int) := by omega
                have hwr : IntKind.i64.wrap (q : Int) = (q : Int) := by rw [IntKind.wrap_i64]; omega
                have HIB := Asd.mk ib0
                have HIB2 := Asd.mk ib2
                generalize x.2.2.1[q] = kq at HIB2 HGE
                generalize x.2.2.1[k] = kk at HIB HGE
                have HC1 : Asd (∀ w', Below wr.heap.size wr w' → (convert 31 9 (.slice Ak nk ck)).run Try.prog w' = .ok (.string ⟨kk.toArray⟩) w') := Asd.mk fun w' h => Byt.run_string 31 9 5 Try.underlying31 Try.underlying5 Try.underlying9 ck (HIB.out.below h)
                have HC2 : Asd (∀ w', Below wr.heap.size wr w' → (convert 31 9 (.slice Ak2 nk2 ck2)).run Try.prog w' = .ok (.string ⟨kq.toArray⟩) w') := Asd.mk fun w' h => Byt.run_string 31 9 5 Try.underlying31 Try.underlying5 Try.underlying9 ck2 (HIB2.out.below h)
                have HT1 : Asd ((⟨kk.toArray⟩ : ByteArray).toList = kk) := Asd.mk (by simp [ByteArray.toList_eq])
                have HT2 : Asd ((⟨kq.toArray⟩ : ByteArray).toList = kq) := Asd.mk (by simp [ByteArray.toList_eq])
                generalize (⟨kk.toArray⟩ : ByteArray) = sk at HC1 HT1
                generalize (⟨kq.toArray⟩ : ByteArray) = sq at HC2 HT2
                clear hq hk0 ib0 ib2 hcr
                have HS : Asd (∀ w', Below wr.heap.size wr w' → w'.cell? ⟨w.heap.size, 2, none⟩ = some (.slice (some ⟨b, o, none⟩) n2 c2) ∧ w'.cell? ⟨b, o + k, none⟩ = some (.slice Ak nk ck) ∧ w'.cell? ⟨b, o + q, none⟩ = some (.slice Ak2 nk2 ck2) ∧ (convert 31 9 (.slice Ak nk ck)).run Try.prog w' = .ok (.string sk) w' ∧ (convert 31 9 (.slice Ak2 nk2 ck2)).run Try.prog w' = .ok (.string sq) w' ∧ Below wr.heap.size wr w') := Asd.mk fun w' h => ⟨below_cell h (World.block_lt_of_cell? _ _ hp1) hp1, below_cell h hbl q0, below_cell h hbl r0, HC1.out _ h, HC2.out _ h, h⟩
                go_upto_region 15 with fail
                refine wp_region_held_drew (S := fun w' => w'.cell? ⟨w.heap.size, 2, none⟩ = some (.slice (some ⟨b, o, none⟩) n2 c2) ∧ w'.cell? ⟨b, o + k, none⟩ = some (.slice Ak nk ck) ∧ w'.cell? ⟨b, o + q, none⟩ = some (.slice Ak2 nk2 ck2) ∧ (convert 31 9 (.slice Ak nk ck)).run Try.prog w' = .ok (.string sk) w' ∧ (convert 31 9 (.slice Ak2 nk2 ck2)).run Try.prog w' = .ok (.string sq) w' ∧ Below wr.heap.size wr w') (by kernel_rfl) (HS.out _ (Below.refl _ _).drew) (fun hHeld => ?_)
                refine wpAnyH_take (i := 0) (oi := ({ dst := some 87, op := Op.fieldAddr 26 (Operand.tmp 1) 2, type := 0, pos := "ref.go:72", after := #[], guard := none } : Oper)) (v := ?vc0) rfl (by kernel_rfl) (by kernel_rfl) (by kernel_rfl) (fun _ _ _ h => h) (Or.inl ⟨by rfl, ?hc0⟩) (by assumption) ?rc0
                case hc0 => (intro w hSw; (try dsimp only at hSw); go_simp; try (with_reducible rfl))
                try simp only [Act.put, List.setIfInBounds_toArray, List.set_cons_zero, List.set_cons_succ]
                refine wpAnyH_take (i := 1) (oi := ({ dst := some 88, op := Op.load 23 (Operand.tmp 87), type := 23, pos := "ref.go:72", after := #[{ on := 0, ground := Ground.data }], guard := none } : Oper)) (v := ?vc1) rfl (by kernel_rfl) (by kernel_rfl) (by kernel_rfl) (fun _ _ _ h => h) (Or.inl ⟨by rfl, ?hc1⟩) (by assumption) ?rc1
                case hc1 => (intro w hSw; (try dsimp only at hSw); go_simp; try (with_reducible rfl))
                try simp only [Act.put, List.setIfInBounds_toArray, List.set_cons_zero, List.set_cons_succ]
                refine wpAnyH_take (i := 2) (oi := ({ dst := some 89, op := Op.move (Operand.tmp 4), type := 3, pos := "ref.go:72", after := #[], guard := none } : Oper)) (v := ?vc2) rfl (by kernel_rfl) (by kernel_rfl) (by kernel_rfl) (fun _ _ _ h => h) (Or.inl ⟨by rfl, ?hc2⟩) (by assumption) ?rc2
                case hc2 => (intro w hSw; (try dsimp only at hSw); go_simp; try (with_reducible rfl))
                try simp only [Act.put, List.setIfInBounds_toArray, List.set_cons_zero, List.set_cons_succ]
                refine wpAnyH_take (i := 3) (oi := ({ dst := some 90, op := Op.indexAddr 23 (Operand.tmp 88) (Operand.tmp 89), type := 0, pos := "ref.go:72", after := #[{ on := 1, ground := Ground.data }, { on := 2, ground := Ground.data }], guard := none } : Oper)) (v := ?vc3) rfl (by kernel_rfl) (by kernel_rfl) (by kernel_rfl) (fun _ _ _ h => h) (Or.inl ⟨by rfl, ?hc3⟩) (by assumption) ?rc3
                case hc3 => (intro w hSw; (try dsimp only at hSw); go_simp; try (with_reducible rfl))
                try simp only [Act.put, List.setIfInBounds_toArray, List.set_cons_zero, List.set_cons_succ]
                refine wpAnyH_take (i := 4) (oi := ({ dst := some 91, op := Op.load 31 (Operand.tmp 90), type := 31, pos := "ref.go:72", after := #[{ on := 3, ground := Ground.data }], guard := none } : Oper)) (v := ?vc4) rfl (by kernel_rfl) (by kernel_rfl) (by kernel_rfl) (fun _ _ _ h => h) (Or.inl ⟨by rfl, ?hc4⟩) (by assumption) ?rc4
                case hc4 => (intro w hSw; (try dsimp only at hSw); go_simp; try (with_reducible rfl))
                try simp only [Act.put, List.setIfInBounds_toArray, List.set_cons_zero, List.set_cons_succ]
                refine wpAnyH_take (i := 5) (oi := ({ dst := some 92, op := Op.call { callee := Callee.builtin Builtin.len, args := #[Operand.tmp 91], argTypes := #[31] }, type := 3, pos := "ref.go:72", after := #[{ on := 4, ground := Ground.data }], guard := none } : Oper)) (v := ?vc5) rfl (by kernel_rfl) (by kernel_rfl) (by kernel_rfl) (fun _ _ _ h => h) (Or.inl ⟨by rfl, ?hc5⟩) (by assumption) ?rc5
                case hc5 => (intro w hSw; (try dsimp only at hSw); go_simp; try (with_reducible rfl))
                try simp only [Act.put, List.setIfInBounds_toArray, List.set_cons_zero, List.set_cons_succ]
                refine wpAnyH_take (i := 6) (oi := ({ dst := some 93, op := Op.binOp BinOp.gtr 3 (Operand.tmp 92) (Operand.const (Value.int IntKind.i64 128)) 3, type := 4, pos := "ref.go:72", after := #[{ on := 5, ground := Ground.data }], guard := none } : Oper)) (v := ?vc6) rfl (by kernel_rfl) (by kernel_rfl) (by kernel_rfl) (fun _ _ _ h => h) (Or.inl ⟨by rfl, ?hc6⟩) (by assumption) ?rc6
                case hc6 => (intro w hSw; (try dsimp only at hSw); go_simp; try (with_reducible rfl))
                try simp only [Act.put, List.setIfInBounds_toArray, List.set_cons_zero, List.set_cons_succ]
                refine wpAnyH_take (i := 7) (oi := ({ dst := some 94, op := Op.move (Operand.tmp 93), type := 4, pos := "ref.go:72", after := #[{ on := 6, ground := Ground.data }], guard := none } : Oper)) (v := ?vc7) rfl (by kernel_rfl) (by kernel_rfl) (by kernel_rfl) (fun _ _ _ h => h) (Or.inl ⟨by rfl, ?hc7⟩) (by assumption) ?rc7
                case hc7 => (intro w hSw; (try dsimp only at hSw); go_simp; try (with_reducible rfl))
                try simp only [Act.put, List.setIfInBounds_toArray, List.set_cons_zero, List.set_cons_succ]
                refine wpAnyH_take (i := 8) (oi := ({ dst := some 95, op := Op.move (Operand.tmp 4), type := 3, pos := "ref.go:72", after := #[{ on := 7, ground := Ground.guard }], guard := some (7, false) } : Oper)) (v := ?vc8) rfl (by kernel_rfl) (by kernel_rfl) (by kernel_rfl) (fun _ _ _ h => h) (Or.inl ⟨by rfl, ?hc8⟩) (by assumption) ?rc8
                case hc8 => (intro w hSw; (try dsimp only at hSw); go_simp; try (with_reducible rfl))
                try simp only [Act.put, List.setIfInBounds_toArray, List.set_cons_zero, List.set_cons_succ]
                refine wpAnyH_take (i := 9) (oi := ({ dst := some 96, op := Op.binOp BinOp.gtr 3 (Operand.tmp 95) (Operand.const (Value.int IntKind.i64 0)) 3, type := 4, pos := "ref.go:72", after := #[{ on := 8, ground := Ground.data }, { on := 7, ground := Ground.guard }], guard := some (7, false) } : Oper)) (v := ?vc9) rfl (by kernel_rfl) (by kernel_rfl) (by kernel_rfl) (fun _ _ _ h => h) (Or.inl ⟨by rfl, ?hc9⟩) (by assumption) ?rc9
                case hc9 => (intro w hSw; (try dsimp only at hSw); go_simp; try (with_reducible rfl))
                try simp only [Act.put, List.setIfInBounds_toArray, List.set_cons_zero, List.set_cons_succ]
                refine wpAnyH_take (i := 10) (oi := ({ dst := some 97, op := Op.move (Operand.tmp 96), type := 4, pos := "ref.go:72", after := #[{ on := 9, ground := Ground.data }, { on := 7, ground := Ground.chain }, { on := 7, ground := Ground.guard }], guard := some (7, false) } : Oper)) (v := ?vc10) rfl (by kernel_rfl) (by kernel_rfl) (by kernel_rfl) (fun _ _ _ h => h) (Or.inl ⟨by rfl, ?hc10⟩) (by assumption) ?rc10
                case hc10 => (intro w hSw; (try dsimp only at hSw); go_simp; try (with_reducible rfl))
                try simp only [Act.put, List.setIfInBounds_toArray, List.set_cons_zero, List.set_cons_succ]
                refine wpAnyH_take (i := 11) (oi := ({ dst := some 98, op := Op.fieldAddr 26 (Operand.tmp 1) 2, type := 0, pos := "ref.go:72", after := #[{ on := 10, ground := Ground.guard }], guard := some (10, true) } : Oper)) (v := ?vc11) rfl (by kernel_rfl) (by kernel_rfl) (by kernel_rfl) (fun _ _ _ h => h) (Or.inl ⟨by rfl, ?hc11⟩) (by assumption) ?rc11
                case hc11 => (intro w hSw; (try dsimp only at hSw); go_simp; try (with_reducible rfl))
                try simp only [Act.put, List.setIfInBounds_toArray, List.set_cons_zero, List.set_cons_succ]
                refine wpAnyH_take (i := 12) (oi := ({ dst := some 99, op := Op.load 23 (Operand.tmp 98), type := 23, pos := "ref.go:72", after := #[{ on := 11, ground := Ground.data }, { on := 10, ground := Ground.guard }], guard := some (10, true) } : Oper)) (v := ?vc12) rfl (by kernel_rfl) (by kernel_rfl) (by kernel_rfl) (fun _ _ _ h => h) (Or.inl ⟨by rfl, ?hc12⟩) (by assumption) ?rc12
                case hc12 => (intro w hSw; (try dsimp only at hSw); go_simp; try (with_reducible rfl))
                try simp only [Act.put, List.setIfInBounds_toArray, List.set_cons_zero, List.set_cons_succ]
                refine wpAnyH_take (i := 13) (oi := ({ dst := some 100, op := Op.move (Operand.tmp 4), type := 3, pos := "ref.go:72", after := #[{ on := 10, ground := Ground.guard }], guard := some (10, true) } : Oper)) (v := ?vc13) rfl (by kernel_rfl) (by kernel_rfl) (by kernel_rfl) (fun _ _ _ h => h) (Or.inl ⟨by rfl, ?hc13⟩) (by assumption) ?rc13
                case hc13 => (intro w hSw; (try dsimp only at hSw); go_simp; try (with_reducible rfl))
                try simp only [Act.put, List.setIfInBounds_toArray, List.set_cons_zero, List.set_cons_succ]
                refine wpAnyH_take (i := 14) (oi := ({ dst := some 101, op := Op.indexAddr 23 (Operand.tmp 99) (Operand.tmp 100), type := 0, pos := "ref.go:72", after := #[{ on := 12, ground := Ground.data }, { on := 13, ground := Ground.data }, { on := 10, ground := Ground.guard }], guard := some (10, true) } : Oper)) (v := ?vc14) rfl (by kernel_rfl) (by kernel_rfl) (by kernel_rfl) (fun _ _ _ h => h) (Or.inl ⟨by rfl, ?hc14⟩) (by assumption) ?rc14
                case hc14 => (intro w hSw; (try dsimp only at hSw); go_simp; try (with_reducible rfl))
                try simp only [Act.put, List.setIfInBounds_toArray, List.set_cons_zero, List.set_cons_succ]
                refine wpAnyH_take (i := 15) (oi := ({ dst := some 102, op := Op.load 31 (Operand.tmp 101), type := 31, pos := "ref.go:72", after := #[{ on := 14, ground := Ground.data }, { on := 10, ground := Ground.guard }], guard := some (10, true) } : Oper)) (v := ?vc15) rfl (by kernel_rfl) (by kernel_rfl) (by kernel_rfl) (fun _ _ _ h => h) (Or.inl ⟨by rfl, ?hc15⟩) (by assumption) ?rc15
                case hc15 => (intro w hSw; (try dsimp only at hSw); go_simp; try (with_reducible rfl))
                try simp only [Act.put, List.setIfInBounds_toArray, List.set_cons_zero, List.set_cons_succ]
                refine wpAnyH_take (i := 16) (oi := ({ dst := some 103, op := Op.convert 31 9 (Operand.tmp 102), type := 9, pos := "ref.go:72", after := #[{ on := 15, ground := Ground.data }, { on := 10, ground := Ground.guard }], guard := some (10, true) } : Oper)) (v := ?vc16) rfl (by kernel_rfl) (by kernel_rfl) (by kernel_rfl) (fun _ _ _ h => h) (Or.inl ⟨by rfl, ?hc16⟩) (by assumption) ?rc16
                case hc16 => (intro w hSw; (try dsimp only at hSw); go_simp; try (with_reducible rfl))
                try simp only [Act.put, List.setIfInBounds_toArray, List.set_cons_zero, List.set_cons_succ]
                refine wpAnyH_take (i := 17) (oi := ({ dst := some 104, op := Op.fieldAddr 26 (Operand.tmp 1) 2, type := 0, pos := "ref.go:72", after := #[{ on := 10, ground := Ground.guard }], guard := some (10, true) } : Oper)) (v := ?vc17) rfl (by kernel_rfl) (by kernel_rfl) (by kernel_rfl) (fun _ _ _ h => h) (Or.inl ⟨by rfl, ?hc17⟩) (by assumption) ?rc17
                case hc17 => (intro w hSw; (try dsimp only at hSw); go_simp; try (with_reducible rfl))
                try simp only [Act.put, List.setIfInBounds_toArray, List.set_cons_zero, List.set_cons_succ]
                refine wpAnyH_take (i := 18) (oi := ({ dst := some 105, op := Op.load 23 (Operand.tmp 104), type := 23, pos := "ref.go:72", after := #[{ on := 17, ground := Ground.data }, { on := 10, ground := Ground.guard }], guard := some (10, true) } : Oper)) (v := ?vc18) rfl (by kernel_rfl) (by kernel_rfl) (by kernel_rfl) (fun _ _ _ h => h) (Or.inl ⟨by rfl, ?hc18⟩) (by assumption) ?rc18
                case hc18 => (intro w hSw; (try dsimp only at hSw); go_simp; try (with_reducible rfl))
                try simp only [Act.put, List.setIfInBounds_toArray, List.set_cons_zero, List.set_cons_succ]
                refine wpAnyH_take (i := 19) (oi := ({ dst := some 106, op := Op.move (Operand.tmp 4), type := 3, pos := "ref.go:72", after := #[{ on := 10, ground := Ground.guard }], guard := some (10, true) } : Oper)) (v := ?vc19) rfl (by kernel_rfl) (by kernel_rfl) (by kernel_rfl) (fun _ _ _ h => h) (Or.inl ⟨by rfl, ?hc19⟩) (by assumption) ?rc19
                case hc19 => (intro w hSw; (try dsimp only at hSw); go_simp; try (with_reducible rfl))
                try simp only [Act.put, List.setIfInBounds_toArray, List.set_cons_zero, List.set_cons_succ]
                refine wpAnyH_take (i := 20) (oi := ({ dst := some 107, op := Op.binOp BinOp.sub 3 (Operand.tmp 106) (Operand.const (Value.int IntKind.i64 1)) 3, type := 3, pos := "ref.go:72", after := #[{ on := 19, ground := Ground.data }, { on := 10, ground := Ground.guard }], guard := some (10, true) } : Oper)) (v := ?vc20) rfl (by kernel_rfl) (by kernel_rfl) (by kernel_rfl) (fun _ _ _ h => h) (Or.inl ⟨by rfl, ?hc20⟩) (by assumption) ?rc20
                case hc20 => (intro w hSw; (try dsimp only at hSw); go_simp; try (with_reducible rfl))
                try simp only [Act.put, List.setIfInBounds_toArray, List.set_cons_zero, List.set_cons_succ]
                refine wpAnyH_take (i := 21) (oi := ({ dst := some 108, op := Op.indexAddr 23 (Operand.tmp 105) (Operand.tmp 107), type := 0, pos := "ref.go:72", after := #[{ on := 18, ground := Ground.data }, { on := 20, ground := Ground.data }, { on := 10, ground := Ground.guard }], guard := some (10, true) } : Oper)) (v := ?vc21) rfl (by kernel_rfl) (by kernel_rfl) (by kernel_rfl) (fun _ _ _ h => h) (Or.inl ⟨by rfl, ?hc21⟩) (by assumption) ?rc21
                case hc21 => (intro w hSw; (try dsimp only at hSw); go_simp; try (with_reducible rfl))
                try simp only [Act.put, List.setIfInBounds_toArray, List.set_cons_zero, List.set_cons_succ]
                refine wpAnyH_take (i := 22) (oi := ({ dst := some 109, op := Op.load 31 (Operand.tmp 108), type := 31, pos := "ref.go:72", after := #[{ on := 21, ground := Ground.data }, { on := 10, ground := Ground.guard }], guard := some (10, true) } : Oper)) (v := ?vc22) rfl (by kernel_rfl) (by kernel_rfl) (by kernel_rfl) (fun _ _ _ h => h) (Or.inl ⟨by rfl, ?hc22⟩) (by assumption) ?rc22
                case hc22 => (intro w hSw; (try dsimp only at hSw); go_simp; try (with_reducible rfl))
                try simp only [Act.put, List.setIfInBounds_toArray, List.set_cons_zero, List.set_cons_succ]
                refine wpAnyH_take (i := 23) (oi := ({ dst := some 110, op := Op.convert 31 9 (Operand.tmp 109), type := 9, pos := "ref.go:72", after := #[{ on := 22, ground := Ground.data }, { on := 10, ground := Ground.guard }], guard := some (10, true) } : Oper)) (v := ?vc23) rfl (by kernel_rfl) (by kernel_rfl) (by kernel_rfl) (fun _ _ _ h => h) (Or.inl ⟨by rfl, ?hc23⟩) (by assumption) ?rc23
                case hc23 => (intro w hSw; (try dsimp only at hSw); go_simp; try (with_reducible rfl))
                try simp only [Act.put, List.setIfInBounds_toArray, List.set_cons_zero, List.set_cons_succ]
                refine wpAnyH_take (i := 24) (oi := ({ dst := some 111, op := Op.binOp BinOp.leq 9 (Operand.tmp 103) (Operand.tmp 110) 9, type := 4, pos := "ref.go:72", after := #[{ on := 16, ground := Ground.data }, { on := 23, ground := Ground.data }, { on := 10, ground := Ground.guard }], guard := some (10, true) } : Oper)) (v := ?vc24) rfl (by kernel_rfl) (by kernel_rfl) (by kernel_rfl) (fun _ _ _ h => h) (Or.inl ⟨by rfl, ?hc24⟩) (by assumption) ?rc24
                case hc24 => (intro w hSw; (try dsimp only at hSw); go_simp; try (with_reducible rfl))
                try simp only [Act.put, List.setIfInBounds_toArray, List.set_cons_zero, List.set_cons_succ]
                refine wpAnyH_take (i := 25) (oi := ({ dst := some 112, op := Op.pick (Operand.tmp 97) (Operand.tmp 111) (Operand.const (Value.bool false)), type := 4, pos := "ref.go:72", after := #[{ on := 10, ground := Ground.data }, { on := 24, ground := Ground.data }, { on := 7, ground := Ground.guard }], guard := some (7, false) } : Oper)) (v := ?vc25) rfl (by kernel_rfl) (by kernel_rfl) (by kernel_rfl) (fun _ _ _ h => h) (Or.inl ⟨by rfl, ?hc25⟩) (by assumption) ?rc25
                case hc25 => (intro w hSw; (try dsimp only at hSw); go_simp; try (with_reducible rfl))
                try simp only [Act.put, List.setIfInBounds_toArray, List.set_cons_zero, List.set_cons_succ]
                refine wpAnyH_take (i := 26) (oi := ({ dst := some 113, op := Op.pick (Operand.tmp 94) (Operand.const (Value.bool true)) (Operand.tmp 112), type := 4, pos := "ref.go:72", after := #[{ on := 7, ground := Ground.data }, { on := 25, ground := Ground.data }], guard := none } : Oper)) (v := ?vc26) rfl (by kernel_rfl) (by kernel_rfl) (by kernel_rfl) (fun _ _ _ h => h) (Or.inl ⟨by rfl, ?hc26⟩) (by assumption) ?rc26
                case hc26 => (intro w hSw; (try dsimp only at hSw); go_simp; try (with_reducible rfl))
                try simp only [Act.put, List.setIfInBounds_toArray, List.set_cons_zero, List.set_cons_succ]
                refine wpAnyH_done (by kernel_rfl) ?_ _
                have HBR : Asd (Below wr.heap.size wr wr.drew) := Asd.mk (Below.refl _ _).drew
                have HBB := Asd.mk (HBW.out.trans (HBR.out.mono (by have := HBW.out.size; simpa using this)))
                have HBT := Asd.mk (hbw.trans (HBR.out.mono hbw.size))
                clear hHeld HS HC1 HC2
                cases hl : Op.bytesLess sk.toList sq.toList with
                | true =>
                  have HBD : Asd (goodK x k = false) := Asd.mk (by rw [HGE.out, bad_eq, ← HT1.out, ← HT2.out, hl]; rfl)
                  clear HT1 HT2 HGE
                  go_wp2
                  all_goals first
                    | (go_ret; exact ⟨ret_eq (by rw [HI.out, goodK_not hkl HBD.out]; rfl), HBT.out⟩)
                    | (rename_i hh; exact absurd hh.1 (by decide))
                | false =>
                  cases he : (sk.toList == sq.toList) with
                  | true =>
                    have HBD : Asd (goodK x k = false) := Asd.mk (by rw [HGE.out, bad_eq, ← HT1.out, ← HT2.out, hl, he]; rfl)
                    clear HT1 HT2 HGE
                    go_wp2
                    go_ret
                    exact ⟨ret_eq (by rw [HI.out, goodK_not hkl HBD.out]; rfl), HBT.out⟩
                  | false =>
                    have HBD : Asd (goodK x k = true) := Asd.mk (by rw [HGE.out, bad_eq, ← HT1.out, ← HT2.out, hl, he]; rfl)
                    clear HT1 HT2 HGE
                    go_wp2
                    go_roundw
                    case rel => exact ⟨k + 1, by omega, by go_num, HBB.out, ⟨fun j hj => by
                      by_cases hjk : j < k
                      · exact HG.out j hjk
                      · obtain rfl : j = k := (by omega)
                        exact HBD.out⟩⟩
                    case measure => simp [intOf]; omega
          · have hkn : k = n2 := by omega
            have HGD : Asd ((risingB x.2.2.1 && x.2.2.1.all keyOk) = true) := Asd.mk (goodK_all (x := x) (fun j hj => HG.out j (by rw [hl2.out] at hj; omega)))
            subst hkn
            clear HG
            go_wp2
            go_loopw [5] (fun i wz => ∃ k' : Nat, k' ≤ k + 1 ∧ i = .int .i64 (k' : Int) ∧ wz = wr ∧ Asd (∀ j (h : j < x.2.2.2.length), j < k' → isPage x.2.2.2[j] = true)) (fun i _ => k + 1 - (intOf i).toNat)
            case atStart => exact ⟨0, by omega, rfl, by trivial, ⟨fun j _ h => absurd h (by omega)⟩⟩
            case round =>
              obtain ⟨j, hj, rfl, rfl, HG⟩ := hrel
              have HBT := Asd.mk hbw
              clear hb1 hb2
              by_cases hlt2 : j < k + 1
              · have hjl : j < x.2.2.2.length := by rw [hl3.out]; exact hlt2
                obtain ⟨b, o, rfl, hbl, q0, _, _⟩ := kid_at (HNA.out.below hbw).kids j hjl
                cases hpg : isPage x.2.2.2[j] with
                | false =>
                  have HF : Asd (innerOk x = false) := Asd.mk (by
                    have : x.2.2.2.all isPage = false := by rw [List.all_eq_false]; exact ⟨_, List.getElem_mem hjl, by rw [hpg]; simp⟩
                    rw [HI.out, this, Bool.and_false])
                  have HPG := Asd.mk hpg
                  generalize x.2.2.2[j] = pg at q0 HPG
                  clear hpg HG hbw
                  go_wp2_with (go_at_call 51; refine (rpage_calls _ _).mono ?_; rintro e w' ⟨rfl, rfl⟩; rw [HPG.out])
                  go_ret
                  exact ⟨ret_eq (by rw [HF.out]; rfl), HBT.out⟩
                | true =>
                  have HG2 : Asd (∀ i (h : i < x.2.2.2.length), i < j + 1 → isPage x.2.2.2[i] = true) := Asd.mk fun i h hi => by
                    by_cases hij : i < j
                    · exact HG.out i h hij
                    · obtain rfl : i = j := (by omega)
                      exact hpg
                  have HPG := Asd.mk hpg
                  generalize x.2.2.2[j] = pg at q0 HPG
                  clear hpg HG hbw
                  go_wp2_with (go_at_call 51; refine (rpage_calls _ _).mono ?_; rintro e w' ⟨rfl, rfl⟩; rw [HPG.out])
                  go_roundw
                  case rel => exact ⟨j + 1, by omega, by go_num, by trivial, HG2⟩
                  case measure => simp [intOf]; omega
              · have HF : Asd (innerOk x = true) := Asd.mk (by
                  have : x.2.2.2.all isPage = true := by
                    rw [List.all_eq_true]
                    intro c hc
                    obtain ⟨i, hi, rfl⟩ := List.getElem_of_mem hc
                    exact HG.out i hi (by rw [hl3.out] at hi; omega)
                  rw [HI.out, HGD.out, this]; rfl)
                clear HG hbw
                go_wp2
                go_ret
                exact ⟨ret_eq (by rw [HF.out]; rfl), HBT.out⟩
      · have HI : Asd (innerOk x = false) := Asd.mk (by
          have : decide (n3 = n2 + 1) = false := by simp; omega
          simp only [innerOk, hl2.out, hl3.out, this]; simp)
        have t3 : ((n3 : Int) != n2 + 1) = true := by simp; omega
        clear h1 h2 h3
        go_enter Try.func41, Try.ntmps41
        go_wp2
        go_ret
        exact ⟨ret_eq (by rw [HI.out]; rfl), HB.out _⟩

theorem rfields_calls (v0 v1 v2 v3 : Value) (x : PNode) (w : World) (h : rNode w [v0, v1, v2, v3] x) :
    Calls Try.prog 41 #[.agg #[v0, v1, v2, v3]] w (Tells w (.bool (fieldsB x))) := by
  obtain ⟨_, _, _, _, _, _, _, _, _, rfl, _⟩ := node_of h
  obtain ⟨lf, y⟩ := x
  cases lf with
  | true => exact rfields_leaf v1 v2 v3 (true, y) w h
  | false => exact rfields_inner v1 v2 v3 (false, y) w h
end Go.Proofs.Ytnohhmopiflboaa.Nod
