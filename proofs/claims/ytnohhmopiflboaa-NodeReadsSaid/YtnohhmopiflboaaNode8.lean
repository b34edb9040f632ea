/- (Node).fields, an inner node; Check. -/
import Derived.Test.YtnohhmopiflboaaNode7
set_option linter.unusedVariables false
set_option linter.unusedSimpArgs false
namespace Go.Proofs.Ytnohhmopiflboaa.Nod
open Go.RowKit Go.Proofs.Ytnohhmopiflboaa.Base Go.Proofs.Ytnohhmopiflboaa.Byt Go.Proofs.Ytnohhmopiflboaa.Rd

/-- A slice of elements of one cell each, as values. -/
theorem vals_of {α : Type} {r : Rel α} {W : World} {A : Option Addr} {n : Nat} {xs : List α} (h : IsSl r 1 W A n xs) (hn : n ≤ 140737488351232) : ∃ vs, IsVals W A n vs ∧ ∀ j (hj : j < xs.length), r W [vs j] xs[j] := by
  by_cases h0 : 0 < n
  · obtain ⟨b, o, rfl, hlt, hc⟩ := h.2 h0
    refine ⟨fun j => (W.cell? ⟨b, o + j, none⟩).getD undef, ⟨hn, fun _ => ⟨b, o, rfl, fun j hj => ?_⟩⟩, fun j hj => ?_⟩
    · obtain ⟨es, hes, hcell, hr⟩ := hc j (by rw [h.1]; exact hj)
      have := hcell 0 (by omega)
      simp only [Nat.mul_one, Nat.add_zero] at this
      rw [this]
      match es, hes, this with
      | [e], _, this => simp [this]
    · obtain ⟨es, hes, hcell, hr⟩ := hc j hj
      have := hcell 0 (by omega)
      simp only [Nat.mul_one, Nat.add_zero] at this
      simp only [this]
      match es, hes, hr with
      | [e], _, hr => exact hr
  · exact ⟨fun _ => undef, ⟨hn, fun h => absurd h h0⟩, fun j hj => absurd hj (by have := h.1; omega)⟩
theorem anyN_list {α : Type} (xs : List α) (p : α → Bool) (q : Nat → Bool) (n : Nat) (hn : xs.length = n) (h : ∀ j (hj : j < xs.length), q j = !p xs[j]) : anyN n q = !xs.all p := by
  subst hn
  cases hv : xs.all p with
  | true =>
    rw [List.all_eq_true] at hv
    simp only [anyN, Bool.not_true, List.any_eq_false, List.mem_range]
    intro j hj
    rw [h j hj, hv _ (List.getElem_mem hj)]; simp
  | false =>
    rw [List.all_eq_false] at hv
    obtain ⟨x, hx, hpx⟩ := hv
    obtain ⟨j, hj, rfl⟩ := List.getElem_of_mem hx
    simp only [anyN, Bool.not_false, List.any_eq_true, List.mem_range]
    exact ⟨j, hj, by rw [h j hj]; simpa using hpx⟩

theorem long_calls (A : Option Addr) (n c : Nat) (w : World) : Calls Try.prog 71 #[.slice A n c] w fun e w' => e = .returned (.bool (decide (128 < n))) ∧ w = w' := by
  by_cases h : 128 < n
  · go_enter Try.func71, Try.ntmps71
    go_wp2
    go_ret
    exact ⟨ret_eq (by simp; omega), rfl⟩
  · go_enter Try.func71, Try.ntmps71
    go_wp2
    go_ret
    exact ⟨ret_eq (by simp; omega), rfl⟩
theorem odd_calls (n : Int) (w : World) : Calls Try.prog 72 #[.int .i64 n] w fun e w' => e = .returned (.bool (!isPage n)) ∧ w = w' := by
  go_enter Try.func72, Try.ntmps72
  go_wp2_with fail
  refine (page_calls n _).mono ?_
  rintro e w' ⟨rfl, rfl⟩
  cases hp : isPage n with
  | false =>
    have HP := Asd.mk hp
    clear hp
    go_wp2
    go_ret
    exact ⟨ret_eq (by rw [HP.out]; rfl), rfl⟩
  | true =>
    have HP := Asd.mk hp
    clear hp
    go_wp2
    go_ret
    exact ⟨ret_eq (by rw [HP.out]; rfl), rfl⟩

theorem long_any (A : Option Addr) (n c : Nat) (ks : List PB) (w : World) (h : IsSl rB 1 w A n ks) (hn : n ≤ 140737488351232) :
    Calls Try.prog 73 #[.slice A n c, .func (.func 71) #[] #[]] w fun e w' => e = .returned (.bool (!ks.all keyOk)) ∧ w = w' := by
  obtain ⟨vs, hv, hr⟩ := vals_of h hn
  rw [← anyN_list ks keyOk (fun j => if hj : j < ks.length then !keyOk ks[j] else false) n h.1 (fun j hj => by simp [hj])]
  refine contains_bb _ #[] A n c vs _ w hv (enter_of Try.func71 (by rfl) (by rfl)) fun j hj => ?_
  have hjk : j < ks.length := by rw [h.1]; exact hj
  obtain ⟨Ak, nk, ck, hvj, ib, _⟩ := b_of (hr j hjk)
  rw [hvj, dif_pos hjk]
  have : (!keyOk ks[j]) = decide (128 < nk) := by simp only [keyOk, ib.1]; by_cases h : nk ≤ 128 <;> simp [h] <;> omega
  rw [this]
  exact long_calls Ak nk ck w
theorem odd_any (A : Option Addr) (n c : Nat) (ks : List Int) (w : World) (h : IsSl (rInt .i64) 1 w A n ks) (hn : n ≤ 140737488351232) :
    Calls Try.prog 74 #[.slice A n c, .func (.func 72) #[] #[]] w fun e w' => e = .returned (.bool (!ks.all isPage)) ∧ w = w' := by
  obtain ⟨vs, hv, hr⟩ := vals_of h hn
  rw [← anyN_list ks isPage (fun j => if hj : j < ks.length then !isPage ks[j] else false) n h.1 (fun j hj => by simp [hj])]
  refine contains_int _ #[] A n c vs _ w hv (enter_of Try.func72 (by rfl) (by rfl)) fun j hj => ?_
  have hjk : j < ks.length := by rw [h.1]; exact hj
  have hvj := (hr j hjk).1
  simp only [List.cons.injEq, and_true] at hvj
  rw [hvj, dif_pos hjk]
  exact odd_calls _ w

set_option maxRecDepth 100000 in
set_option maxHeartbeats 3200000 in
theorem fields_inner (v1 v2 v3 : Value) (x : PNode) (w : World) (h : rNode w [.bool false, v1, v2, v3] x) :
    Calls Try.prog 40 #[.agg #[.bool false, v1, v2, v3]] w (Tells w (.bool (innerOk x))) := by
  obtain ⟨A1, n1, c1, A2, n2, c2, A3, n3, c3, hv0, rfl, rfl, rfl, hna⟩ := node_of h
  have HNA := Asd.mk hna
  have hb1 : n1 * 64 ≤ 140737488351232 := hna.b1
  have hb2 : n2 ≤ 140737488351232 := by have := hna.b2; simp only [reachBytes] at this; omega
  have hb3 : n3 ≤ 140737488351232 := by have := hna.b3; simp only [reachBytes] at this; omega
  have hl1 := Asd.mk hna.cells.1
  have hl2 := Asd.mk hna.keys.1
  have hl3 := Asd.mk hna.kids.1
  have HB : Asd (∀ o, Below w.heap.size w (w.alloc o)) := Asd.mk fun o => (Below.refl _ _).alloc (Nat.le_refl _) _
  clear h hna hv0
  by_cases h1 : n1 = 0
  · by_cases h2 : 0 < n2
    · by_cases h3 : n3 = n2 + 1
      · have HI : Asd (innerOk x = (risingB x.2.2.1 && x.2.2.1.all keyOk && x.2.2.2.all isPage)) := Asd.mk (by simp [innerOk, hl1.out, hl2.out, hl3.out, h1, h2, h3])
        subst h1 h3
        have t1 : ((n2 : Int) + 1 == n2 + 1) = true := by simp
        go_enter Try.func40, Try.ntmps40
        go_wp2_with fail
        refine (rising_calls A2 n2 c2 x.2.2.1 _ (HNA.out.below (HB.out _)).keys hb2).mono ?_
        rintro e w2 ⟨rfl, nq, hw2⟩
        have HP : Asd (w2.heap[w.heap.size]? = some (.cells #[.bool false, .slice A1 0 c1, .slice A2 n2 c2, .slice A3 (n2 + 1) c3] 29 (0, 0))) := Asd.mk (by rw [hw2]; exact blk_new w _)
        have HB2 : Asd (Below w.heap.size w w2) := Asd.mk (by rw [hw2]; exact below_drewN (HB.out _) nq)
        clear hw2
        have p2 := (blk_cell HP.out 2).trans rfl
        have p3 := (blk_cell HP.out 3).trans rfl
        have hs2 := blk_lt HP.out
        cases hr : risingB x.2.2.1 with
        | false =>
          have HF : Asd (innerOk x = false) := Asd.mk (by rw [HI.out, hr]; rfl)
          clear hr HI
          go_wp2
          go_ret
          exact ⟨ret_eq (by rw [HF.out]; rfl), HB2.out⟩
        | true =>
          have HI2 : Asd (innerOk x = (x.2.2.1.all keyOk && x.2.2.2.all isPage)) := Asd.mk (by rw [HI.out, hr]; rfl)
          clear hr HI
          go_wp2_with fail
          refine (long_any A2 n2 c2 x.2.2.1 _ (HNA.out.below HB2.out).keys hb2).mono ?_
          rintro e w' ⟨rfl, rfl⟩
          cases hr : x.2.2.1.all keyOk with
          | false =>
            have HF : Asd (innerOk x = false) := Asd.mk (by rw [HI2.out, hr]; rfl)
            clear hr HI2
            go_wp2
            go_ret
            exact ⟨ret_eq (by rw [HF.out]; rfl), HB2.out⟩
          | true =>
            have HI3 : Asd (innerOk x = x.2.2.2.all isPage) := Asd.mk (by rw [HI2.out, hr]; rfl)
            clear hr HI2
            go_wp2_with fail
            refine (odd_any A3 (n2 + 1) c3 x.2.2.2 _ (HNA.out.below HB2.out).kids hb3).mono ?_
            rintro e w' ⟨rfl, rfl⟩
            cases hr : x.2.2.2.all isPage with
            | false =>
              have HF : Asd (innerOk x = false) := Asd.mk (by rw [HI3.out, hr])
              clear hr HI3
              go_wp2
              go_ret
              exact ⟨ret_eq (by rw [HF.out]; rfl), HB2.out⟩
            | true =>
              have HF : Asd (innerOk x = true) := Asd.mk (by rw [HI3.out, hr])
              clear hr HI3
              go_wp2
              go_ret
              exact ⟨ret_eq (by rw [HF.out]; rfl), HB2.out⟩
      · have HI : Asd (innerOk x = false) := Asd.mk (by simp [innerOk, hl1.out, hl2.out, hl3.out, h1, h2, h3])
        subst h1
        have t1 : ((n3 : Int) == n2 + 1) = false := by simp; omega
        clear h3
        go_enter Try.func40, Try.ntmps40
        go_wp2
        go_ret
        exact ⟨ret_eq (by rw [HI.out]; rfl), HB.out _⟩
    · have HI : Asd (innerOk x = false) := Asd.mk (by simp only [innerOk, hl2.out, h2]; simp)
      subst h1
      go_enter Try.func40, Try.ntmps40
      go_wp2
      go_ret
      exact ⟨ret_eq (by rw [HI.out]; rfl), HB.out _⟩
  · have HI : Asd (innerOk x = false) := Asd.mk (by simp [innerOk, hl1.out, h1])
    have t1 : ((n1 : Int) == 0) = false := by simp; omega
    clear h1
    go_enter Try.func40, Try.ntmps40
    go_wp2
    go_ret
    exact ⟨ret_eq (by rw [HI.out]; rfl), HB.out _⟩
theorem fields_calls (v0 v1 v2 v3 : Value) (x : PNode) (w : World) (h : rNode w [v0, v1, v2, v3] x) :
    Calls Try.prog 40 #[.agg #[v0, v1, v2, v3]] w (Tells w (.bool (fieldsB x))) := by
  obtain ⟨_, _, _, _, _, _, _, _, _, rfl, _⟩ := node_of h
  obtain ⟨lf, y⟩ := x
  cases lf with
  | true => exact fields_leaf v1 v2 v3 (true, y) w h
  | false => exact fields_inner v1 v2 v3 (false, y) w h

/-- What Check answers. -/
def checkN (x : PNode) : Int := if fieldsB x = false then 3 else if wrap64 (nodeSz x) > 508 then 8 else 0
theorem check_calls (v0 v1 v2 v3 : Value) (x : PNode) (w : World) (h : rNode w [v0, v1, v2, v3] x) :
    Calls Try.prog 16 #[.agg #[v0, v1, v2, v3]] w (Tells w (.int .i64 (checkN x))) := by
  have H := Asd.mk h
  have HL : Asd (∀ o, Below w.heap.size w (w.alloc o)) := Asd.mk fun o => (Below.refl _ _).alloc (Nat.le_refl _) _
  clear h
  go_enter Try.func16, Try.ntmps16
  go_wp2_with fail
  refine (fields_calls v0 v1 v2 v3 x _ (lasts_node _ _ _ _ (HL.out _) H.out)).mono ?_
  rintro e w2 ⟨rfl, hb2⟩
  have HB2 : Asd (Below w.heap.size w w2) := Asd.mk ((HL.out _).trans (hb2.mono (by simp)))
  have HP : Asd (w2.heap[w.heap.size]? = some (.cells #[v0, v1, v2, v3] 29 (0, 0))) := Asd.mk (blk_below hb2 (blk_new w _))
  clear hb2
  have p0 := (blk_cell HP.out 0).trans rfl
  have p1 := (blk_cell HP.out 1).trans rfl
  have p2 := (blk_cell HP.out 2).trans rfl
  have p3 := (blk_cell HP.out 3).trans rfl
  have hs2 := blk_lt HP.out
  cases hf : fieldsB x with
  | false =>
    have HF : Asd (checkN x = 3) := Asd.mk (by simp [checkN, hf])
    clear hf
    go_wp2
    go_ret
    exact ⟨ret_eq (by rw [HF.out]; rfl), HB2.out⟩
  | true =>
    have HF : Asd (checkN x = if wrap64 (nodeSz x) > 508 then 8 else 0) := Asd.mk (by simp [checkN, hf])
    clear hf
    go_wp2_with fail
    refine (size_calls v0 v1 v2 v3 x _ (lasts_node _ _ _ _ HB2.out H.out)).mono ?_
    rintro e w3 ⟨rfl, hb3⟩
    have HB3 : Asd (Below w.heap.size w w3) := Asd.mk (HB2.out.trans (hb3.mono HB2.out.size))
    clear hb3
    generalize wrap64 (nodeSz x) = z at HF
    by_cases hz : z > 508
    · have HG : Asd (checkN x = 8) := Asd.mk (by rw [HF.out, if_pos hz])
      clear HF
      go_wp2
      go_ret
      exact ⟨ret_eq (by rw [HG.out]; rfl), HB3.out⟩
    · have HG : Asd (checkN x = 0) := Asd.mk (by rw [HF.out, if_neg hz])
      clear HF
      go_wp2
      go_ret
      exact ⟨ret_eq (by rw [HG.out]; rfl), HB3.out⟩
end Go.Proofs.Ytnohhmopiflboaa.Nod
