/- Texts put together: Ck8, Ck9, Cka, Ckb, Evb, Evd, Read, Opx, EvC, Lw1, Lw2, Lw3. -/
import Derived.Test.YtbeeaikilcnpgaaGreatDoorQc5
import Derived.Deep.Strs
import Derived.SizedLaws
import Derived.Test.YtbeeaikilcnpgaaGreatDoorRows
set_option linter.unusedVariables false
set_option linter.unusedSimpArgs false
set_option maxHeartbeats 25600000
namespace Go.Proofs.YtbeeaikilcnpgaaGreatDoor.Exp
open Go.RowKit Go.Proofs.YtbeeaikilcnpgaaGreatDoor.Base Go.Proofs.YtbeeaikilcnpgaaGreatDoor.App Go.Proofs.YtbeeaikilcnpgaaGreatDoor.Byt
structure BinW (W : World) (po pa pb : Nat) (op : Int) (a b : Vl) : Prop where
  o : W.heap[po]? = some (.cells #[.int .i64 op] 3 (0, 0))
  a : W.heap[pa]? = some (vK a)
  b : W.heap[pb]? = some (vK b)
theorem BinW.below {W W' : World} {po pa pb : Nat} {op : Int} {a b : Vl} (h : BinW W po pa pb op a b) (hb : Below W.heap.size W W') : BinW W' po pa pb op a b := ⟨blk_below hb h.o, blk_below hb h.a, blk_below hb h.b⟩
theorem drewb {W : World} {g : Nat} {o : Obj} (h : W.heap[g]? = some o) : W.drew.heap[g]? = some o := h
theorem bcat (a b : List UInt8) : (⟨a.toArray⟩ : ByteArray) ++ ⟨b.toArray⟩ = ⟨(a ++ b).toArray⟩ := by
  apply ByteArray.ext
  simp
set_option maxRecDepth 100000 in
theorem bin_L3_a (ka kb : Int) (h1 : (ka == 1) = false) (h0 : (ka == 0) = false) (i j : Int) (s t : List UInt8) (po pa pb : Nat) (w : World) (h : BinW w po pa pb 3 ⟨ka, i, s⟩ ⟨kb, j, t⟩) :
    Calls Tryz.prog 41 #[.pointer (some ⟨po, 0, none⟩), .pointer (some ⟨pa, 0, none⟩), .pointer (some ⟨pb, 0, none⟩)] w (EvR (.error 35) w) := by
  have HW := Asd.mk h
  have HX := Asd.mk (blk_new w zeroV)
  have HB : Asd (Below w.heap.size w (w.alloc zeroV)) := Asd.mk (below_alloc (Below.refl _ _) _)
  clear h
  go_enter Tryz.func41, Tryz.ntmps41
  go_upto_region 1 with fail
  generalize w.alloc _ = w1 at HX HB ⊢
  have HW1 := Asd.mk (HW.out.below HB.out)
  have o0 := (blk_cell HW1.out.o 0).trans rfl
  obtain ⟨a0, a1, a2⟩ := val_cells HW1.out.a
  obtain ⟨b0, b1, b2⟩ := val_cells HW1.out.b
  obtain ⟨⟨x0, x1, x2⟩, y0, y1, y2⟩ := zero_cells HX.out
  simp only at a0 a1 a2 b0 b1 b2
  go_wp2_with fail
  refine (check_ok 5 _).mono ?_
  rintro e w' ⟨rfl, rfl⟩
  go_wp2_with fail
  refine (wants_bool 3 (by decide) _).mono ?_
  rintro e w' ⟨rfl, rfl⟩
  go_wp2_with fail
  refine (check_no 35 _).mono ?_
  rintro e w' ⟨rfl, rfl⟩
  go_wp2
  exact ⟨rfl, HB.out, rfl⟩
set_option maxRecDepth 100000 in
theorem bin_L3_b0 (kb : Int) (h1 : (kb == 1) = false) (h0 : (kb == 0) = false) (i j : Int) (s t : List UInt8) (po pa pb : Nat) (w : World) (h : BinW w po pa pb 3 ⟨0, i, s⟩ ⟨kb, j, t⟩) :
    Calls Tryz.prog 41 #[.pointer (some ⟨po, 0, none⟩), .pointer (some ⟨pa, 0, none⟩), .pointer (some ⟨pb, 0, none⟩)] w (EvR (.error 35) w) := by
  have HW := Asd.mk h
  have HX := Asd.mk (blk_new w zeroV)
  have HB : Asd (Below w.heap.size w (w.alloc zeroV)) := Asd.mk (below_alloc (Below.refl _ _) _)
  clear h
  go_enter Tryz.func41, Tryz.ntmps41
  go_upto_region 1 with fail
  generalize w.alloc _ = w1 at HX HB ⊢
  have HW1 := Asd.mk (HW.out.below HB.out)
  have o0 := (blk_cell HW1.out.o 0).trans rfl
  obtain ⟨a0, a1, a2⟩ := val_cells HW1.out.a
  obtain ⟨b0, b1, b2⟩ := val_cells HW1.out.b
  obtain ⟨⟨x0, x1, x2⟩, y0, y1, y2⟩ := zero_cells HX.out
  simp only at a0 a1 a2 b0 b1 b2
  go_wp2_with fail
  refine (check_ok 5 _).mono ?_
  rintro e w' ⟨rfl, rfl⟩
  go_wp2_with fail
  refine (wants_bool 3 (by decide) _).mono ?_
  rintro e w' ⟨rfl, rfl⟩
  go_wp2_with fail
  refine (check_ok 35 _).mono ?_
  rintro e w' ⟨rfl, rfl⟩
  go_wp2_with fail
  refine (check_no 35 _).mono ?_
  rintro e w' ⟨rfl, rfl⟩
  go_wp2
  exact ⟨rfl, HB.out, rfl⟩
set_option maxRecDepth 100000 in
theorem bin_L3_00 (i j : Int) (s t : List UInt8) (po pa pb : Nat) (w : World) (h : BinW w po pa pb 3 ⟨0, i, s⟩ ⟨0, j, t⟩) :
    Calls Tryz.prog 41 #[.pointer (some ⟨po, 0, none⟩), .pointer (some ⟨pa, 0, none⟩), .pointer (some ⟨pb, 0, none⟩)] w (EvR (.ok (logicP true ⟨0, i, s⟩ ⟨0, j, t⟩)) w) := by
  have HW := Asd.mk h
  have HX := Asd.mk (blk_new w zeroV)
  have HB : Asd (Below w.heap.size w (w.alloc zeroV)) := Asd.mk (below_alloc (Below.refl _ _) _)
  clear h
  go_enter Tryz.func41, Tryz.ntmps41
  go_upto_region 1 with fail
  generalize w.alloc _ = w1 at HX HB ⊢
  have HW1 := Asd.mk (HW.out.below HB.out)
  have o0 := (blk_cell HW1.out.o 0).trans rfl
  obtain ⟨a0, a1, a2⟩ := val_cells HW1.out.a
  obtain ⟨b0, b1, b2⟩ := val_cells HW1.out.b
  obtain ⟨⟨x0, x1, x2⟩, y0, y1, y2⟩ := zero_cells HX.out
  simp only at a0 a1 a2 b0 b1 b2
  go_wp2_with fail
  refine (check_ok 5 _).mono ?_
  rintro e w' ⟨rfl, rfl⟩
  go_wp2_with fail
  refine (wants_bool 3 (by decide) _).mono ?_
  rintro e w' ⟨rfl, rfl⟩
  go_wp2_with fail
  refine (check_ok 35 _).mono ?_
  rintro e w' ⟨rfl, rfl⟩
  go_wp2_with fail
  refine (check_ok 35 _).mono ?_
  rintro e w' ⟨rfl, rfl⟩
  go_upto_region 9 with fail
  clear x0 x1 x2 y0 y1 y2
  have HS : Asd (∀ w', Below w.heap.size w w' → w'.cell? ⟨po, 0, none⟩ = some (.int .i64 3) ∧ w'.cell? ⟨pa, 0, none⟩ = some (.int .i64 0) ∧ w'.cell? ⟨pa, 1, none⟩ = some (.int .i64 i) ∧ w'.cell? ⟨pa, 2, none⟩ = some (.string ⟨s.toArray⟩) ∧ w'.cell? ⟨pb, 0, none⟩ = some (.int .i64 0) ∧ w'.cell? ⟨pb, 1, none⟩ = some (.int .i64 j) ∧ w'.cell? ⟨pb, 2, none⟩ = some (.string ⟨t.toArray⟩) ∧ Below w.heap.size w w') := Asd.mk fun w' hb => by
    have h := HW.out.below hb
    obtain ⟨a0, a1, a2⟩ := val_cells h.a
    obtain ⟨b0, b1, b2⟩ := val_cells h.b
    exact ⟨(blk_cell h.o 0).trans rfl, a0, a1, a2, b0, b1, b2, hb⟩
  clear a0 a1 a2 b0 b1 b2 o0
  go_region_held3 (fun w' => w'.cell? ⟨po, 0, none⟩ = some (.int .i64 3) ∧ w'.cell? ⟨pa, 0, none⟩ = some (.int .i64 0) ∧ w'.cell? ⟨pa, 1, none⟩ = some (.int .i64 i) ∧ w'.cell? ⟨pa, 2, none⟩ = some (.string ⟨s.toArray⟩) ∧ w'.cell? ⟨pb, 0, none⟩ = some (.int .i64 0) ∧ w'.cell? ⟨pb, 1, none⟩ = some (.int .i64 j) ∧ w'.cell? ⟨pb, 2, none⟩ = some (.string ⟨t.toArray⟩) ∧ Below w.heap.size w w')
    (first
      | exact HS.out _ HB.out
      | exact HS.out _ HB.out.drew
      | exact HS.out _ HB2.out
      | exact HS.out _ HB3.out
      | exact HS.out _ HB4.out
      | exact HS.out _ (below_put3 HB3.out (Nat.le_refl _) _ _ _)
      | exact HS.out _ (below_put3 HB4.out (Nat.le_refl _) _ _ _)
      | (go_split_ands; exact HS.out _ (by assumption))
      | fail)
    (first
      | (go_at_call_of 39 (Value.bool true)
         refine (truth_calls true _).mono ?_
         rintro e w2 ⟨rfl, hb2⟩
         have HB2 : Asd (Below w.heap.size w w2) := Asd.mk (HB.out.drew.trans (hb2.mono HB.out.drew.size))
         have HX2 := Asd.mk (blk_below hb2 (drewb HX.out))
         unfold vC)
      | (go_at_call 43
         refine (logic_calls true ⟨0, i, s⟩ ⟨0, j, t⟩ _).mono ?_
         rintro e w3 ⟨rfl, hb3⟩
         have HB3 : Asd (Below w.heap.size w w3) := Asd.mk (HB2.out.trans (hb3.mono HB2.out.size))
         have HX3 := Asd.mk (blk_below hb3 HX2.out)
         obtain ⟨⟨x0, x1, x2⟩, y0, y1, y2⟩ := zero_cells HX3.out
         unfold vC)
      | fail)
  go_wp2
  refine val_ret rfl w.heap.size _ _ _ rfl (put3_blk HX3.out _ _ _) rfl ?_
  exact ⟨below_put3 HB3.out (Nat.le_refl _) _ _ _, rfl⟩
set_option maxRecDepth 100000 in
theorem bin_L3_01 (i j : Int) (s t : List UInt8) (po pa pb : Nat) (w : World) (h : BinW w po pa pb 3 ⟨0, i, s⟩ ⟨1, j, t⟩) :
    Calls Tryz.prog 41 #[.pointer (some ⟨po, 0, none⟩), .pointer (some ⟨pa, 0, none⟩), .pointer (some ⟨pb, 0, none⟩)] w (EvR (.ok (logicP true ⟨0, i, s⟩ ⟨1, j, t⟩)) w) := by
  have HW := Asd.mk h
  have HX := Asd.mk (blk_new w zeroV)
  have HB : Asd (Below w.heap.size w (w.alloc zeroV)) := Asd.mk (below_alloc (Below.refl _ _) _)
  clear h
  go_enter Tryz.func41, Tryz.ntmps41
  go_upto_region 1 with fail
  generalize w.alloc _ = w1 at HX HB ⊢
  have HW1 := Asd.mk (HW.out.below HB.out)
  have o0 := (blk_cell HW1.out.o 0).trans rfl
  obtain ⟨a0, a1, a2⟩ := val_cells HW1.out.a
  obtain ⟨b0, b1, b2⟩ := val_cells HW1.out.b
  obtain ⟨⟨x0, x1, x2⟩, y0, y1, y2⟩ := zero_cells HX.out
  simp only at a0 a1 a2 b0 b1 b2
  go_wp2_with fail
  refine (check_ok 5 _).mono ?_
  rintro e w' ⟨rfl, rfl⟩
  go_wp2_with fail
  refine (wants_bool 3 (by decide) _).mono ?_
  rintro e w' ⟨rfl, rfl⟩
  go_wp2_with fail
  refine (check_ok 35 _).mono ?_
  rintro e w' ⟨rfl, rfl⟩
  go_wp2_with fail
  refine (check_ok 35 _).mono ?_
  rintro e w' ⟨rfl, rfl⟩
  go_upto_region 9 with fail
  clear x0 x1 x2 y0 y1 y2
  have HS : Asd (∀ w', Below w.heap.size w w' → w'.cell? ⟨po, 0, none⟩ = some (.int .i64 3) ∧ w'.cell? ⟨pa, 0, none⟩ = some (.int .i64 0) ∧ w'.cell? ⟨pa, 1, none⟩ = some (.int .i64 i) ∧ w'.cell? ⟨pa, 2, none⟩ = some (.string ⟨s.toArray⟩) ∧ w'.cell? ⟨pb, 0, none⟩ = some (.int .i64 1) ∧ w'.cell? ⟨pb, 1, none⟩ = some (.int .i64 j) ∧ w'.cell? ⟨pb, 2, none⟩ = some (.string ⟨t.toArray⟩) ∧ Below w.heap.size w w') := Asd.mk fun w' hb => by
    have h := HW.out.below hb
    obtain ⟨a0, a1, a2⟩ := val_cells h.a
    obtain ⟨b0, b1, b2⟩ := val_cells h.b
    exact ⟨(blk_cell h.o 0).trans rfl, a0, a1, a2, b0, b1, b2, hb⟩
  clear a0 a1 a2 b0 b1 b2 o0
  go_region_held3 (fun w' => w'.cell? ⟨po, 0, none⟩ = some (.int .i64 3) ∧ w'.cell? ⟨pa, 0, none⟩ = some (.int .i64 0) ∧ w'.cell? ⟨pa, 1, none⟩ = some (.int .i64 i) ∧ w'.cell? ⟨pa, 2, none⟩ = some (.string ⟨s.toArray⟩) ∧ w'.cell? ⟨pb, 0, none⟩ = some (.int .i64 1) ∧ w'.cell? ⟨pb, 1, none⟩ = some (.int .i64 j) ∧ w'.cell? ⟨pb, 2, none⟩ = some (.string ⟨t.toArray⟩) ∧ Below w.heap.size w w')
    (first
      | exact HS.out _ HB.out
      | exact HS.out _ HB.out.drew
      | exact HS.out _ HB2.out
      | exact HS.out _ HB3.out
      | exact HS.out _ HB4.out
      | exact HS.out _ (below_put3 HB3.out (Nat.le_refl _) _ _ _)
      | exact HS.out _ (below_put3 HB4.out (Nat.le_refl _) _ _ _)
      | (go_split_ands; exact HS.out _ (by assumption))
      | fail)
    (first
      | (go_at_call_of 39 (Value.bool true)
         refine (truth_calls true _).mono ?_
         rintro e w2 ⟨rfl, hb2⟩
         have HB2 : Asd (Below w.heap.size w w2) := Asd.mk (HB.out.drew.trans (hb2.mono HB.out.drew.size))
         have HX2 := Asd.mk (blk_below hb2 (drewb HX.out))
         unfold vC)
      | (go_at_call 43
         refine (logic_calls true ⟨0, i, s⟩ ⟨1, j, t⟩ _).mono ?_
         rintro e w3 ⟨rfl, hb3⟩
         have HB3 : Asd (Below w.heap.size w w3) := Asd.mk (HB2.out.trans (hb3.mono HB2.out.size))
         have HX3 := Asd.mk (blk_below hb3 HX2.out)
         obtain ⟨⟨x0, x1, x2⟩, y0, y1, y2⟩ := zero_cells HX3.out
         unfold vC)
      | fail)
  go_wp2
  refine val_ret rfl w.heap.size _ _ _ rfl (put3_blk HX3.out _ _ _) rfl ?_
  exact ⟨below_put3 HB3.out (Nat.le_refl _) _ _ _, rfl⟩
set_option maxRecDepth 100000 in
theorem bin_L3_b1 (kb : Int) (h1 : (kb == 1) = false) (h0 : (kb == 0) = false) (i j : Int) (s t : List UInt8) (po pa pb : Nat) (w : World) (h : BinW w po pa pb 3 ⟨1, i, s⟩ ⟨kb, j, t⟩) :
    Calls Tryz.prog 41 #[.pointer (some ⟨po, 0, none⟩), .pointer (some ⟨pa, 0, none⟩), .pointer (some ⟨pb, 0, none⟩)] w (EvR (.error 35) w) := by
  have HW := Asd.mk h
  have HX := Asd.mk (blk_new w zeroV)
  have HB : Asd (Below w.heap.size w (w.alloc zeroV)) := Asd.mk (below_alloc (Below.refl _ _) _)
  clear h
  go_enter Tryz.func41, Tryz.ntmps41
  go_upto_region 1 with fail
  generalize w.alloc _ = w1 at HX HB ⊢
  have HW1 := Asd.mk (HW.out.below HB.out)
  have o0 := (blk_cell HW1.out.o 0).trans rfl
  obtain ⟨a0, a1, a2⟩ := val_cells HW1.out.a
  obtain ⟨b0, b1, b2⟩ := val_cells HW1.out.b
  obtain ⟨⟨x0, x1, x2⟩, y0, y1, y2⟩ := zero_cells HX.out
  simp only at a0 a1 a2 b0 b1 b2
  go_wp2_with fail
  refine (check_ok 5 _).mono ?_
  rintro e w' ⟨rfl, rfl⟩
  go_wp2_with fail
  refine (wants_bool 3 (by decide) _).mono ?_
  rintro e w' ⟨rfl, rfl⟩
  go_wp2_with fail
  refine (check_ok 35 _).mono ?_
  rintro e w' ⟨rfl, rfl⟩
  go_wp2_with fail
  refine (check_no 35 _).mono ?_
  rintro e w' ⟨rfl, rfl⟩
  go_wp2
  exact ⟨rfl, HB.out, rfl⟩
set_option maxRecDepth 100000 in
theorem bin_L3_10 (i j : Int) (s t : List UInt8) (po pa pb : Nat) (w : World) (h : BinW w po pa pb 3 ⟨1, i, s⟩ ⟨0, j, t⟩) :
    Calls Tryz.prog 41 #[.pointer (some ⟨po, 0, none⟩), .pointer (some ⟨pa, 0, none⟩), .pointer (some ⟨pb, 0, none⟩)] w (EvR (.ok (logicP true ⟨1, i, s⟩ ⟨0, j, t⟩)) w) := by
  have HW := Asd.mk h
  have HX := Asd.mk (blk_new w zeroV)
  have HB : Asd (Below w.heap.size w (w.alloc zeroV)) := Asd.mk (below_alloc (Below.refl _ _) _)
  clear h
  go_enter Tryz.func41, Tryz.ntmps41
  go_upto_region 1 with fail
  generalize w.alloc _ = w1 at HX HB ⊢
  have HW1 := Asd.mk (HW.out.below HB.out)
  have o0 := (blk_cell HW1.out.o 0).trans rfl
  obtain ⟨a0, a1, a2⟩ := val_cells HW1.out.a
  obtain ⟨b0, b1, b2⟩ := val_cells HW1.out.b
  obtain ⟨⟨x0, x1, x2⟩, y0, y1, y2⟩ := zero_cells HX.out
  simp only at a0 a1 a2 b0 b1 b2
  go_wp2_with fail
  refine (check_ok 5 _).mono ?_
  rintro e w' ⟨rfl, rfl⟩
  go_wp2_with fail
  refine (wants_bool 3 (by decide) _).mono ?_
  rintro e w' ⟨rfl, rfl⟩
  go_wp2_with fail
  refine (check_ok 35 _).mono ?_
  rintro e w' ⟨rfl, rfl⟩
  go_wp2_with fail
  refine (check_ok 35 _).mono ?_
  rintro e w' ⟨rfl, rfl⟩
  go_upto_region 9 with fail
  clear x0 x1 x2 y0 y1 y2
  have HS : Asd (∀ w', Below w.heap.size w w' → w'.cell? ⟨po, 0, none⟩ = some (.int .i64 3) ∧ w'.cell? ⟨pa, 0, none⟩ = some (.int .i64 1) ∧ w'.cell? ⟨pa, 1, none⟩ = some (.int .i64 i) ∧ w'.cell? ⟨pa, 2, none⟩ = some (.string ⟨s.toArray⟩) ∧ w'.cell? ⟨pb, 0, none⟩ = some (.int .i64 0) ∧ w'.cell? ⟨pb, 1, none⟩ = some (.int .i64 j) ∧ w'.cell? ⟨pb, 2, none⟩ = some (.string ⟨t.toArray⟩) ∧ Below w.heap.size w w') := Asd.mk fun w' hb => by
    have h := HW.out.below hb
    obtain ⟨a0, a1, a2⟩ := val_cells h.a
    obtain ⟨b0, b1, b2⟩ := val_cells h.b
    exact ⟨(blk_cell h.o 0).trans rfl, a0, a1, a2, b0, b1, b2, hb⟩
  clear a0 a1 a2 b0 b1 b2 o0
  go_region_held3 (fun w' => w'.cell? ⟨po, 0, none⟩ = some (.int .i64 3) ∧ w'.cell? ⟨pa, 0, none⟩ = some (.int .i64 1) ∧ w'.cell? ⟨pa, 1, none⟩ = some (.int .i64 i) ∧ w'.cell? ⟨pa, 2, none⟩ = some (.string ⟨s.toArray⟩) ∧ w'.cell? ⟨pb, 0, none⟩ = some (.int .i64 0) ∧ w'.cell? ⟨pb, 1, none⟩ = some (.int .i64 j) ∧ w'.cell? ⟨pb, 2, none⟩ = some (.string ⟨t.toArray⟩) ∧ Below w.heap.size w w')
    (first
      | exact HS.out _ HB.out
      | exact HS.out _ HB.out.drew
      | exact HS.out _ HB2.out
      | exact HS.out _ HB3.out
      | exact HS.out _ HB4.out
      | exact HS.out _ (below_put3 HB3.out (Nat.le_refl _) _ _ _)
      | exact HS.out _ (below_put3 HB4.out (Nat.le_refl _) _ _ _)
      | (go_split_ands; exact HS.out _ (by assumption))
      | fail)
    (first
      | (go_at_call_of 39 (Value.bool true)
         refine (truth_calls true _).mono ?_
         rintro e w2 ⟨rfl, hb2⟩
         have HB2 : Asd (Below w.heap.size w w2) := Asd.mk (HB.out.drew.trans (hb2.mono HB.out.drew.size))
         have HX2 := Asd.mk (blk_below hb2 (drewb HX.out))
         unfold vC)
      | (go_at_call 43
         refine (logic_calls true ⟨1, i, s⟩ ⟨0, j, t⟩ _).mono ?_
         rintro e w3 ⟨rfl, hb3⟩
         have HB3 : Asd (Below w.heap.size w w3) := Asd.mk (HB2.out.trans (hb3.mono HB2.out.size))
         have HX3 := Asd.mk (blk_below hb3 HX2.out)
         obtain ⟨⟨x0, x1, x2⟩, y0, y1, y2⟩ := zero_cells HX3.out
         unfold vC)
      | fail)
  go_wp2
  refine val_ret rfl w.heap.size _ _ _ rfl (put3_blk HX3.out _ _ _) rfl ?_
  exact ⟨below_put3 HB3.out (Nat.le_refl _) _ _ _, rfl⟩
set_option maxRecDepth 100000 in
theorem bin_L3_11 (i j : Int) (s t : List UInt8) (po pa pb : Nat) (w : World) (h : BinW w po pa pb 3 ⟨1, i, s⟩ ⟨1, j, t⟩) :
    Calls Tryz.prog 41 #[.pointer (some ⟨po, 0, none⟩), .pointer (some ⟨pa, 0, none⟩), .pointer (some ⟨pb, 0, none⟩)] w (EvR (.ok (logicP true ⟨1, i, s⟩ ⟨1, j, t⟩)) w) := by
  have HW := Asd.mk h
  have HX := Asd.mk (blk_new w zeroV)
  have HB : Asd (Below w.heap.size w (w.alloc zeroV)) := Asd.mk (below_alloc (Below.refl _ _) _)
  clear h
  go_enter Tryz.func41, Tryz.ntmps41
  go_upto_region 1 with fail
  generalize w.alloc _ = w1 at HX HB ⊢
  have HW1 := Asd.mk (HW.out.below HB.out)
  have o0 := (blk_cell HW1.out.o 0).trans rfl
  obtain ⟨a0, a1, a2⟩ := val_cells HW1.out.a
  obtain ⟨b0, b1, b2⟩ := val_cells HW1.out.b
  obtain ⟨⟨x0, x1, x2⟩, y0, y1, y2⟩ := zero_cells HX.out
  simp only at a0 a1 a2 b0 b1 b2
  go_wp2_with fail
  refine (check_ok 5 _).mono ?_
  rintro e w' ⟨rfl, rfl⟩
  go_wp2_with fail
  refine (wants_bool 3 (by decide) _).mono ?_
  rintro e w' ⟨rfl, rfl⟩
  go_wp2_with fail
  refine (check_ok 35 _).mono ?_
  rintro e w' ⟨rfl, rfl⟩
  go_wp2_with fail
  refine (check_ok 35 _).mono ?_
  rintro e w' ⟨rfl, rfl⟩
  go_upto_region 9 with fail
  clear x0 x1 x2 y0 y1 y2
  have HS : Asd (∀ w', Below w.heap.size w w' → w'.cell? ⟨po, 0, none⟩ = some (.int .i64 3) ∧ w'.cell? ⟨pa, 0, none⟩ = some (.int .i64 1) ∧ w'.cell? ⟨pa, 1, none⟩ = some (.int .i64 i) ∧ w'.cell? ⟨pa, 2, none⟩ = some (.string ⟨s.toArray⟩) ∧ w'.cell? ⟨pb, 0, none⟩ = some (.int .i64 1) ∧ w'.cell? ⟨pb, 1, none⟩ = some (.int .i64 j) ∧ w'.cell? ⟨pb, 2, none⟩ = some (.string ⟨t.toArray⟩) ∧ Below w.heap.size w w') := Asd.mk fun w' hb => by
    have h := HW.out.below hb
    obtain ⟨a0, a1, a2⟩ := val_cells h.a
    obtain ⟨b0, b1, b2⟩ := val_cells h.b
    exact ⟨(blk_cell h.o 0).trans rfl, a0, a1, a2, b0, b1, b2, hb⟩
  clear a0 a1 a2 b0 b1 b2 o0
  go_region_held3 (fun w' => w'.cell? ⟨po, 0, none⟩ = some (.int .i64 3) ∧ w'.cell? ⟨pa, 0, none⟩ = some (.int .i64 1) ∧ w'.cell? ⟨pa, 1, none⟩ = some (.int .i64 i) ∧ w'.cell? ⟨pa, 2, none⟩ = some (.string ⟨s.toArray⟩) ∧ w'.cell? ⟨pb, 0, none⟩ = some (.int .i64 1) ∧ w'.cell? ⟨pb, 1, none⟩ = some (.int .i64 j) ∧ w'.cell? ⟨pb, 2, none⟩ = some (.string ⟨t.toArray⟩) ∧ Below w.heap.size w w')
    (first
      | exact HS.out _ HB.out
      | exact HS.out _ HB.out.drew
      | exact HS.out _ HB2.out
      | exact HS.out _ HB3.out
      | exact HS.out _ HB4.out
      | exact HS.out _ (below_put3 HB3.out (Nat.le_refl _) _ _ _)
      | exact HS.out _ (below_put3 HB4.out (Nat.le_refl _) _ _ _)
      | (go_split_ands; exact HS.out _ (by assumption))
      | fail)
    (first
      | (go_at_call_of 39 (Value.bool true)
         refine (truth_calls true _).mono ?_
         rintro e w2 ⟨rfl, hb2⟩
         have HB2 : Asd (Below w.heap.size w w2) := Asd.mk (HB.out.drew.trans (hb2.mono HB.out.drew.size))
         have HX2 := Asd.mk (blk_below hb2 (drewb HX.out))
         unfold vC)
      | (go_at_call 43
         refine (logic_calls true ⟨1, i, s⟩ ⟨1, j, t⟩ _).mono ?_
         rintro e w3 ⟨rfl, hb3⟩
         have HB3 : Asd (Below w.heap.size w w3) := Asd.mk (HB2.out.trans (hb3.mono HB2.out.size))
         have HX3 := Asd.mk (blk_below hb3 HX2.out)
         obtain ⟨⟨x0, x1, x2⟩, y0, y1, y2⟩ := zero_cells HX3.out
         unfold vC)
      | fail)
  go_wp2
  refine val_ret rfl w.heap.size _ _ _ rfl (put3_blk HX3.out _ _ _) rfl ?_
  exact ⟨below_put3 HB3.out (Nat.le_refl _) _ _ _, rfl⟩
set_option maxRecDepth 100000 in
theorem bin_L4_a (ka kb : Int) (h1 : (ka == 1) = false) (h0 : (ka == 0) = false) (i j : Int) (s t : List UInt8) (po pa pb : Nat) (w : World) (h : BinW w po pa pb 4 ⟨ka, i, s⟩ ⟨kb, j, t⟩) :
    Calls Tryz.prog 41 #[.pointer (some ⟨po, 0, none⟩), .pointer (some ⟨pa, 0, none⟩), .pointer (some ⟨pb, 0, none⟩)] w (EvR (.error 35) w) := by
  have HW := Asd.mk h
  have HX := Asd.mk (blk_new w zeroV)
  have HB : Asd (Below w.heap.size w (w.alloc zeroV)) := Asd.mk (below_alloc (Below.refl _ _) _)
  clear h
  go_enter Tryz.func41, Tryz.ntmps41
  go_upto_region 1 with fail
  generalize w.alloc _ = w1 at HX HB ⊢
  have HW1 := Asd.mk (HW.out.below HB.out)
  have o0 := (blk_cell HW1.out.o 0).trans rfl
  obtain ⟨a0, a1, a2⟩ := val_cells HW1.out.a
  obtain ⟨b0, b1, b2⟩ := val_cells HW1.out.b
  obtain ⟨⟨x0, x1, x2⟩, y0, y1, y2⟩ := zero_cells HX.out
  simp only at a0 a1 a2 b0 b1 b2
  go_wp2_with fail
  refine (check_ok 5 _).mono ?_
  rintro e w' ⟨rfl, rfl⟩
  go_wp2_with fail
  refine (wants_bool 4 (by decide) _).mono ?_
  rintro e w' ⟨rfl, rfl⟩
  go_wp2_with fail
  refine (check_no 35 _).mono ?_
  rintro e w' ⟨rfl, rfl⟩
  go_wp2
  exact ⟨rfl, HB.out, rfl⟩
set_option maxRecDepth 100000 in
theorem bin_L4_b0 (kb : Int) (h1 : (kb == 1) = false) (h0 : (kb == 0) = false) (i j : Int) (s t : List UInt8) (po pa pb : Nat) (w : World) (h : BinW w po pa pb 4 ⟨0, i, s⟩ ⟨kb, j, t⟩) :
    Calls Tryz.prog 41 #[.pointer (some ⟨po, 0, none⟩), .pointer (some ⟨pa, 0, none⟩), .pointer (some ⟨pb, 0, none⟩)] w (EvR (.error 35) w) := by
  have HW := Asd.mk h
  have HX := Asd.mk (blk_new w zeroV)
  have HB : Asd (Below w.heap.size w (w.alloc zeroV)) := Asd.mk (below_alloc (Below.refl _ _) _)
  clear h
  go_enter Tryz.func41, Tryz.ntmps41
  go_upto_region 1 with fail
  generalize w.alloc _ = w1 at HX HB ⊢
  have HW1 := Asd.mk (HW.out.below HB.out)
  have o0 := (blk_cell HW1.out.o 0).trans rfl
  obtain ⟨a0, a1, a2⟩ := val_cells HW1.out.a
  obtain ⟨b0, b1, b2⟩ := val_cells HW1.out.b
  obtain ⟨⟨x0, x1, x2⟩, y0, y1, y2⟩ := zero_cells HX.out
  simp only at a0 a1 a2 b0 b1 b2
  go_wp2_with fail
  refine (check_ok 5 _).mono ?_
  rintro e w' ⟨rfl, rfl⟩
  go_wp2_with fail
  refine (wants_bool 4 (by decide) _).mono ?_
  rintro e w' ⟨rfl, rfl⟩
  go_wp2_with fail
  refine (check_ok 35 _).mono ?_
  rintro e w' ⟨rfl, rfl⟩
  go_wp2_with fail
  refine (check_no 35 _).mono ?_
  rintro e w' ⟨rfl, rfl⟩
  go_wp2
  exact ⟨rfl, HB.out, rfl⟩
set_option maxRecDepth 100000 in
theorem bin_L4_00 (i j : Int) (s t : List UInt8) (po pa pb : Nat) (w : World) (h : BinW w po pa pb 4 ⟨0, i, s⟩ ⟨0, j, t⟩) :
    Calls Tryz.prog 41 #[.pointer (some ⟨po, 0, none⟩), .pointer (some ⟨pa, 0, none⟩), .pointer (some ⟨pb, 0, none⟩)] w (EvR (.ok (logicP false ⟨0, i, s⟩ ⟨0, j, t⟩)) w) := by
  have HW := Asd.mk h
  have HX := Asd.mk (blk_new w zeroV)
  have HB : Asd (Below w.heap.size w (w.alloc zeroV)) := Asd.mk (below_alloc (Below.refl _ _) _)
  clear h
  go_enter Tryz.func41, Tryz.ntmps41
  go_upto_region 1 with fail
  generalize w.alloc _ = w1 at HX HB ⊢
  have HW1 := Asd.mk (HW.out.below HB.out)
  have o0 := (blk_cell HW1.out.o 0).trans rfl
  obtain ⟨a0, a1, a2⟩ := val_cells HW1.out.a
  obtain ⟨b0, b1, b2⟩ := val_cells HW1.out.b
  obtain ⟨⟨x0, x1, x2⟩, y0, y1, y2⟩ := zero_cells HX.out
  simp only at a0 a1 a2 b0 b1 b2
  go_wp2_with fail
  refine (check_ok 5 _).mono ?_
  rintro e w' ⟨rfl, rfl⟩
  go_wp2_with fail
  refine (wants_bool 4 (by decide) _).mono ?_
  rintro e w' ⟨rfl, rfl⟩
  go_wp2_with fail
  refine (check_ok 35 _).mono ?_
  rintro e w' ⟨rfl, rfl⟩
  go_wp2_with fail
  refine (check_ok 35 _).mono ?_
  rintro e w' ⟨rfl, rfl⟩
  go_upto_region 9 with fail
  clear x0 x1 x2 y0 y1 y2
  have HS : Asd (∀ w', Below w.heap.size w w' → w'.cell? ⟨po, 0, none⟩ = some (.int .i64 4) ∧ w'.cell? ⟨pa, 0, none⟩ = some (.int .i64 0) ∧ w'.cell? ⟨pa, 1, none⟩ = some (.int .i64 i) ∧ w'.cell? ⟨pa, 2, none⟩ = some (.string ⟨s.toArray⟩) ∧ w'.cell? ⟨pb, 0, none⟩ = some (.int .i64 0) ∧ w'.cell? ⟨pb, 1, none⟩ = some (.int .i64 j) ∧ w'.cell? ⟨pb, 2, none⟩ = some (.string ⟨t.toArray⟩) ∧ Below w.heap.size w w') := Asd.mk fun w' hb => by
    have h := HW.out.below hb
    obtain ⟨a0, a1, a2⟩ := val_cells h.a
    obtain ⟨b0, b1, b2⟩ := val_cells h.b
    exact ⟨(blk_cell h.o 0).trans rfl, a0, a1, a2, b0, b1, b2, hb⟩
  clear a0 a1 a2 b0 b1 b2 o0
  go_region_held3 (fun w' => w'.cell? ⟨po, 0, none⟩ = some (.int .i64 4) ∧ w'.cell? ⟨pa, 0, none⟩ = some (.int .i64 0) ∧ w'.cell? ⟨pa, 1, none⟩ = some (.int .i64 i) ∧ w'.cell? ⟨pa, 2, none⟩ = some (.string ⟨s.toArray⟩) ∧ w'.cell? ⟨pb, 0, none⟩ = some (.int .i64 0) ∧ w'.cell? ⟨pb, 1, none⟩ = some (.int .i64 j) ∧ w'.cell? ⟨pb, 2, none⟩ = some (.string ⟨t.toArray⟩) ∧ Below w.heap.size w w')
    (first
      | exact HS.out _ HB.out
      | exact HS.out _ HB.out.drew
      | exact HS.out _ HB2.out
      | exact HS.out _ HB3.out
      | exact HS.out _ HB4.out
      | exact HS.out _ (below_put3 HB3.out (Nat.le_refl _) _ _ _)
      | exact HS.out _ (below_put3 HB4.out (Nat.le_refl _) _ _ _)
      | (go_split_ands; exact HS.out _ (by assumption))
      | fail)
    (first
      | (go_at_call_of 39 (Value.bool false)
         refine (truth_calls false _).mono ?_
         rintro e w2 ⟨rfl, hb2⟩
         have HB2 : Asd (Below w.heap.size w w2) := Asd.mk (HB.out.drew.trans (hb2.mono HB.out.drew.size))
         have HX2 := Asd.mk (blk_below hb2 (drewb HX.out))
         unfold vC)
      | (go_at_call 43
         refine (logic_calls false ⟨0, i, s⟩ ⟨0, j, t⟩ _).mono ?_
         rintro e w3 ⟨rfl, hb3⟩
         have HB3 : Asd (Below w.heap.size w w3) := Asd.mk (HB2.out.trans (hb3.mono HB2.out.size))
         have HX3 := Asd.mk (blk_below hb3 HX2.out)
         obtain ⟨⟨x0, x1, x2⟩, y0, y1, y2⟩ := zero_cells HX3.out
         unfold vC)
      | fail)
  go_wp2
  refine val_ret rfl w.heap.size _ _ _ rfl (put3_blk HX3.out _ _ _) rfl ?_
  exact ⟨below_put3 HB3.out (Nat.le_refl _) _ _ _, rfl⟩
set_option maxRecDepth 100000 in
theorem bin_L4_01 (i j : Int) (s t : List UInt8) (po pa pb : Nat) (w : World) (h : BinW w po pa pb 4 ⟨0, i, s⟩ ⟨1, j, t⟩) :
    Calls Tryz.prog 41 #[.pointer (some ⟨po, 0, none⟩), .pointer (some ⟨pa, 0, none⟩), .pointer (some ⟨pb, 0, none⟩)] w (EvR (.ok (logicP false ⟨0, i, s⟩ ⟨1, j, t⟩)) w) := by
  have HW := Asd.mk h
  have HX := Asd.mk (blk_new w zeroV)
  have HB : Asd (Below w.heap.size w (w.alloc zeroV)) := Asd.mk (below_alloc (Below.refl _ _) _)
  clear h
  go_enter Tryz.func41, Tryz.ntmps41
  go_upto_region 1 with fail
  generalize w.alloc _ = w1 at HX HB ⊢
  have HW1 := Asd.mk (HW.out.below HB.out)
  have o0 := (blk_cell HW1.out.o 0).trans rfl
  obtain ⟨a0, a1, a2⟩ := val_cells HW1.out.a
  obtain ⟨b0, b1, b2⟩ := val_cells HW1.out.b
  obtain ⟨⟨x0, x1, x2⟩, y0, y1, y2⟩ := zero_cells HX.out
  simp only at a0 a1 a2 b0 b1 b2
  go_wp2_with fail
  refine (check_ok 5 _).mono ?_
  rintro e w' ⟨rfl, rfl⟩
  go_wp2_with fail
  refine (wants_bool 4 (by decide) _).mono ?_
  rintro e w' ⟨rfl, rfl⟩
  go_wp2_with fail
  refine (check_ok 35 _).mono ?_
  rintro e w' ⟨rfl, rfl⟩
  go_wp2_with fail
  refine (check_ok 35 _).mono ?_
  rintro e w' ⟨rfl, rfl⟩
  go_upto_region 9 with fail
  clear x0 x1 x2 y0 y1 y2
  have HS : Asd (∀ w', Below w.heap.size w w' → w'.cell? ⟨po, 0, none⟩ = some (.int .i64 4) ∧ w'.cell? ⟨pa, 0, none⟩ = some (.int .i64 0) ∧ w'.cell? ⟨pa, 1, none⟩ = some (.int .i64 i) ∧ w'.cell? ⟨pa, 2, none⟩ = some (.string ⟨s.toArray⟩) ∧ w'.cell? ⟨pb, 0, none⟩ = some (.int .i64 1) ∧ w'.cell? ⟨pb, 1, none⟩ = some (.int .i64 j) ∧ w'.cell? ⟨pb, 2, none⟩ = some (.string ⟨t.toArray⟩) ∧ Below w.heap.size w w') := Asd.mk fun w' hb => by
    have h := HW.out.below hb
    obtain ⟨a0, a1, a2⟩ := val_cells h.a
    obtain ⟨b0, b1, b2⟩ := val_cells h.b
    exact ⟨(blk_cell h.o 0).trans rfl, a0, a1, a2, b0, b1, b2, hb⟩
  clear a0 a1 a2 b0 b1 b2 o0
  go_region_held3 (fun w' => w'.cell? ⟨po, 0, none⟩ = some (.int .i64 4) ∧ w'.cell? ⟨pa, 0, none⟩ = some (.int .i64 0) ∧ w'.cell? ⟨pa, 1, none⟩ = some (.int .i64 i) ∧ w'.cell? ⟨pa, 2, none⟩ = some (.string ⟨s.toArray⟩) ∧ w'.cell? ⟨pb, 0, none⟩ = some (.int .i64 1) ∧ w'.cell? ⟨pb, 1, none⟩ = some (.int .i64 j) ∧ w'.cell? ⟨pb, 2, none⟩ = some (.string ⟨t.toArray⟩) ∧ Below w.heap.size w w')
    (first
      | exact HS.out _ HB.out
      | exact HS.out _ HB.out.drew
      | exact HS.out _ HB2.out
      | exact HS.out _ HB3.out
      | exact HS.out _ HB4.out
      | exact HS.out _ (below_put3 HB3.out (Nat.le_refl _) _ _ _)
      | exact HS.out _ (below_put3 HB4.out (Nat.le_refl _) _ _ _)
      | (go_split_ands; exact HS.out _ (by assumption))
      | fail)
    (first
      | (go_at_call_of 39 (Value.bool false)
         refine (truth_calls false _).mono ?_
         rintro e w2 ⟨rfl, hb2⟩
         have HB2 : Asd (Below w.heap.size w w2) := Asd.mk (HB.out.drew.trans (hb2.mono HB.out.drew.size))
         have HX2 := Asd.mk (blk_below hb2 (drewb HX.out))
         unfold vC)
      | (go_at_call 43
         refine (logic_calls false ⟨0, i, s⟩ ⟨1, j, t⟩ _).mono ?_
         rintro e w3 ⟨rfl, hb3⟩
         have HB3 : Asd (Below w.heap.size w w3) := Asd.mk (HB2.out.trans (hb3.mono HB2.out.size))
         have HX3 := Asd.mk (blk_below hb3 HX2.out)
         obtain ⟨⟨x0, x1, x2⟩, y0, y1, y2⟩ := zero_cells HX3.out
         unfold vC)
      | fail)
  go_wp2
  refine val_ret rfl w.heap.size _ _ _ rfl (put3_blk HX3.out _ _ _) rfl ?_
  exact ⟨below_put3 HB3.out (Nat.le_refl _) _ _ _, rfl⟩
set_option maxRecDepth 100000 in
theorem bin_L4_b1 (kb : Int) (h1 : (kb == 1) = false) (h0 : (kb == 0) = false) (i j : Int) (s t : List UInt8) (po pa pb : Nat) (w : World) (h : BinW w po pa pb 4 ⟨1, i, s⟩ ⟨kb, j, t⟩) :
    Calls Tryz.prog 41 #[.pointer (some ⟨po, 0, none⟩), .pointer (some ⟨pa, 0, none⟩), .pointer (some ⟨pb, 0, none⟩)] w (EvR (.error 35) w) := by
  have HW := Asd.mk h
  have HX := Asd.mk (blk_new w zeroV)
  have HB : Asd (Below w.heap.size w (w.alloc zeroV)) := Asd.mk (below_alloc (Below.refl _ _) _)
  clear h
  go_enter Tryz.func41, Tryz.ntmps41
  go_upto_region 1 with fail
  generalize w.alloc _ = w1 at HX HB ⊢
  have HW1 := Asd.mk (HW.out.below HB.out)
  have o0 := (blk_cell HW1.out.o 0).trans rfl
  obtain ⟨a0, a1, a2⟩ := val_cells HW1.out.a
  obtain ⟨b0, b1, b2⟩ := val_cells HW1.out.b
  obtain ⟨⟨x0, x1, x2⟩, y0, y1, y2⟩ := zero_cells HX.out
  simp only at a0 a1 a2 b0 b1 b2
  go_wp2_with fail
  refine (check_ok 5 _).mono ?_
  rintro e w' ⟨rfl, rfl⟩
  go_wp2_with fail
  refine (wants_bool 4 (by decide) _).mono ?_
  rintro e w' ⟨rfl, rfl⟩
  go_wp2_with fail
  refine (check_ok 35 _).mono ?_
  rintro e w' ⟨rfl, rfl⟩
  go_wp2_with fail
  refine (check_no 35 _).mono ?_
  rintro e w' ⟨rfl, rfl⟩
  go_wp2
  exact ⟨rfl, HB.out, rfl⟩
set_option maxRecDepth 100000 in
theorem bin_L4_10 (i j : Int) (s t : List UInt8) (po pa pb : Nat) (w : World) (h : BinW w po pa pb 4 ⟨1, i, s⟩ ⟨0, j, t⟩) :
    Calls Tryz.prog 41 #[.pointer (some ⟨po, 0, none⟩), .pointer (some ⟨pa, 0, none⟩), .pointer (some ⟨pb, 0, none⟩)] w (EvR (.ok (logicP false ⟨1, i, s⟩ ⟨0, j, t⟩)) w) := by
  have HW := Asd.mk h
  have HX := Asd.mk (blk_new w zeroV)
  have HB : Asd (Below w.heap.size w (w.alloc zeroV)) := Asd.mk (below_alloc (Below.refl _ _) _)
  clear h
  go_enter Tryz.func41, Tryz.ntmps41
  go_upto_region 1 with fail
  generalize w.alloc _ = w1 at HX HB ⊢
  have HW1 := Asd.mk (HW.out.below HB.out)
  have o0 := (blk_cell HW1.out.o 0).trans rfl
  obtain ⟨a0, a1, a2⟩ := val_cells HW1.out.a
  obtain ⟨b0, b1, b2⟩ := val_cells HW1.out.b
  obtain ⟨⟨x0, x1, x2⟩, y0, y1, y2⟩ := zero_cells HX.out
  simp only at a0 a1 a2 b0 b1 b2
  go_wp2_with fail
  refine (check_ok 5 _).mono ?_
  rintro e w' ⟨rfl, rfl⟩
  go_wp2_with fail
  refine (wants_bool 4 (by decide) _).mono ?_
  rintro e w' ⟨rfl, rfl⟩
  go_wp2_with fail
  refine (check_ok 35 _).mono ?_
  rintro e w' ⟨rfl, rfl⟩
  go_wp2_with fail
  refine (check_ok 35 _).mono ?_
  rintro e w' ⟨rfl, rfl⟩
  go_upto_region 9 with fail
  clear x0 x1 x2 y0 y1 y2
  have HS : Asd (∀ w', Below w.heap.size w w' → w'.cell? ⟨po, 0, none⟩ = some (.int .i64 4) ∧ w'.cell? ⟨pa, 0, none⟩ = some (.int .i64 1) ∧ w'.cell? ⟨pa, 1, none⟩ = some (.int .i64 i) ∧ w'.cell? ⟨pa, 2, none⟩ = some (.string ⟨s.toArray⟩) ∧ w'.cell? ⟨pb, 0, none⟩ = some (.int .i64 0) ∧ w'.cell? ⟨pb, 1, none⟩ = some (.int .i64 j) ∧ w'.cell? ⟨pb, 2, none⟩ = some (.string ⟨t.toArray⟩) ∧ Below w.heap.size w w') := Asd.mk fun w' hb => by
    have h := HW.out.below hb
    obtain ⟨a0, a1, a2⟩ := val_cells h.a
    obtain ⟨b0, b1, b2⟩ := val_cells h.b
    exact ⟨(blk_cell h.o 0).trans rfl, a0, a1, a2, b0, b1, b2, hb⟩
  clear a0 a1 a2 b0 b1 b2 o0
  go_region_held3 (fun w' => w'.cell? ⟨po, 0, none⟩ = some (.int .i64 4) ∧ w'.cell? ⟨pa, 0, none⟩ = some (.int .i64 1) ∧ w'.cell? ⟨pa, 1, none⟩ = some (.int .i64 i) ∧ w'.cell? ⟨pa, 2, none⟩ = some (.string ⟨s.toArray⟩) ∧ w'.cell? ⟨pb, 0, none⟩ = some (.int .i64 0) ∧ w'.cell? ⟨pb, 1, none⟩ = some (.int .i64 j) ∧ w'.cell? ⟨pb, 2, none⟩ = some (.string ⟨t.toArray⟩) ∧ Below w.heap.size w w')
    (first
      | exact HS.out _ HB.out
      | exact HS.out _ HB.out.drew
      | exact HS.out _ HB2.out
      | exact HS.out _ HB3.out
      | exact HS.out _ HB4.out
      | exact HS.out _ (below_put3 HB3.out (Nat.le_refl _) _ _ _)
      | exact HS.out _ (below_put3 HB4.out (Nat.le_refl _) _ _ _)
      | (go_split_ands; exact HS.out _ (by assumption))
      | fail)
    (first
      | (go_at_call_of 39 (Value.bool false)
         refine (truth_calls false _).mono ?_
         rintro e w2 ⟨rfl, hb2⟩
         have HB2 : Asd (Below w.heap.size w w2) := Asd.mk (HB.out.drew.trans (hb2.mono HB.out.drew.size))
         have HX2 := Asd.mk (blk_below hb2 (drewb HX.out))
         unfold vC)
      | (go_at_call 43
         refine (logic_calls false ⟨1, i, s⟩ ⟨0, j, t⟩ _).mono ?_
         rintro e w3 ⟨rfl, hb3⟩
         have HB3 : Asd (Below w.heap.size w w3) := Asd.mk (HB2.out.trans (hb3.mono HB2.out.size))
         have HX3 := Asd.mk (blk_below hb3 HX2.out)
         obtain ⟨⟨x0, x1, x2⟩, y0, y1, y2⟩ := zero_cells HX3.out
         unfold vC)
      | fail)
  go_wp2
  refine val_ret rfl w.heap.size _ _ _ rfl (put3_blk HX3.out _ _ _) rfl ?_
  exact ⟨below_put3 HB3.out (Nat.le_refl _) _ _ _, rfl⟩
set_option maxRecDepth 100000 in
theorem bin_L4_11 (i j : Int) (s t : List UInt8) (po pa pb : Nat) (w : World) (h : BinW w po pa pb 4 ⟨1, i, s⟩ ⟨1, j, t⟩) :
    Calls Tryz.prog 41 #[.pointer (some ⟨po, 0, none⟩), .pointer (some ⟨pa, 0, none⟩), .pointer (some ⟨pb, 0, none⟩)] w (EvR (.ok (logicP false ⟨1, i, s⟩ ⟨1, j, t⟩)) w) := by
  have HW := Asd.mk h
  have HX := Asd.mk (blk_new w zeroV)
  have HB : Asd (Below w.heap.size w (w.alloc zeroV)) := Asd.mk (below_alloc (Below.refl _ _) _)
  clear h
  go_enter Tryz.func41, Tryz.ntmps41
  go_upto_region 1 with fail
  generalize w.alloc _ = w1 at HX HB ⊢
  have HW1 := Asd.mk (HW.out.below HB.out)
  have o0 := (blk_cell HW1.out.o 0).trans rfl
  obtain ⟨a0, a1, a2⟩ := val_cells HW1.out.a
  obtain ⟨b0, b1, b2⟩ := val_cells HW1.out.b
  obtain ⟨⟨x0, x1, x2⟩, y0, y1, y2⟩ := zero_cells HX.out
  simp only at a0 a1 a2 b0 b1 b2
  go_wp2_with fail
  refine (check_ok 5 _).mono ?_
  rintro e w' ⟨rfl, rfl⟩
  go_wp2_with fail
  refine (wants_bool 4 (by decide) _).mono ?_
  rintro e w' ⟨rfl, rfl⟩
  go_wp2_with fail
  refine (check_ok 35 _).mono ?_
  rintro e w' ⟨rfl, rfl⟩
  go_wp2_with fail
  refine (check_ok 35 _).mono ?_
  rintro e w' ⟨rfl, rfl⟩
  go_upto_region 9 with fail
  clear x0 x1 x2 y0 y1 y2
  have HS : Asd (∀ w', Below w.heap.size w w' → w'.cell? ⟨po, 0, none⟩ = some (.int .i64 4) ∧ w'.cell? ⟨pa, 0, none⟩ = some (.int .i64 1) ∧ w'.cell? ⟨pa, 1, none⟩ = some (.int .i64 i) ∧ w'.cell? ⟨pa, 2, none⟩ = some (.string ⟨s.toArray⟩) ∧ w'.cell? ⟨pb, 0, none⟩ = some (.int .i64 1) ∧ w'.cell? ⟨pb, 1, none⟩ = some (.int .i64 j) ∧ w'.cell? ⟨pb, 2, none⟩ = some (.string ⟨t.toArray⟩) ∧ Below w.heap.size w w') := Asd.mk fun w' hb => by
    have h := HW.out.below hb
    obtain ⟨a0, a1, a2⟩ := val_cells h.a
    obtain ⟨b0, b1, b2⟩ := val_cells h.b
    exact ⟨(blk_cell h.o 0).trans rfl, a0, a1, a2, b0, b1, b2, hb⟩
  clear a0 a1 a2 b0 b1 b2 o0
  go_region_held3 (fun w' => w'.cell? ⟨po, 0, none⟩ = some (.int .i64 4) ∧ w'.cell? ⟨pa, 0, none⟩ = some (.int .i64 1) ∧ w'.cell? ⟨pa, 1, none⟩ = some (.int .i64 i) ∧ w'.cell? ⟨pa, 2, none⟩ = some (.string ⟨s.toArray⟩) ∧ w'.cell? ⟨pb, 0, none⟩ = some (.int .i64 1) ∧ w'.cell? ⟨pb, 1, none⟩ = some (.int .i64 j) ∧ w'.cell? ⟨pb, 2, none⟩ = some (.string ⟨t.toArray⟩) ∧ Below w.heap.size w w')
    (first
      | exact HS.out _ HB.out
      | exact HS.out _ HB.out.drew
      | exact HS.out _ HB2.out
      | exact HS.out _ HB3.out
      | exact HS.out _ HB4.out
      | exact HS.out _ (below_put3 HB3.out (Nat.le_refl _) _ _ _)
      | exact HS.out _ (below_put3 HB4.out (Nat.le_refl _) _ _ _)
      | (go_split_ands; exact HS.out _ (by assumption))
      | fail)
    (first
      | (go_at_call_of 39 (Value.bool false)
         refine (truth_calls false _).mono ?_
         rintro e w2 ⟨rfl, hb2⟩
         have HB2 : Asd (Below w.heap.size w w2) := Asd.mk (HB.out.drew.trans (hb2.mono HB.out.drew.size))
         have HX2 := Asd.mk (blk_below hb2 (drewb HX.out))
         unfold vC)
      | (go_at_call 43
         refine (logic_calls false ⟨1, i, s⟩ ⟨1, j, t⟩ _).mono ?_
         rintro e w3 ⟨rfl, hb3⟩
         have HB3 : Asd (Below w.heap.size w w3) := Asd.mk (HB2.out.trans (hb3.mono HB2.out.size))
         have HX3 := Asd.mk (blk_below hb3 HX2.out)
         obtain ⟨⟨x0, x1, x2⟩, y0, y1, y2⟩ := zero_cells HX3.out
         unfold vC)
      | fail)
  go_wp2
  refine val_ret rfl w.heap.size _ _ _ rfl (put3_blk HX3.out _ _ _) rfl ?_
  exact ⟨below_put3 HB3.out (Nat.le_refl _) _ _ _, rfl⟩
set_option maxRecDepth 100000 in
theorem bin_C_0 (op : Int) (h3 : 3 ≤ op) (h16 : op ≤ 16) (h4 : ¬ op ≤ 4) (h10 : op ≤ 10) (kb : Int) (i j : Int) (s t : List UInt8) (po pa pb : Nat) (w : World) (h : BinW w po pa pb op ⟨0, i, s⟩ ⟨kb, j, t⟩) :
    Calls Tryz.prog 41 #[.pointer (some ⟨po, 0, none⟩), .pointer (some ⟨pa, 0, none⟩), .pointer (some ⟨pb, 0, none⟩)] w (EvR (.ok vNull) w) := by
  have HW := Asd.mk h
  have HX := Asd.mk (blk_new w zeroV)
  have HB : Asd (Below w.heap.size w (w.alloc zeroV)) := Asd.mk (below_alloc (Below.refl _ _) _)
  clear h
  go_enter Tryz.func41, Tryz.ntmps41
  go_upto_region 1 with fail
  generalize w.alloc _ = w1 at HX HB ⊢
  have HW1 := Asd.mk (HW.out.below HB.out)
  have o0 := (blk_cell HW1.out.o 0).trans rfl
  obtain ⟨a0, a1, a2⟩ := val_cells HW1.out.a
  obtain ⟨b0, b1, b2⟩ := val_cells HW1.out.b
  obtain ⟨⟨x0, x1, x2⟩, y0, y1, y2⟩ := zero_cells HX.out
  simp only at a0 a1 a2 b0 b1 b2
  go_wp2_with fail
  refine (check_ok 5 _).mono ?_
  rintro e w' ⟨rfl, rfl⟩
  go_wp2_with fail
  refine (wants_any op (by omega) (by omega) _).mono ?_
  rintro e w' ⟨rfl, rfl⟩
  go_wp2_with fail
  refine (check_ok 35 _).mono ?_
  rintro e w' ⟨rfl, rfl⟩
  go_wp2
  refine val_ret rfl w.heap.size _ _ _ rfl (put3_blk HX.out _ _ _) rfl ?_
  exact ⟨below_put3 HB.out (Nat.le_refl _) _ _ _, rfl⟩
set_option maxRecDepth 100000 in
theorem bin_C_n (op : Int) (h3 : 3 ≤ op) (h16 : op ≤ 16) (h4 : ¬ op ≤ 4) (h10 : op ≤ 10) (ka : Int) (hk : (ka == 0) = false) (i j : Int) (s t : List UInt8) (po pa pb : Nat) (w : World) (h : BinW w po pa pb op ⟨ka, i, s⟩ ⟨0, j, t⟩) :
    Calls Tryz.prog 41 #[.pointer (some ⟨po, 0, none⟩), .pointer (some ⟨pa, 0, none⟩), .pointer (some ⟨pb, 0, none⟩)] w (EvR (.ok vNull) w) := by
  have HW := Asd.mk h
  have HX := Asd.mk (blk_new w zeroV)
  have HB : Asd (Below w.heap.size w (w.alloc zeroV)) := Asd.mk (below_alloc (Below.refl _ _) _)
  clear h
  go_enter Tryz.func41, Tryz.ntmps41
  go_upto_region 1 with fail
  generalize w.alloc _ = w1 at HX HB ⊢
  have HW1 := Asd.mk (HW.out.below HB.out)
  have o0 := (blk_cell HW1.out.o 0).trans rfl
  obtain ⟨a0, a1, a2⟩ := val_cells HW1.out.a
  obtain ⟨b0, b1, b2⟩ := val_cells HW1.out.b
  obtain ⟨⟨x0, x1, x2⟩, y0, y1, y2⟩ := zero_cells HX.out
  simp only at a0 a1 a2 b0 b1 b2
  go_wp2_with fail
  refine (check_ok 5 _).mono ?_
  rintro e w' ⟨rfl, rfl⟩
  go_wp2_with fail
  refine (wants_any op (by omega) (by omega) _).mono ?_
  rintro e w' ⟨rfl, rfl⟩
  go_wp2_with fail
  refine (check_ok 35 _).mono ?_
  rintro e w' ⟨rfl, rfl⟩
  go_wp2
  refine val_ret rfl w.heap.size _ _ _ rfl (put3_blk HX.out _ _ _) rfl ?_
  exact ⟨below_put3 HB.out (Nat.le_refl _) _ _ _, rfl⟩
set_option maxRecDepth 100000 in
theorem bin_C_no (op : Int) (h3 : 3 ≤ op) (h16 : op ≤ 16) (h4 : ¬ op ≤ 4) (h10 : op ≤ 10) (ka kb : Int) (ha : (ka == 0) = false) (hb : (kb == 0) = false) (hk : (ka == kb) = false) (i j : Int) (s t : List UInt8) (po pa pb : Nat) (w : World) (h : BinW w po pa pb op ⟨ka, i, s⟩ ⟨kb, j, t⟩) :
    Calls Tryz.prog 41 #[.pointer (some ⟨po, 0, none⟩), .pointer (some ⟨pa, 0, none⟩), .pointer (some ⟨pb, 0, none⟩)] w (EvR (.error 35) w) := by
  have HW := Asd.mk h
  have HX := Asd.mk (blk_new w zeroV)
  have HB : Asd (Below w.heap.size w (w.alloc zeroV)) := Asd.mk (below_alloc (Below.refl _ _) _)
  clear h
  go_enter Tryz.func41, Tryz.ntmps41
  go_upto_region 1 with fail
  generalize w.alloc _ = w1 at HX HB ⊢
  have HW1 := Asd.mk (HW.out.below HB.out)
  have o0 := (blk_cell HW1.out.o 0).trans rfl
  obtain ⟨a0, a1, a2⟩ := val_cells HW1.out.a
  obtain ⟨b0, b1, b2⟩ := val_cells HW1.out.b
  obtain ⟨⟨x0, x1, x2⟩, y0, y1, y2⟩ := zero_cells HX.out
  simp only at a0 a1 a2 b0 b1 b2
  go_wp2_with fail
  refine (check_ok 5 _).mono ?_
  rintro e w' ⟨rfl, rfl⟩
  go_wp2_with fail
  refine (wants_any op (by omega) (by omega) _).mono ?_
  rintro e w' ⟨rfl, rfl⟩
  go_wp2_with fail
  refine (check_no 35 _).mono ?_
  rintro e w' ⟨rfl, rfl⟩
  go_wp2
  exact ⟨rfl, HB.out, rfl⟩
set_option maxRecDepth 100000 in
theorem bin_C_yes (op : Int) (h3 : 3 ≤ op) (h16 : op ≤ 16) (h4 : ¬ op ≤ 4) (h10 : op ≤ 10) (k : Int) (hk : (k == 0) = false) (c : Int) (i j : Int) (s t : List UInt8) (HC : Asd (∀ W, Calls Tryz.prog 45 #[vC ⟨k, i, s⟩, vC ⟨k, j, t⟩] W fun e W' => e = .returned (.int .i64 c) ∧ Below W.heap.size W W')) (po pa pb : Nat) (w : World) (h : BinW w po pa pb op ⟨k, i, s⟩ ⟨k, j, t⟩) :
    Calls Tryz.prog 41 #[.pointer (some ⟨po, 0, none⟩), .pointer (some ⟨pa, 0, none⟩), .pointer (some ⟨pb, 0, none⟩)] w (EvR (.ok (vTru (holdP op c))) w) := by
  have HW := Asd.mk h
  have HX := Asd.mk (blk_new w zeroV)
  have HB : Asd (Below w.heap.size w (w.alloc zeroV)) := Asd.mk (below_alloc (Below.refl _ _) _)
  clear h
  go_enter Tryz.func41, Tryz.ntmps41
  go_upto_region 1 with fail
  generalize w.alloc _ = w1 at HX HB ⊢
  have HW1 := Asd.mk (HW.out.below HB.out)
  have o0 := (blk_cell HW1.out.o 0).trans rfl
  obtain ⟨a0, a1, a2⟩ := val_cells HW1.out.a
  obtain ⟨b0, b1, b2⟩ := val_cells HW1.out.b
  obtain ⟨⟨x0, x1, x2⟩, y0, y1, y2⟩ := zero_cells HX.out
  simp only at a0 a1 a2 b0 b1 b2
  go_wp2_with fail
  refine (check_ok 5 _).mono ?_
  rintro e w' ⟨rfl, rfl⟩
  go_wp2_with fail
  refine (wants_any op (by omega) (by omega) _).mono ?_
  rintro e w' ⟨rfl, rfl⟩
  go_wp2_with fail
  refine (check_ok 35 _).mono ?_
  rintro e w' ⟨rfl, rfl⟩
  go_upto_region 13 with fail
  clear x0 x1 x2 y0 y1 y2
  have HS : Asd (∀ w', Below w.heap.size w w' → w'.cell? ⟨po, 0, none⟩ = some (.int .i64 op) ∧ w'.cell? ⟨pa, 0, none⟩ = some (.int .i64 k) ∧ w'.cell? ⟨pa, 1, none⟩ = some (.int .i64 i) ∧ w'.cell? ⟨pa, 2, none⟩ = some (.string ⟨s.toArray⟩) ∧ w'.cell? ⟨pb, 0, none⟩ = some (.int .i64 k) ∧ w'.cell? ⟨pb, 1, none⟩ = some (.int .i64 j) ∧ w'.cell? ⟨pb, 2, none⟩ = some (.string ⟨t.toArray⟩) ∧ Below w.heap.size w w') := Asd.mk fun w' hb => by
    have h := HW.out.below hb
    obtain ⟨a0, a1, a2⟩ := val_cells h.a
    obtain ⟨b0, b1, b2⟩ := val_cells h.b
    exact ⟨(blk_cell h.o 0).trans rfl, a0, a1, a2, b0, b1, b2, hb⟩
  clear a0 a1 a2 b0 b1 b2 o0
  go_region_held3 (fun w' => w'.cell? ⟨po, 0, none⟩ = some (.int .i64 op) ∧ w'.cell? ⟨pa, 0, none⟩ = some (.int .i64 k) ∧ w'.cell? ⟨pa, 1, none⟩ = some (.int .i64 i) ∧ w'.cell? ⟨pa, 2, none⟩ = some (.string ⟨s.toArray⟩) ∧ w'.cell? ⟨pb, 0, none⟩ = some (.int .i64 k) ∧ w'.cell? ⟨pb, 1, none⟩ = some (.int .i64 j) ∧ w'.cell? ⟨pb, 2, none⟩ = some (.string ⟨t.toArray⟩) ∧ Below w.heap.size w w')
    (first
      | exact HS.out _ HB.out
      | exact HS.out _ HB.out.drew
      | exact HS.out _ HB2.out
      | exact HS.out _ HB3.out
      | exact HS.out _ HB4.out
      | exact HS.out _ (below_put3 HB3.out (Nat.le_refl _) _ _ _)
      | exact HS.out _ (below_put3 HB4.out (Nat.le_refl _) _ _ _)
      | (go_split_ands; exact HS.out _ (by assumption))
      | fail)
    (first
      | (go_at_call 45
         refine (HC.out _).mono ?_
         rintro e w2 ⟨rfl, hb2⟩
         have HB2 : Asd (Below w.heap.size w w2) := Asd.mk (HB.out.drew.trans (hb2.mono HB.out.drew.size))
         have HX2 := Asd.mk (blk_below hb2 (drewb HX.out)))
      | (go_at_call 44
         refine (compared_calls op c (by omega) h10 _).mono ?_
         rintro e w3 ⟨rfl, rfl⟩)
      | (go_at_call 39
         refine (truth_calls (holdP op c) _).mono ?_
         rintro e w4 ⟨rfl, hb4⟩
         have HB4 : Asd (Below w.heap.size w w4) := Asd.mk (HB2.out.trans (hb4.mono HB2.out.size))
         have HX4 := Asd.mk (blk_below hb4 HX2.out)
         obtain ⟨⟨x0, x1, x2⟩, y0, y1, y2⟩ := zero_cells HX4.out
         unfold vC)
      | fail)
  go_wp2
  refine val_ret rfl w.heap.size _ _ _ rfl (put3_blk HX4.out _ _ _) rfl ?_
  exact ⟨below_put3 HB4.out (Nat.le_refl _) _ _ _, rfl⟩
set_option maxRecDepth 100000 in
theorem bin_S_a (ka kb : Int) (h1 : (ka == 3) = false) (h0 : (ka == 0) = false) (i j : Int) (s t : List UInt8) (po pa pb : Nat) (w : World) (h : BinW w po pa pb 16 ⟨ka, i, s⟩ ⟨kb, j, t⟩) :
    Calls Tryz.prog 41 #[.pointer (some ⟨po, 0, none⟩), .pointer (some ⟨pa, 0, none⟩), .pointer (some ⟨pb, 0, none⟩)] w (EvR (.error 35) w) := by
  have HW := Asd.mk h
  have HX := Asd.mk (blk_new w zeroV)
  have HB : Asd (Below w.heap.size w (w.alloc zeroV)) := Asd.mk (below_alloc (Below.refl _ _) _)
  clear h
  go_enter Tryz.func41, Tryz.ntmps41
  go_upto_region 1 with fail
  generalize w.alloc _ = w1 at HX HB ⊢
  have HW1 := Asd.mk (HW.out.below HB.out)
  have o0 := (blk_cell HW1.out.o 0).trans rfl
  obtain ⟨a0, a1, a2⟩ := val_cells HW1.out.a
  obtain ⟨b0, b1, b2⟩ := val_cells HW1.out.b
  obtain ⟨⟨x0, x1, x2⟩, y0, y1, y2⟩ := zero_cells HX.out
  simp only at a0 a1 a2 b0 b1 b2
  go_wp2_with fail
  refine (check_ok 5 _).mono ?_
  rintro e w' ⟨rfl, rfl⟩
  go_wp2_with fail
  refine (wants_text _).mono ?_
  rintro e w' ⟨rfl, rfl⟩
  go_wp2_with fail
  refine (check_no 35 _).mono ?_
  rintro e w' ⟨rfl, rfl⟩
  go_wp2
  exact ⟨rfl, HB.out, rfl⟩
set_option maxRecDepth 100000 in
theorem bin_S_b0 (kb : Int) (h1 : (kb == 3) = false) (h0 : (kb == 0) = false) (i j : Int) (s t : List UInt8) (po pa pb : Nat) (w : World) (h : BinW w po pa pb 16 ⟨0, i, s⟩ ⟨kb, j, t⟩) :
    Calls Tryz.prog 41 #[.pointer (some ⟨po, 0, none⟩), .pointer (some ⟨pa, 0, none⟩), .pointer (some ⟨pb, 0, none⟩)] w (EvR (.error 35) w) := by
  have HW := Asd.mk h
  have HX := Asd.mk (blk_new w zeroV)
  have HB : Asd (Below w.heap.size w (w.alloc zeroV)) := Asd.mk (below_alloc (Below.refl _ _) _)
  clear h
  go_enter Tryz.func41, Tryz.ntmps41
  go_upto_region 1 with fail
  generalize w.alloc _ = w1 at HX HB ⊢
  have HW1 := Asd.mk (HW.out.below HB.out)
  have o0 := (blk_cell HW1.out.o 0).trans rfl
  obtain ⟨a0, a1, a2⟩ := val_cells HW1.out.a
  obtain ⟨b0, b1, b2⟩ := val_cells HW1.out.b
  obtain ⟨⟨x0, x1, x2⟩, y0, y1, y2⟩ := zero_cells HX.out
  simp only at a0 a1 a2 b0 b1 b2
  go_wp2_with fail
  refine (check_ok 5 _).mono ?_
  rintro e w' ⟨rfl, rfl⟩
  go_wp2_with fail
  refine (wants_text _).mono ?_
  rintro e w' ⟨rfl, rfl⟩
  go_wp2_with fail
  refine (check_ok 35 _).mono ?_
  rintro e w' ⟨rfl, rfl⟩
  go_wp2_with fail
  refine (check_no 35 _).mono ?_
  rintro e w' ⟨rfl, rfl⟩
  go_wp2
  exact ⟨rfl, HB.out, rfl⟩
set_option maxRecDepth 100000 in
theorem bin_S_00 (i j : Int) (s t : List UInt8) (po pa pb : Nat) (w : World) (h : BinW w po pa pb 16 ⟨0, i, s⟩ ⟨0, j, t⟩) :
    Calls Tryz.prog 41 #[.pointer (some ⟨po, 0, none⟩), .pointer (some ⟨pa, 0, none⟩), .pointer (some ⟨pb, 0, none⟩)] w (EvR (.ok vNull) w) := by
  have HW := Asd.mk h
  have HX := Asd.mk (blk_new w zeroV)
  have HB : Asd (Below w.heap.size w (w.alloc zeroV)) := Asd.mk (below_alloc (Below.refl _ _) _)
  clear h
  go_enter Tryz.func41, Tryz.ntmps41
  go_upto_region 1 with fail
  generalize w.alloc _ = w1 at HX HB ⊢
  have HW1 := Asd.mk (HW.out.below HB.out)
  have o0 := (blk_cell HW1.out.o 0).trans rfl
  obtain ⟨a0, a1, a2⟩ := val_cells HW1.out.a
  obtain ⟨b0, b1, b2⟩ := val_cells HW1.out.b
  obtain ⟨⟨x0, x1, x2⟩, y0, y1, y2⟩ := zero_cells HX.out
  simp only at a0 a1 a2 b0 b1 b2
  go_wp2_with fail
  refine (check_ok 5 _).mono ?_
  rintro e w' ⟨rfl, rfl⟩
  go_wp2_with fail
  refine (wants_text _).mono ?_
  rintro e w' ⟨rfl, rfl⟩
  go_wp2_with fail
  refine (check_ok 35 _).mono ?_
  rintro e w' ⟨rfl, rfl⟩
  go_wp2_with fail
  refine (check_ok 35 _).mono ?_
  rintro e w' ⟨rfl, rfl⟩
  go_wp2
  refine val_ret rfl w.heap.size _ _ _ rfl (put3_blk HX.out _ _ _) rfl ?_
  exact ⟨below_put3 HB.out (Nat.le_refl _) _ _ _, rfl⟩
set_option maxRecDepth 100000 in
theorem bin_S_03 (i j : Int) (s t : List UInt8) (po pa pb : Nat) (w : World) (h : BinW w po pa pb 16 ⟨0, i, s⟩ ⟨3, j, t⟩) :
    Calls Tryz.prog 41 #[.pointer (some ⟨po, 0, none⟩), .pointer (some ⟨pa, 0, none⟩), .pointer (some ⟨pb, 0, none⟩)] w (EvR (.ok vNull) w) := by
  have HW := Asd.mk h
  have HX := Asd.mk (blk_new w zeroV)
  have HB : Asd (Below w.heap.size w (w.alloc zeroV)) := Asd.mk (below_alloc (Below.refl _ _) _)
  clear h
  go_enter Tryz.func41, Tryz.ntmps41
  go_upto_region 1 with fail
  generalize w.alloc _ = w1 at HX HB ⊢
  have HW1 := Asd.mk (HW.out.below HB.out)
  have o0 := (blk_cell HW1.out.o 0).trans rfl
  obtain ⟨a0, a1, a2⟩ := val_cells HW1.out.a
  obtain ⟨b0, b1, b2⟩ := val_cells HW1.out.b
  obtain ⟨⟨x0, x1, x2⟩, y0, y1, y2⟩ := zero_cells HX.out
  simp only at a0 a1 a2 b0 b1 b2
  go_wp2_with fail
  refine (check_ok 5 _).mono ?_
  rintro e w' ⟨rfl, rfl⟩
  go_wp2_with fail
  refine (wants_text _).mono ?_
  rintro e w' ⟨rfl, rfl⟩
  go_wp2_with fail
  refine (check_ok 35 _).mono ?_
  rintro e w' ⟨rfl, rfl⟩
  go_wp2_with fail
  refine (check_ok 35 _).mono ?_
  rintro e w' ⟨rfl, rfl⟩
  go_wp2
  refine val_ret rfl w.heap.size _ _ _ rfl (put3_blk HX.out _ _ _) rfl ?_
  exact ⟨below_put3 HB.out (Nat.le_refl _) _ _ _, rfl⟩
set_option maxRecDepth 100000 in
theorem bin_S_b3 (kb : Int) (h1 : (kb == 3) = false) (h0 : (kb == 0) = false) (i j : Int) (s t : List UInt8) (po pa pb : Nat) (w : World) (h : BinW w po pa pb 16 ⟨3, i, s⟩ ⟨kb, j, t⟩) :
    Calls Tryz.prog 41 #[.pointer (some ⟨po, 0, none⟩), .pointer (some ⟨pa, 0, none⟩), .pointer (some ⟨pb, 0, none⟩)] w (EvR (.error 35) w) := by
  have HW := Asd.mk h
  have HX := Asd.mk (blk_new w zeroV)
  have HB : Asd (Below w.heap.size w (w.alloc zeroV)) := Asd.mk (below_alloc (Below.refl _ _) _)
  clear h
  go_enter Tryz.func41, Tryz.ntmps41
  go_upto_region 1 with fail
  generalize w.alloc _ = w1 at HX HB ⊢
  have HW1 := Asd.mk (HW.out.below HB.out)
  have o0 := (blk_cell HW1.out.o 0).trans rfl
  obtain ⟨a0, a1, a2⟩ := val_cells HW1.out.a
  obtain ⟨b0, b1, b2⟩ := val_cells HW1.out.b
  obtain ⟨⟨x0, x1, x2⟩, y0, y1, y2⟩ := zero_cells HX.out
  simp only at a0 a1 a2 b0 b1 b2
  go_wp2_with fail
  refine (check_ok 5 _).mono ?_
  rintro e w' ⟨rfl, rfl⟩
  go_wp2_with fail
  refine (wants_text _).mono ?_
  rintro e w' ⟨rfl, rfl⟩
  go_wp2_with fail
  refine (check_ok 35 _).mono ?_
  rintro e w' ⟨rfl, rfl⟩
  go_wp2_with fail
  refine (check_no 35 _).mono ?_
  rintro e w' ⟨rfl, rfl⟩
  go_wp2
  exact ⟨rfl, HB.out, rfl⟩
set_option maxRecDepth 100000 in
theorem bin_S_30 (i j : Int) (s t : List UInt8) (po pa pb : Nat) (w : World) (h : BinW w po pa pb 16 ⟨3, i, s⟩ ⟨0, j, t⟩) :
    Calls Tryz.prog 41 #[.pointer (some ⟨po, 0, none⟩), .pointer (some ⟨pa, 0, none⟩), .pointer (some ⟨pb, 0, none⟩)] w (EvR (.ok vNull) w) := by
  have HW := Asd.mk h
  have HX := Asd.mk (blk_new w zeroV)
  have HB : Asd (Below w.heap.size w (w.alloc zeroV)) := Asd.mk (below_alloc (Below.refl _ _) _)
  clear h
  go_enter Tryz.func41, Tryz.ntmps41
  go_upto_region 1 with fail
  generalize w.alloc _ = w1 at HX HB ⊢
  have HW1 := Asd.mk (HW.out.below HB.out)
  have o0 := (blk_cell HW1.out.o 0).trans rfl
  obtain ⟨a0, a1, a2⟩ := val_cells HW1.out.a
  obtain ⟨b0, b1, b2⟩ := val_cells HW1.out.b
  obtain ⟨⟨x0, x1, x2⟩, y0, y1, y2⟩ := zero_cells HX.out
  simp only at a0 a1 a2 b0 b1 b2
  go_wp2_with fail
  refine (check_ok 5 _).mono ?_
  rintro e w' ⟨rfl, rfl⟩
  go_wp2_with fail
  refine (wants_text _).mono ?_
  rintro e w' ⟨rfl, rfl⟩
  go_wp2_with fail
  refine (check_ok 35 _).mono ?_
  rintro e w' ⟨rfl, rfl⟩
  go_wp2_with fail
  refine (check_ok 35 _).mono ?_
  rintro e w' ⟨rfl, rfl⟩
  go_wp2
  refine val_ret rfl w.heap.size _ _ _ rfl (put3_blk HX.out _ _ _) rfl ?_
  exact ⟨below_put3 HB.out (Nat.le_refl _) _ _ _, rfl⟩
set_option maxRecDepth 100000 in
theorem bin_A_a (op : Int) (h3 : 3 ≤ op) (h16 : op ≤ 16) (h4 : ¬ op ≤ 4) (h10 : ¬ op ≤ 10) (h6 : ¬ op = 16) (ka kb : Int) (h1 : (ka == 2) = false) (h0 : (ka == 0) = false) (i j : Int) (s t : List UInt8) (po pa pb : Nat) (w : World) (h : BinW w po pa pb op ⟨ka, i, s⟩ ⟨kb, j, t⟩) :
    Calls Tryz.prog 41 #[.pointer (some ⟨po, 0, none⟩), .pointer (some ⟨pa, 0, none⟩), .pointer (some ⟨pb, 0, none⟩)] w (EvR (.error 35) w) := by
  have HW := Asd.mk h
  have HX := Asd.mk (blk_new w zeroV)
  have HB : Asd (Below w.heap.size w (w.alloc zeroV)) := Asd.mk (below_alloc (Below.refl _ _) _)
  clear h
  go_enter Tryz.func41, Tryz.ntmps41
  go_upto_region 1 with fail
  generalize w.alloc _ = w1 at HX HB ⊢
  have HW1 := Asd.mk (HW.out.below HB.out)
  have o0 := (blk_cell HW1.out.o 0).trans rfl
  obtain ⟨a0, a1, a2⟩ := val_cells HW1.out.a
  obtain ⟨b0, b1, b2⟩ := val_cells HW1.out.b
  obtain ⟨⟨x0, x1, x2⟩, y0, y1, y2⟩ := zero_cells HX.out
  simp only at a0 a1 a2 b0 b1 b2
  go_wp2_with fail
  refine (check_ok 5 _).mono ?_
  rintro e w' ⟨rfl, rfl⟩
  go_wp2_with fail
  refine (wants_int op (by omega) (by omega) h6 _).mono ?_
  rintro e w' ⟨rfl, rfl⟩
  go_wp2_with fail
  refine (check_no 35 _).mono ?_
  rintro e w' ⟨rfl, rfl⟩
  go_wp2
  exact ⟨rfl, HB.out, rfl⟩
set_option maxRecDepth 100000 in
theorem bin_A_b0 (op : Int) (h3 : 3 ≤ op) (h16 : op ≤ 16) (h4 : ¬ op ≤ 4) (h10 : ¬ op ≤ 10) (h6 : ¬ op = 16) (kb : Int) (h1 : (kb == 2) = false) (h0 : (kb == 0) = false) (i j : Int) (s t : List UInt8) (po pa pb : Nat) (w : World) (h : BinW w po pa pb op ⟨0, i, s⟩ ⟨kb, j, t⟩) :
    Calls Tryz.prog 41 #[.pointer (some ⟨po, 0, none⟩), .pointer (some ⟨pa, 0, none⟩), .pointer (some ⟨pb, 0, none⟩)] w (EvR (.error 35) w) := by
  have HW := Asd.mk h
  have HX := Asd.mk (blk_new w zeroV)
  have HB : Asd (Below w.heap.size w (w.alloc zeroV)) := Asd.mk (below_alloc (Below.refl _ _) _)
  clear h
  go_enter Tryz.func41, Tryz.ntmps41
  go_upto_region 1 with fail
  generalize w.alloc _ = w1 at HX HB ⊢
  have HW1 := Asd.mk (HW.out.below HB.out)
  have o0 := (blk_cell HW1.out.o 0).trans rfl
  obtain ⟨a0, a1, a2⟩ := val_cells HW1.out.a
  obtain ⟨b0, b1, b2⟩ := val_cells HW1.out.b
  obtain ⟨⟨x0, x1, x2⟩, y0, y1, y2⟩ := zero_cells HX.out
  simp only at a0 a1 a2 b0 b1 b2
  go_wp2_with fail
  refine (check_ok 5 _).mono ?_
  rintro e w' ⟨rfl, rfl⟩
  go_wp2_with fail
  refine (wants_int op (by omega) (by omega) h6 _).mono ?_
  rintro e w' ⟨rfl, rfl⟩
  go_wp2_with fail
  refine (check_ok 35 _).mono ?_
  rintro e w' ⟨rfl, rfl⟩
  go_wp2_with fail
  refine (check_no 35 _).mono ?_
  rintro e w' ⟨rfl, rfl⟩
  go_wp2
  exact ⟨rfl, HB.out, rfl⟩
set_option maxRecDepth 100000 in
theorem bin_A_00 (op : Int) (h3 : 3 ≤ op) (h16 : op ≤ 16) (h4 : ¬ op ≤ 4) (h10 : ¬ op ≤ 10) (h6 : ¬ op = 16) (i j : Int) (s t : List UInt8) (po pa pb : Nat) (w : World) (h : BinW w po pa pb op ⟨0, i, s⟩ ⟨0, j, t⟩) :
    Calls Tryz.prog 41 #[.pointer (some ⟨po, 0, none⟩), .pointer (some ⟨pa, 0, none⟩), .pointer (some ⟨pb, 0, none⟩)] w (EvR (.ok vNull) w) := by
  have HW := Asd.mk h
  have HX := Asd.mk (blk_new w zeroV)
  have HB : Asd (Below w.heap.size w (w.alloc zeroV)) := Asd.mk (below_alloc (Below.refl _ _) _)
  clear h
  go_enter Tryz.func41, Tryz.ntmps41
  go_upto_region 1 with fail
  generalize w.alloc _ = w1 at HX HB ⊢
  have HW1 := Asd.mk (HW.out.below HB.out)
  have o0 := (blk_cell HW1.out.o 0).trans rfl
  obtain ⟨a0, a1, a2⟩ := val_cells HW1.out.a
  obtain ⟨b0, b1, b2⟩ := val_cells HW1.out.b
  obtain ⟨⟨x0, x1, x2⟩, y0, y1, y2⟩ := zero_cells HX.out
  simp only at a0 a1 a2 b0 b1 b2
  go_wp2_with fail
  refine (check_ok 5 _).mono ?_
  rintro e w' ⟨rfl, rfl⟩
  go_wp2_with fail
  refine (wants_int op (by omega) (by omega) h6 _).mono ?_
  rintro e w' ⟨rfl, rfl⟩
  go_wp2_with fail
  refine (check_ok 35 _).mono ?_
  rintro e w' ⟨rfl, rfl⟩
  go_wp2_with fail
  refine (check_ok 35 _).mono ?_
  rintro e w' ⟨rfl, rfl⟩
  go_wp2
  refine val_ret rfl w.heap.size _ _ _ rfl (put3_blk HX.out _ _ _) rfl ?_
  exact ⟨below_put3 HB.out (Nat.le_refl _) _ _ _, rfl⟩
set_option maxRecDepth 100000 in
theorem bin_A_02 (op : Int) (h3 : 3 ≤ op) (h16 : op ≤ 16) (h4 : ¬ op ≤ 4) (h10 : ¬ op ≤ 10) (h6 : ¬ op = 16) (i j : Int) (s t : List UInt8) (po pa pb : Nat) (w : World) (h : BinW w po pa pb op ⟨0, i, s⟩ ⟨2, j, t⟩) :
    Calls Tryz.prog 41 #[.pointer (some ⟨po, 0, none⟩), .pointer (some ⟨pa, 0, none⟩), .pointer (some ⟨pb, 0, none⟩)] w (EvR (.ok vNull) w) := by
  have HW := Asd.mk h
  have HX := Asd.mk (blk_new w zeroV)
  have HB : Asd (Below w.heap.size w (w.alloc zeroV)) := Asd.mk (below_alloc (Below.refl _ _) _)
  clear h
  go_enter Tryz.func41, Tryz.ntmps41
  go_upto_region 1 with fail
  generalize w.alloc _ = w1 at HX HB ⊢
  have HW1 := Asd.mk (HW.out.below HB.out)
  have o0 := (blk_cell HW1.out.o 0).trans rfl
  obtain ⟨a0, a1, a2⟩ := val_cells HW1.out.a
  obtain ⟨b0, b1, b2⟩ := val_cells HW1.out.b
  obtain ⟨⟨x0, x1, x2⟩, y0, y1, y2⟩ := zero_cells HX.out
  simp only at a0 a1 a2 b0 b1 b2
  go_wp2_with fail
  refine (check_ok 5 _).mono ?_
  rintro e w' ⟨rfl, rfl⟩
  go_wp2_with fail
  refine (wants_int op (by omega) (by omega) h6 _).mono ?_
  rintro e w' ⟨rfl, rfl⟩
  go_wp2_with fail
  refine (check_ok 35 _).mono ?_
  rintro e w' ⟨rfl, rfl⟩
  go_wp2_with fail
  refine (check_ok 35 _).mono ?_
  rintro e w' ⟨rfl, rfl⟩
  go_wp2
  refine val_ret rfl w.heap.size _ _ _ rfl (put3_blk HX.out _ _ _) rfl ?_
  exact ⟨below_put3 HB.out (Nat.le_refl _) _ _ _, rfl⟩
set_option maxRecDepth 100000 in
theorem bin_A_b2 (op : Int) (h3 : 3 ≤ op) (h16 : op ≤ 16) (h4 : ¬ op ≤ 4) (h10 : ¬ op ≤ 10) (h6 : ¬ op = 16) (kb : Int) (h1 : (kb == 2) = false) (h0 : (kb == 0) = false) (i j : Int) (s t : List UInt8) (po pa pb : Nat) (w : World) (h : BinW w po pa pb op ⟨2, i, s⟩ ⟨kb, j, t⟩) :
    Calls Tryz.prog 41 #[.pointer (some ⟨po, 0, none⟩), .pointer (some ⟨pa, 0, none⟩), .pointer (some ⟨pb, 0, none⟩)] w (EvR (.error 35) w) := by
  have HW := Asd.mk h
  have HX := Asd.mk (blk_new w zeroV)
  have HB : Asd (Below w.heap.size w (w.alloc zeroV)) := Asd.mk (below_alloc (Below.refl _ _) _)
  clear h
  go_enter Tryz.func41, Tryz.ntmps41
  go_upto_region 1 with fail
  generalize w.alloc _ = w1 at HX HB ⊢
  have HW1 := Asd.mk (HW.out.below HB.out)
  have o0 := (blk_cell HW1.out.o 0).trans rfl
  obtain ⟨a0, a1, a2⟩ := val_cells HW1.out.a
  obtain ⟨b0, b1, b2⟩ := val_cells HW1.out.b
  obtain ⟨⟨x0, x1, x2⟩, y0, y1, y2⟩ := zero_cells HX.out
  simp only at a0 a1 a2 b0 b1 b2
  go_wp2_with fail
  refine (check_ok 5 _).mono ?_
  rintro e w' ⟨rfl, rfl⟩
  go_wp2_with fail
  refine (wants_int op (by omega) (by omega) h6 _).mono ?_
  rintro e w' ⟨rfl, rfl⟩
  go_wp2_with fail
  refine (check_ok 35 _).mono ?_
  rintro e w' ⟨rfl, rfl⟩
  go_wp2_with fail
  refine (check_no 35 _).mono ?_
  rintro e w' ⟨rfl, rfl⟩
  go_wp2
  exact ⟨rfl, HB.out, rfl⟩
set_option maxRecDepth 100000 in
theorem bin_A_20 (op : Int) (h3 : 3 ≤ op) (h16 : op ≤ 16) (h4 : ¬ op ≤ 4) (h10 : ¬ op ≤ 10) (h6 : ¬ op = 16) (i j : Int) (s t : List UInt8) (po pa pb : Nat) (w : World) (h : BinW w po pa pb op ⟨2, i, s⟩ ⟨0, j, t⟩) :
    Calls Tryz.prog 41 #[.pointer (some ⟨po, 0, none⟩), .pointer (some ⟨pa, 0, none⟩), .pointer (some ⟨pb, 0, none⟩)] w (EvR (.ok vNull) w) := by
  have HW := Asd.mk h
  have HX := Asd.mk (blk_new w zeroV)
  have HB : Asd (Below w.heap.size w (w.alloc zeroV)) := Asd.mk (below_alloc (Below.refl _ _) _)
  clear h
  go_enter Tryz.func41, Tryz.ntmps41
  go_upto_region 1 with fail
  generalize w.alloc _ = w1 at HX HB ⊢
  have HW1 := Asd.mk (HW.out.below HB.out)
  have o0 := (blk_cell HW1.out.o 0).trans rfl
  obtain ⟨a0, a1, a2⟩ := val_cells HW1.out.a
  obtain ⟨b0, b1, b2⟩ := val_cells HW1.out.b
  obtain ⟨⟨x0, x1, x2⟩, y0, y1, y2⟩ := zero_cells HX.out
  simp only at a0 a1 a2 b0 b1 b2
  go_wp2_with fail
  refine (check_ok 5 _).mono ?_
  rintro e w' ⟨rfl, rfl⟩
  go_wp2_with fail
  refine (wants_int op (by omega) (by omega) h6 _).mono ?_
  rintro e w' ⟨rfl, rfl⟩
  go_wp2_with fail
  refine (check_ok 35 _).mono ?_
  rintro e w' ⟨rfl, rfl⟩
  go_wp2_with fail
  refine (check_ok 35 _).mono ?_
  rintro e w' ⟨rfl, rfl⟩
  go_wp2
  refine val_ret rfl w.heap.size _ _ _ rfl (put3_blk HX.out _ _ _) rfl ?_
  exact ⟨below_put3 HB.out (Nat.le_refl _) _ _ _, rfl⟩
set_option maxRecDepth 100000 in
theorem bin_S_ok (i j : Int) (s t : List UInt8) (hl : s.length + t.length ≤ 2048) (hd : decide ((s.length : Int) + (t.length : Int) ≤ 2048) = true) (po pa pb : Nat) (w : World) (h : BinW w po pa pb 16 ⟨3, i, s⟩ ⟨3, j, t⟩) :
    Calls Tryz.prog 41 #[.pointer (some ⟨po, 0, none⟩), .pointer (some ⟨pa, 0, none⟩), .pointer (some ⟨pb, 0, none⟩)] w (EvR (.ok (vTxt (s ++ t))) w) := by
  have HW := Asd.mk h
  have HX := Asd.mk (blk_new w zeroV)
  have HB : Asd (Below w.heap.size w (w.alloc zeroV)) := Asd.mk (below_alloc (Below.refl _ _) _)
  clear h
  go_enter Tryz.func41, Tryz.ntmps41
  go_upto_region 1 with fail
  generalize w.alloc _ = w1 at HX HB ⊢
  have HW1 := Asd.mk (HW.out.below HB.out)
  have o0 := (blk_cell HW1.out.o 0).trans rfl
  obtain ⟨a0, a1, a2⟩ := val_cells HW1.out.a
  obtain ⟨b0, b1, b2⟩ := val_cells HW1.out.b
  obtain ⟨⟨x0, x1, x2⟩, y0, y1, y2⟩ := zero_cells HX.out
  simp only at a0 a1 a2 b0 b1 b2
  go_wp2_with fail
  refine (check_ok 5 _).mono ?_
  rintro e w' ⟨rfl, rfl⟩
  go_wp2_with fail
  refine (wants_text _).mono ?_
  rintro e w' ⟨rfl, rfl⟩
  go_wp2_with fail
  refine (check_ok 35 _).mono ?_
  rintro e w' ⟨rfl, rfl⟩
  go_wp2_with fail
  refine (check_ok 35 _).mono ?_
  rintro e w' ⟨rfl, rfl⟩
  have hs : (⟨s.toArray⟩ : ByteArray).size = s.length := rfl
  have ht : (⟨t.toArray⟩ : ByteArray).size = t.length := rfl
  go_wp2_with fail
  refine (check_ok 8 _).mono ?_
  rintro e w' ⟨rfl, rfl⟩
  go_wp2_with fail
  rw [bcat]
  refine (text_calls (s ++ t) _).mono ?_
  rintro e w2 ⟨rfl, hb2⟩
  have HX2 := Asd.mk (blk_below hb2 HX.out)
  have HB2 : Asd (Below w.heap.size w w2) := Asd.mk (HB.out.trans (hb2.mono HB.out.size))
  clear x0 x1 x2 y0 y1 y2 a0 a1 a2 b0 b1 b2 o0 hb2
  obtain ⟨⟨x0, x1, x2⟩, y0, y1, y2⟩ := zero_cells HX2.out
  unfold vC
  go_wp2
  refine val_ret rfl w.heap.size _ _ _ rfl (put3_blk HX2.out _ _ _) rfl ?_
  exact ⟨below_put3 HB2.out (Nat.le_refl _) _ _ _, rfl⟩
set_option maxRecDepth 100000 in
theorem bin_S_long (i j : Int) (s t : List UInt8) (hd : decide (wrap64 ((s.length : Int) + (t.length : Int)) ≤ 2048) = false) (po pa pb : Nat) (w : World) (h : BinW w po pa pb 16 ⟨3, i, s⟩ ⟨3, j, t⟩) :
    Calls Tryz.prog 41 #[.pointer (some ⟨po, 0, none⟩), .pointer (some ⟨pa, 0, none⟩), .pointer (some ⟨pb, 0, none⟩)] w (EvR (.error 8) w) := by
  have HW := Asd.mk h
  have HX := Asd.mk (blk_new w zeroV)
  have HB : Asd (Below w.heap.size w (w.alloc zeroV)) := Asd.mk (below_alloc (Below.refl _ _) _)
  clear h
  go_enter Tryz.func41, Tryz.ntmps41
  go_upto_region 1 with fail
  generalize w.alloc _ = w1 at HX HB ⊢
  have HW1 := Asd.mk (HW.out.below HB.out)
  have o0 := (blk_cell HW1.out.o 0).trans rfl
  obtain ⟨a0, a1, a2⟩ := val_cells HW1.out.a
  obtain ⟨b0, b1, b2⟩ := val_cells HW1.out.b
  obtain ⟨⟨x0, x1, x2⟩, y0, y1, y2⟩ := zero_cells HX.out
  simp only at a0 a1 a2 b0 b1 b2
  go_wp2_with fail
  refine (check_ok 5 _).mono ?_
  rintro e w' ⟨rfl, rfl⟩
  go_wp2_with fail
  refine (wants_text _).mono ?_
  rintro e w' ⟨rfl, rfl⟩
  go_wp2_with fail
  refine (check_ok 35 _).mono ?_
  rintro e w' ⟨rfl, rfl⟩
  go_wp2_with fail
  refine (check_ok 35 _).mono ?_
  rintro e w' ⟨rfl, rfl⟩
  have hs : (⟨s.toArray⟩ : ByteArray).size = s.length := rfl
  have ht : (⟨t.toArray⟩ : ByteArray).size = t.length := rfl
  go_wp2_with fail
  refine (check_no 8 _).mono ?_
  rintro e w' ⟨rfl, rfl⟩
  go_wp2
  exact ⟨rfl, HB.out, rfl⟩
set_option maxRecDepth 100000 in
theorem bin_A_ok (op : Int) (h3 : 3 ≤ op) (h16 : op ≤ 16) (h4 : ¬ op ≤ 4) (h10 : ¬ op ≤ 10) (h6 : ¬ op = 16) (z : Int) (i j : Int) (s t : List UInt8) (HC : Asd (∀ W, Calls Tryz.prog 47 #[.int .i64 op, .int .i64 i, .int .i64 j] W fun e W' => e = .returned (.int .i64 z) ∧ W' = W)) (po pa pb : Nat) (w : World) (h : BinW w po pa pb op ⟨2, i, s⟩ ⟨2, j, t⟩) :
    Calls Tryz.prog 41 #[.pointer (some ⟨po, 0, none⟩), .pointer (some ⟨pa, 0, none⟩), .pointer (some ⟨pb, 0, none⟩)] w (EvR (.ok (vNum z)) w) := by
  have HW := Asd.mk h
  have HX := Asd.mk (blk_new w zeroV)
  have HB : Asd (Below w.heap.size w (w.alloc zeroV)) := Asd.mk (below_alloc (Below.refl _ _) _)
  clear h
  go_enter Tryz.func41, Tryz.ntmps41
  go_upto_region 1 with fail
  generalize w.alloc _ = w1 at HX HB ⊢
  have HW1 := Asd.mk (HW.out.below HB.out)
  have o0 := (blk_cell HW1.out.o 0).trans rfl
  obtain ⟨a0, a1, a2⟩ := val_cells HW1.out.a
  obtain ⟨b0, b1, b2⟩ := val_cells HW1.out.b
  obtain ⟨⟨x0, x1, x2⟩, y0, y1, y2⟩ := zero_cells HX.out
  simp only at a0 a1 a2 b0 b1 b2
  go_wp2_with fail
  refine (check_ok 5 _).mono ?_
  rintro e w' ⟨rfl, rfl⟩
  go_wp2_with fail
  refine (wants_int op (by omega) (by omega) h6 _).mono ?_
  rintro e w' ⟨rfl, rfl⟩
  go_wp2_with fail
  refine (check_ok 35 _).mono ?_
  rintro e w' ⟨rfl, rfl⟩
  go_wp2_with fail
  refine (check_ok 35 _).mono ?_
  rintro e w' ⟨rfl, rfl⟩
  go_wp2_with fail
  refine (HC.out _).mono ?_
  rintro e w' ⟨rfl, rfl⟩
  go_wp2_with fail
  refine (number_calls z _).mono ?_
  rintro e w2 ⟨rfl, hb2⟩
  have HX2 := Asd.mk (blk_below hb2 HX.out)
  have HB2 : Asd (Below w.heap.size w w2) := Asd.mk (HB.out.trans (hb2.mono HB.out.size))
  clear x0 x1 x2 y0 y1 y2 a0 a1 a2 b0 b1 b2 o0 hb2
  obtain ⟨⟨x0, x1, x2⟩, y0, y1, y2⟩ := zero_cells HX2.out
  unfold vC
  go_wp2
  refine val_ret rfl w.heap.size _ _ _ rfl (put3_blk HX2.out _ _ _) rfl ?_
  exact ⟨below_put3 HB2.out (Nat.le_refl _) _ _ _, rfl⟩
set_option maxRecDepth 100000 in
theorem bin_A_no (op : Int) (h3 : 3 ≤ op) (h16 : op ≤ 16) (h4 : ¬ op ≤ 4) (h10 : ¬ op ≤ 10) (h6 : ¬ op = 16) (n : Int) (i j : Int) (s t : List UInt8) (HC : Asd (∀ W, Calls Tryz.prog 47 #[.int .i64 op, .int .i64 i, .int .i64 j] W fun e W' => e = errP n ∧ W' = W)) (po pa pb : Nat) (w : World) (h : BinW w po pa pb op ⟨2, i, s⟩ ⟨2, j, t⟩) :
    Calls Tryz.prog 41 #[.pointer (some ⟨po, 0, none⟩), .pointer (some ⟨pa, 0, none⟩), .pointer (some ⟨pb, 0, none⟩)] w (EvR (.error n) w) := by
  have HW := Asd.mk h
  have HX := Asd.mk (blk_new w zeroV)
  have HB : Asd (Below w.heap.size w (w.alloc zeroV)) := Asd.mk (below_alloc (Below.refl _ _) _)
  clear h
  go_enter Tryz.func41, Tryz.ntmps41
  go_upto_region 1 with fail
  generalize w.alloc _ = w1 at HX HB ⊢
  have HW1 := Asd.mk (HW.out.below HB.out)
  have o0 := (blk_cell HW1.out.o 0).trans rfl
  obtain ⟨a0, a1, a2⟩ := val_cells HW1.out.a
  obtain ⟨b0, b1, b2⟩ := val_cells HW1.out.b
  obtain ⟨⟨x0, x1, x2⟩, y0, y1, y2⟩ := zero_cells HX.out
  simp only at a0 a1 a2 b0 b1 b2
  go_wp2_with fail
  refine (check_ok 5 _).mono ?_
  rintro e w' ⟨rfl, rfl⟩
  go_wp2_with fail
  refine (wants_int op (by omega) (by omega) h6 _).mono ?_
  rintro e w' ⟨rfl, rfl⟩
  go_wp2_with fail
  refine (check_ok 35 _).mono ?_
  rintro e w' ⟨rfl, rfl⟩
  go_wp2_with fail
  refine (check_ok 35 _).mono ?_
  rintro e w' ⟨rfl, rfl⟩
  go_wp2_with fail
  refine (HC.out _).mono ?_
  rintro e w' ⟨rfl, rfl⟩
  go_wp2
  exact ⟨rfl, HB.out, rfl⟩
theorem len_sum (s t : List UInt8) (hs : s.length ≤ reachBytes) (ht : t.length ≤ reachBytes) : wrap64 ((s.length : Int) + (t.length : Int)) = ((s.length + t.length : Nat) : Int) := by
  have : reachBytes = 140737488351232 := rfl
  rw [IntWalk.wrap64_in _ (by omega)]
  omega
theorem rv_len {v : Vl} (h : RV v) : v.text.length ≤ reachBytes := by
  cases h with
  | null => exact Nat.zero_le _
  | bool b => exact Nat.zero_le _
  | num n h => exact Nat.zero_le _
  | text s h => exact h
  | blob s h => exact h
theorem rv_int {v : Vl} (h : RV v) : inI v.int := by
  cases h with
  | null => exact ⟨by decide, by decide⟩
  | bool b => cases b <;> exact ⟨by decide, by decide⟩
  | num n h => exact h
  | text s h => exact (show inI 0 by decide)
  | blob s h => exact (show inI 0 by decide)
theorem fit_or {k : Int} {v : Vl} (h : fitK k v = true) : v.kind = k ∨ v.kind = 0 := by
  unfold fitK at h
  simpa using h
theorem fit_not {k : Int} {v : Vl} (h : fitK k v = false) : (v.kind == k) = false ∧ (v.kind == 0) = false := by
  unfold fitK at h
  simpa using h
theorem bin_calls (op : Int) (h3 : 3 ≤ op) (h16 : op ≤ 16) (a b : Vl) (ha : RV a) (hb : RV b) (po pa pb : Nat) (w : World) (h : BinW w po pa pb op a b) :
    Calls Tryz.prog 41 #[.pointer (some ⟨po, 0, none⟩), .pointer (some ⟨pa, 0, none⟩), .pointer (some ⟨pb, 0, none⟩)] w (EvR (binP op a b) w) := by
  by_cases h4 : op ≤ 4
  · have e : binP op a b = if fitK 1 a && fitK 1 b then .ok (logicP (op == 3) a b) else .error 35 := by unfold binP; rw [if_pos h4]
    rw [e]
    cases hfa : fitK 1 a with
    | false =>
      obtain ⟨p1, p2⟩ := fit_not hfa
      rcases (show op = 3 ∨ op = 4 by omega) with rfl | rfl
      · exact bin_L3_a _ _ p1 p2 _ _ _ _ po pa pb w h
      · exact bin_L4_a _ _ p1 p2 _ _ _ _ po pa pb w h
    | true =>
      have ga := fit_or hfa
      cases hfb : fitK 1 b with
      | false =>
        obtain ⟨p1, p2⟩ := fit_not hfb
        obtain ⟨ka, i, s⟩ := a
        rcases (show op = 3 ∨ op = 4 by omega) with rfl | rfl
        · rcases ga with rfl | rfl
          · exact bin_L3_b1 _ p1 p2 _ _ _ _ po pa pb w h
          · exact bin_L3_b0 _ p1 p2 _ _ _ _ po pa pb w h
        · rcases ga with rfl | rfl
          · exact bin_L4_b1 _ p1 p2 _ _ _ _ po pa pb w h
          · exact bin_L4_b0 _ p1 p2 _ _ _ _ po pa pb w h
      | true =>
        have gb := fit_or hfb
        obtain ⟨ka, i, s⟩ := a
        obtain ⟨kb, j, t⟩ := b
        rcases (show op = 3 ∨ op = 4 by omega) with rfl | rfl
        · rcases ga with rfl | rfl
          · rcases gb with rfl | rfl
            · exact bin_L3_11 _ _ _ _ po pa pb w h
            · exact bin_L3_10 _ _ _ _ po pa pb w h
          · rcases gb with rfl | rfl
            · exact bin_L3_01 _ _ _ _ po pa pb w h
            · exact bin_L3_00 _ _ _ _ po pa pb w h
        · rcases ga with rfl | rfl
          · rcases gb with rfl | rfl
            · exact bin_L4_11 _ _ _ _ po pa pb w h
            · exact bin_L4_10 _ _ _ _ po pa pb w h
          · rcases gb with rfl | rfl
            · exact bin_L4_01 _ _ _ _ po pa pb w h
            · exact bin_L4_00 _ _ _ _ po pa pb w h
  by_cases h10 : op ≤ 10
  · have e : binP op a b = if a.kind = 0 ∨ b.kind = 0 then .ok vNull else if a.kind = b.kind then .ok (vTru (holdP op (cmpV a b))) else .error 35 := by unfold binP; rw [if_neg h4, if_pos h10]
    rw [e]
    by_cases ka0 : a.kind = 0
    · rw [if_pos (.inl ka0)]
      obtain ⟨ka, i, s⟩ := a
      obtain rfl : ka = 0 := ka0
      exact bin_C_0 op h3 h16 h4 h10 _ _ _ _ _ po pa pb w h
    · have na : (a.kind == 0) = false := by simpa using ka0
      by_cases kb0 : b.kind = 0
      · rw [if_pos (.inr kb0)]
        obtain ⟨kb, j, t⟩ := b
        obtain rfl : kb = 0 := kb0
        exact bin_C_n op h3 h16 h4 h10 _ na _ _ _ _ po pa pb w h
      · rw [if_neg (by rintro (h | h); exact ka0 h; exact kb0 h)]
        have nb : (b.kind == 0) = false := by simpa using kb0
        by_cases hk : a.kind = b.kind
        · rw [if_pos hk]
          have HC := Asd.mk (compare_calls a b ha hb hk ka0)
          generalize cmpV a b = c at HC ⊢
          obtain ⟨ka, i, s⟩ := a
          obtain ⟨kb, j, t⟩ := b
          obtain rfl : ka = kb := hk
          exact bin_C_yes op h3 h16 h4 h10 _ na c _ _ _ _ HC po pa pb w h
        · rw [if_neg hk]
          exact bin_C_no op h3 h16 h4 h10 _ _ na nb (by simpa using hk) _ _ _ _ po pa pb w h
  by_cases h6 : op = 16
  · subst h6
    have e : binP 16 a b = if fitK 3 a && fitK 3 b then (if a.kind = 0 ∨ b.kind = 0 then .ok vNull else if a.text.length + b.text.length ≤ 2048 then .ok (vTxt (a.text ++ b.text)) else .error 8) else .error 35 := rfl
    rw [e]
    have hla := rv_len ha
    have hlb := rv_len hb
    cases hfa : fitK 3 a with
    | false =>
      obtain ⟨p1, p2⟩ := fit_not hfa
      exact bin_S_a _ _ p1 p2 _ _ _ _ po pa pb w h
    | true =>
      have ga := fit_or hfa
      cases hfb : fitK 3 b with
      | false =>
        obtain ⟨p1, p2⟩ := fit_not hfb
        obtain ⟨ka, i, s⟩ := a
        rcases ga with rfl | rfl
        · exact bin_S_b3 _ p1 p2 _ _ _ _ po pa pb w h
        · exact bin_S_b0 _ p1 p2 _ _ _ _ po pa pb w h
      | true =>
        have gb := fit_or hfb
        obtain ⟨ka, i, s⟩ := a
        obtain ⟨kb, j, t⟩ := b
        rcases ga with rfl | rfl
        · rcases gb with rfl | rfl
          · rw [Bool.and_self, if_pos rfl, if_neg (by simp)]
            have hw := len_sum s t hla hlb
            by_cases hl : s.length + t.length ≤ 2048
            · rw [if_pos hl]
              exact bin_S_ok _ _ _ _ hl (decide_eq_true (by omega)) po pa pb w h
            · rw [if_neg hl]
              exact bin_S_long _ _ _ _ (by rw [hw]; exact decide_eq_false (by omega)) po pa pb w h
          · exact bin_S_30 _ _ _ _ po pa pb w h
        · rcases gb with rfl | rfl
          · exact bin_S_03 _ _ _ _ po pa pb w h
          · exact bin_S_00 _ _ _ _ po pa pb w h
  · have e : binP op a b = if fitK 2 a && fitK 2 b then (if a.kind = 0 ∨ b.kind = 0 then .ok vNull else sumV op a.int b.int) else .error 35 := by unfold binP; rw [if_neg h4, if_neg h10, if_neg h6]
    rw [e]
    have hia := rv_int ha
    have hib := rv_int hb
    cases hfa : fitK 2 a with
    | false =>
      obtain ⟨p1, p2⟩ := fit_not hfa
      exact bin_A_a op h3 h16 h4 h10 h6 _ _ p1 p2 _ _ _ _ po pa pb w h
    | true =>
      have ga := fit_or hfa
      cases hfb : fitK 2 b with
      | false =>
        obtain ⟨p1, p2⟩ := fit_not hfb
        obtain ⟨ka, i, s⟩ := a
        rcases ga with rfl | rfl
        · exact bin_A_b2 op h3 h16 h4 h10 h6 _ p1 p2 _ _ _ _ po pa pb w h
        · exact bin_A_b0 op h3 h16 h4 h10 h6 _ p1 p2 _ _ _ _ po pa pb w h
      | true =>
        have gb := fit_or hfb
        obtain ⟨ka, i, s⟩ := a
        obtain ⟨kb, j, t⟩ := b
        rcases ga with rfl | rfl
        · rcases gb with rfl | rfl
          · rw [Bool.and_self, if_pos rfl, if_neg (by simp)]
            have hc := sum_calls op i j (by omega) (by omega) hia hib
            show Calls _ _ _ w (EvR (sumV op i j) w)
            unfold sumV
            cases hs : sumN op i j with
            | ok z =>
              rw [hs] at hc
              exact bin_A_ok op h3 h16 h4 h10 h6 z _ _ _ _ ⟨fun W => (hc W).mono fun e w' h => ⟨h.2, h.1⟩⟩ po pa pb w h
            | error n =>
              rw [hs] at hc
              exact bin_A_no op h3 h16 h4 h10 h6 n _ _ _ _ ⟨fun W => (hc W).mono fun e w' h => ⟨h.2, h.1⟩⟩ po pa pb w h
          · exact bin_A_20 op h3 h16 h4 h10 h6 _ _ _ _ po pa pb w h
        · rcases gb with rfl | rfl
          · exact bin_A_02 op h3 h16 h4 h10 h6 _ _ _ _ po pa pb w h
          · exact bin_A_00 op h3 h16 h4 h10 h6 _ _ _ _ po pa pb w h
set_option maxRecDepth 100000 in
theorem binary_calls (op : Int) (h3 : 3 ≤ op) (h16 : op ≤ 16) (a b : Vl) (ha : RV a) (hb : RV b) (w : World) : Calls Tryz.prog 22 #[.int .i64 op, vC a, vC b] w (Ev2 (binP op a b) w) := by
  have hmf := mk_func
  have HC := Asd.mk (bin_calls op h3 h16 a b ha hb)
  clear h3 h16 ha hb
  generalize binP op a b = r at HC ⊢
  unfold vC
  have HW : Asd (BinW ((((w.alloc (.cells #[.int .i64 op] 3 (0, 0))).alloc (vK a)).alloc (vK b)).alloc zeroV) w.heap.size (w.heap.size + 1) (w.heap.size + 1 + 1) op a b) := Asd.mk ⟨blk_alloc (blk_alloc (blk_alloc (blk_new w _) _) _) _, blk_alloc (blk_alloc (nb1 w _ _) _) _, blk_alloc (nb2 w _ _ _) _⟩
  have HX := Asd.mk (nb3 w (.cells #[.int .i64 op] 3 (0, 0)) (vK a) (vK b) zeroV)
  have HB : Asd (Below w.heap.size w ((((w.alloc (.cells #[.int .i64 op] 3 (0, 0))).alloc (vK a)).alloc (vK b)).alloc zeroV)) := Asd.mk (below_alloc (below_alloc (below_alloc (below_alloc (Below.refl _ _) _) _) _) _)
  go_enter Tryz.func22, Tryz.ntmps22
  go_upto_region 1 with fail
  generalize ((((w.alloc (.cells #[.int .i64 op] 3 (0, 0))).alloc (vK a)).alloc (vK b)).alloc zeroV) = w1 at HW HX HB ⊢
  go_wp2_with fail
  refine (caught_calls 41 _ r _ (isGo_of Tryz.func41 (by decide) rfl) fun W hW => HC.out _ _ _ W (HW.out.below hW)).mono ?_
  rintro e w2 ⟨hb2, rfl⟩
  have HX2 := Asd.mk (blk_below hb2 HX.out)
  have HB2 : Asd (Below w.heap.size w w2) := Asd.mk (HB.out.trans (hb2.mono HB.out.size))
  clear hb2
  obtain ⟨⟨x0, x1, x2⟩, y0, y1, y2⟩ := zero_cells HX2.out
  cases r with
  | ok u =>
    unfold vC
    go_wp2
    refine val_ret2 rfl (w.heap.size + 1 + 1 + 1) _ _ _ rfl (put3_blk HX2.out _ _ _) rfl ?_
    exact ⟨below_put3 HB2.out (by omega) _ _ _, rfl⟩
  | error n =>
    unfold vC
    simp only [vNull]
    go_wp2
    refine val_ret2 rfl (w.heap.size + 1 + 1 + 1) _ _ _ rfl (put3_blk HX2.out _ _ _) rfl ?_
    exact ⟨below_put3 HB2.out (by omega) _ _ _, rfl⟩

theorem take_snocB (s : List UInt8) (k : Nat) (h : k < s.length) : s.take (k + 1) = s.take k ++ [s[k]] := List.take_succ_eq_append_getElem h
theorem byteCells_lenB (l : List UInt8) : (Lib.byteCells l).length = l.length := by simp [Lib.byteCells]
theorem byteCells_snocB (l : List UInt8) (c : UInt8) : Lib.byteCells (l ++ [c]) = Lib.byteCells l ++ [.int .u8 c.toNat] := by simp [Lib.byteCells]
theorem bld_freshB (w : World) : Lib.IsBuilder 124 5 w.heap.size w.heap.size [] (w.alloc (.cells #[.pointer none, .slice none 0 0] 124)) :=
  .inl ⟨Nat.le_refl _, .slice none 0 0, blk_new _ _, World.ownsRow_nil _ _ _ _, by simp [Value.ownBlock]⟩
def mapC (from_ to_ : UInt8) (c : UInt8) : UInt8 := if from_.toNat ≤ c.toNat ∧ c.toNat ≤ from_.toNat + 25 then c + (to_ - from_) else c
theorem mapP_len (f t : UInt8) (s : List UInt8) : (mapP f t s).length = s.length := by simp [mapP]
theorem mapP_snoc (f t : UInt8) (s : List UInt8) (c : UInt8) : mapP f t (s ++ [c]) = mapP f t s ++ [mapC f t c] := by simp [mapP, mapC]

set_option maxRecDepth 100000 in
theorem mapped_up (s : ByteArray) (hs : s.size ≤ reachBytes) (w : World) : Calls Tryz.prog 67 #[.string s, .int .u8 97, .int .u8 65] w fun e w' => e = .returned (.string ⟨(mapP 97 65 s.data.toList).toArray⟩) ∧ Below w.heap.size w w' := by
  have hs : s.size ≤ 140737488351232 := hs
  have HBF := Asd.mk (bld_freshB w)
  have HB : Asd (Below w.heap.size w (w.alloc (.cells #[.pointer none, .slice none 0 0] 124))) := Asd.mk (below_alloc (Below.refl _ _) _)
  go_enter Tryz.func67, Tryz.ntmps67
  go_upto_region 2 with fail
  generalize w.alloc (.cells #[.pointer none, .slice none 0 0] 124) = w1 at HBF HB ⊢
  have HBW : Asd (w.heap.size ≤ w1.heap.size) := Asd.mk HB.out.size
  go_wp2
  go_loopw [12] (fun i wr => ∃ k : Nat, k ≤ s.size ∧ i = .int .i64 (k : Int) ∧ Asd (Lib.IsBuilder 124 5 w.heap.size w.heap.size (Lib.byteCells (mapP 97 65 (s.data.toList.take k))) wr) ∧ Asd (Below w.heap.size w wr)) (fun i _ => s.size - (intOf i).toNat)
  case atStart => exact ⟨0, by omega, rfl, ⟨HBF.out⟩, ⟨HB.out⟩⟩
  case round =>
    obtain ⟨k, hk, rfl, HBD, HBR⟩ := hrel
    by_cases hlt : k < s.size
    · have hc := s[k].toNat_lt
      have HN : Asd ((mapP 97 65 (s.data.toList.take (k + 1))) = mapP 97 65 (s.data.toList.take k) ++ [mapC 97 65 s[k]]) := Asd.mk (by rw [take_snocB _ k (by simpa using hlt), mapP_snoc]; rfl)
      have HLK : Asd ((Lib.byteCells (mapP 97 65 (s.data.toList.take k))).length ≤ k) := Asd.mk (by rw [byteCells_lenB, mapP_len, List.length_take]; omega)
      generalize hck : s[k] = c at hc HN
      by_cases h1 : 97 ≤ c.toNat
      · by_cases h2 : c.toNat ≤ 122
        · have HV : Asd (((c.toNat : Int) + 224) % 256 = ((mapC 97 65 c).toNat : Int)) := Asd.mk (by
            unfold mapC
            rw [if_pos ⟨h1, h2⟩, UInt8.toNat_add]
            show _ = (((c.toNat + 224) % 256 : Nat) : Int)
            omega)
          go_wp2_with fail
          rw [HV.out]
          refine (Tryz.Builder_WriteByte w.heap.size w.heap.size _ _ wr HBD.out (by have := HLK.out; omega) (by have := HBW.out; have := HBR.out.size; omega)).mono ?_
          rintro e w4 ⟨rfl, hbd, hb4⟩
          have HB4 : Asd (Below w.heap.size w w4) := Asd.mk (HBR.out.trans hb4)
          have HBD4 : Asd (Lib.IsBuilder 124 5 w.heap.size w.heap.size (Lib.byteCells (mapP 97 65 (s.data.toList.take (k + 1)))) w4) := Asd.mk (by
            rw [HN.out, byteCells_snocB]
            exact .inr hbd)
          clear hbd hb4
          go_wp2
          go_roundw
          case rel => exact ⟨k + 1, by omega, by go_num, HBD4, HB4⟩
          case measure => simp [intOf]; omega
        · have HV : Asd (mapC 97 65 c = c) := Asd.mk (by unfold mapC; exact if_neg fun h => h2 h.2)
          rw [HV.out] at HN
          go_wp2_with fail
          refine (Tryz.Builder_WriteByte w.heap.size w.heap.size _ _ wr HBD.out (by have := HLK.out; omega) (by have := HBW.out; have := HBR.out.size; omega)).mono ?_
          rintro e w4 ⟨rfl, hbd, hb4⟩
          have HB4 : Asd (Below w.heap.size w w4) := Asd.mk (HBR.out.trans hb4)
          have HBD4 : Asd (Lib.IsBuilder 124 5 w.heap.size w.heap.size (Lib.byteCells (mapP 97 65 (s.data.toList.take (k + 1)))) w4) := Asd.mk (by
            rw [HN.out, byteCells_snocB]
            exact .inr hbd)
          clear hbd hb4
          go_wp2
          go_roundw
          case rel => exact ⟨k + 1, by omega, by go_num, HBD4, HB4⟩
          case measure => simp [intOf]; omega
      · have HV : Asd (mapC 97 65 c = c) := Asd.mk (by unfold mapC; exact if_neg fun h => h1 h.1)
        rw [HV.out] at HN
        go_wp2_with fail
        refine (Tryz.Builder_WriteByte w.heap.size w.heap.size _ _ wr HBD.out (by have := HLK.out; omega) (by have := HBW.out; have := HBR.out.size; omega)).mono ?_
        rintro e w4 ⟨rfl, hbd, hb4⟩
        have HB4 : Asd (Below w.heap.size w w4) := Asd.mk (HBR.out.trans hb4)
        have HBD4 : Asd (Lib.IsBuilder 124 5 w.heap.size w.heap.size (Lib.byteCells (mapP 97 65 (s.data.toList.take (k + 1)))) w4) := Asd.mk (by
          rw [HN.out, byteCells_snocB]
          exact .inr hbd)
        clear hbd hb4
        go_wp2
        go_roundw
        case rel => exact ⟨k + 1, by omega, by go_num, HBD4, HB4⟩
        case measure => simp [intOf]; omega
    · obtain rfl : k = s.size := by omega
      have HT : Asd (s.data.toList.take s.size = s.data.toList) := Asd.mk (List.take_of_length_le (Nat.le_of_eq (show s.data.toList.length = s.size from rfl)))
      rw [HT.out] at HBD
      go_wp2_with fail
      refine (Tryz.Builder_String_any w.heap.size w.heap.size _ wr HBD.out (by have := HBW.out; have := HBR.out.size; omega)).mono ?_
      rintro e w5 ⟨rfl, hb5⟩
      go_wp2
      go_ret
      exact ⟨rfl, HBR.out.trans hb5⟩
set_option maxRecDepth 100000 in
theorem mapped_low (s : ByteArray) (hs : s.size ≤ reachBytes) (w : World) : Calls Tryz.prog 67 #[.string s, .int .u8 65, .int .u8 97] w fun e w' => e = .returned (.string ⟨(mapP 65 97 s.data.toList).toArray⟩) ∧ Below w.heap.size w w' := by
  have hs : s.size ≤ 140737488351232 := hs
  have HBF := Asd.mk (bld_freshB w)
  have HB : Asd (Below w.heap.size w (w.alloc (.cells #[.pointer none, .slice none 0 0] 124))) := Asd.mk (below_alloc (Below.refl _ _) _)
  go_enter Tryz.func67, Tryz.ntmps67
  go_upto_region 2 with fail
  generalize w.alloc (.cells #[.pointer none, .slice none 0 0] 124) = w1 at HBF HB ⊢
  have HBW : Asd (w.heap.size ≤ w1.heap.size) := Asd.mk HB.out.size
  go_wp2
  go_loopw [12] (fun i wr => ∃ k : Nat, k ≤ s.size ∧ i = .int .i64 (k : Int) ∧ Asd (Lib.IsBuilder 124 5 w.heap.size w.heap.size (Lib.byteCells (mapP 65 97 (s.data.toList.take k))) wr) ∧ Asd (Below w.heap.size w wr)) (fun i _ => s.size - (intOf i).toNat)
  case atStart => exact ⟨0, by omega, rfl, ⟨HBF.out⟩, ⟨HB.out⟩⟩
  case round =>
    obtain ⟨k, hk, rfl, HBD, HBR⟩ := hrel
    by_cases hlt : k < s.size
    · have hc := s[k].toNat_lt
      have HN : Asd ((mapP 65 97 (s.data.toList.take (k + 1))) = mapP 65 97 (s.data.toList.take k) ++ [mapC 65 97 s[k]]) := Asd.mk (by rw [take_snocB _ k (by simpa using hlt), mapP_snoc]; rfl)
      have HLK : Asd ((Lib.byteCells (mapP 65 97 (s.data.toList.take k))).length ≤ k) := Asd.mk (by rw [byteCells_lenB, mapP_len, List.length_take]; omega)
      generalize hck : s[k] = c at hc HN
      by_cases h1 : 65 ≤ c.toNat
      · by_cases h2 : c.toNat ≤ 90
        · have HV : Asd (((c.toNat : Int) + 32) = ((mapC 65 97 c).toNat : Int)) := Asd.mk (by
            unfold mapC
            rw [if_pos ⟨h1, h2⟩, UInt8.toNat_add]
            show _ = (((c.toNat + 32) % 256 : Nat) : Int)
            omega)
          go_wp2_with fail
          rw [HV.out]
          refine (Tryz.Builder_WriteByte w.heap.size w.heap.size _ _ wr HBD.out (by have := HLK.out; omega) (by have := HBW.out; have := HBR.out.size; omega)).mono ?_
          rintro e w4 ⟨rfl, hbd, hb4⟩
          have HB4 : Asd (Below w.heap.size w w4) := Asd.mk (HBR.out.trans hb4)
          have HBD4 : Asd (Lib.IsBuilder 124 5 w.heap.size w.heap.size (Lib.byteCells (mapP 65 97 (s.data.toList.take (k + 1)))) w4) := Asd.mk (by
            rw [HN.out, byteCells_snocB]
            exact .inr hbd)
          clear hbd hb4
          go_wp2
          go_roundw
          case rel => exact ⟨k + 1, by omega, by go_num, HBD4, HB4⟩
          case measure => simp [intOf]; omega
        · have HV : Asd (mapC 65 97 c = c) := Asd.mk (by unfold mapC; exact if_neg fun h => h2 h.2)
          rw [HV.out] at HN
          go_wp2_with fail
          refine (Tryz.Builder_WriteByte w.heap.size w.heap.size _ _ wr HBD.out (by have := HLK.out; omega) (by have := HBW.out; have := HBR.out.size; omega)).mono ?_
          rintro e w4 ⟨rfl, hbd, hb4⟩
          have HB4 : Asd (Below w.heap.size w w4) := Asd.mk (HBR.out.trans hb4)
          have HBD4 : Asd (Lib.IsBuilder 124 5 w.heap.size w.heap.size (Lib.byteCells (mapP 65 97 (s.data.toList.take (k + 1)))) w4) := Asd.mk (by
            rw [HN.out, byteCells_snocB]
            exact .inr hbd)
          clear hbd hb4
          go_wp2
          go_roundw
          case rel => exact ⟨k + 1, by omega, by go_num, HBD4, HB4⟩
          case measure => simp [intOf]; omega
      · have HV : Asd (mapC 65 97 c = c) := Asd.mk (by unfold mapC; exact if_neg fun h => h1 h.1)
        rw [HV.out] at HN
        go_wp2_with fail
        refine (Tryz.Builder_WriteByte w.heap.size w.heap.size _ _ wr HBD.out (by have := HLK.out; omega) (by have := HBW.out; have := HBR.out.size; omega)).mono ?_
        rintro e w4 ⟨rfl, hbd, hb4⟩
        have HB4 : Asd (Below w.heap.size w w4) := Asd.mk (HBR.out.trans hb4)
        have HBD4 : Asd (Lib.IsBuilder 124 5 w.heap.size w.heap.size (Lib.byteCells (mapP 65 97 (s.data.toList.take (k + 1)))) w4) := Asd.mk (by
          rw [HN.out, byteCells_snocB]
          exact .inr hbd)
        clear hbd hb4
        go_wp2
        go_roundw
        case rel => exact ⟨k + 1, by omega, by go_num, HBD4, HB4⟩
        case measure => simp [intOf]; omega
    · obtain rfl : k = s.size := by omega
      have HT : Asd (s.data.toList.take s.size = s.data.toList) := Asd.mk (List.take_of_length_le (Nat.le_of_eq (show s.data.toList.length = s.size from rfl)))
      rw [HT.out] at HBD
      go_wp2_with fail
      refine (Tryz.Builder_String_any w.heap.size w.heap.size _ wr HBD.out (by have := HBW.out; have := HBR.out.size; omega)).mono ?_
      rintro e w5 ⟨rfl, hb5⟩
      go_wp2
      go_ret
      exact ⟨rfl, HBR.out.trans hb5⟩
theorem args_calls (f : Int) (h : 1 ≤ f) (h' : f ≤ 5) (w : World) : Calls Tryz.prog 49 #[.int .i64 f] w fun e w' => e = .returned (.int .i64 ((opn f.toNat : Nat) : Int)) ∧ w' = w := by
  rcases (show f = 1 ∨ f = 2 ∨ f = 3 ∨ f = 4 ∨ f = 5 by omega) with rfl | rfl | rfl | rfl | rfl
  all_goals
    go_enter Tryz.func49, Tryz.ntmps49
    go_wp2
    go_ret
    exact ⟨rfl, rfl⟩

set_option maxRecDepth 100000 in
theorem cut_none (s : ByteArray) (p n : Int) (h : n ≤ 0) (w : World) : Calls Tryz.prog 68 #[.string s, .int .i64 p, .int .i64 n] w fun e w' => e = .returned (.string ⟨#[]⟩) ∧ w' = w := by
  go_enter Tryz.func68, Tryz.ntmps68
  go_wp2
  go_ret
  exact ⟨rfl, rfl⟩
set_option maxRecDepth 100000 in
theorem cut_far (s : ByteArray) (p n : Int) (h : ¬ n ≤ 0) (hp : (s.size : Int) < p) (w : World) : Calls Tryz.prog 68 #[.string s, .int .i64 p, .int .i64 n] w fun e w' => e = .returned (.string ⟨#[]⟩) ∧ w' = w := by
  go_enter Tryz.func68, Tryz.ntmps68
  go_wp2
  go_ret
  exact ⟨rfl, rfl⟩
set_option maxRecDepth 100000 in
theorem cut_in (s : ByteArray) (p n : Int) (h : ¬ n ≤ 0) (hn : n ≤ 9223372036854775807) (hp : ¬ (s.size : Int) < p) (h1 : ¬ p < 1) (hs : s.size ≤ 140737488351232) (w : World) : Calls Tryz.prog 68 #[.string s, .int .i64 p, .int .i64 n] w fun e w' => e = .returned (.string (s.extract (p.toNat - 1) (p - 1 + min n (s.size - p + 1)).toNat)) ∧ w' = w := by
  go_enter Tryz.func68, Tryz.ntmps68
  go_wp2
  go_ret
  exact ⟨rfl, rfl⟩
set_option maxRecDepth 100000 in
theorem cut_ahead (s : ByteArray) (p n a : Int) (h : ¬ n ≤ 0) (hn : n ≤ 9223372036854775807) (hp : ¬ (s.size : Int) < p) (h1 : p < 1) (hA : IntKind.u64.wrap (wrap64 (1 - p)) = a) (hna : n ≤ a) (hs : s.size ≤ 140737488351232) (w : World) : Calls Tryz.prog 68 #[.string s, .int .i64 p, .int .i64 n] w fun e w' => e = .returned (.string ⟨#[]⟩) ∧ w' = w := by
  go_enter Tryz.func68, Tryz.ntmps68
  go_wp2
  go_ret
  exact ⟨rfl, rfl⟩
set_option maxRecDepth 100000 in
theorem cut_neg (s : ByteArray) (p n a : Int) (h : ¬ n ≤ 0) (hn : n ≤ 9223372036854775807) (hp : ¬ (s.size : Int) < p) (h1 : p < 1) (hA : IntKind.u64.wrap (wrap64 (1 - p)) = a) (hna : ¬ n ≤ a) (h0 : 0 ≤ a) (hs : s.size ≤ 140737488351232) (w : World) : Calls Tryz.prog 68 #[.string s, .int .i64 p, .int .i64 n] w fun e w' => e = .returned (.string (s.extract 0 (min (n - a) s.size).toNat)) ∧ w' = w := by
  go_enter Tryz.func68, Tryz.ntmps68
  go_wp2
  go_ret
  exact ⟨rfl, rfl⟩
theorem ext_list (s : ByteArray) (i j : Nat) : s.extract i j = ⟨((s.data.toList.drop i).take (j - i)).toArray⟩ := by
  apply ByteArray.ext
  apply Array.toList_inj.mp
  rw [ByteArray.data_extract, Array.toList_extract, List.extract_eq_take_drop]
theorem cut_calls (s : ByteArray) (p n : Int) (hs : s.size ≤ reachBytes) (hp : inI p) (hn : inI n) (w : World) : Calls Tryz.prog 68 #[.string s, .int .i64 p, .int .i64 n] w fun e w' => e = .returned (.string ⟨(cutP s.data.toList p n).toArray⟩) ∧ w' = w := by
  have hs : s.size ≤ 140737488351232 := hs
  have hl : s.data.toList.length = s.size := rfl
  by_cases h0 : n ≤ 0
  · rw [show cutP s.data.toList p n = [] by unfold cutP; rw [if_pos (.inl h0)]]
    exact cut_none s p n h0 w
  by_cases hf : (s.size : Int) < p
  · rw [show cutP s.data.toList p n = [] by unfold cutP; rw [if_pos (.inr hf)]]
    exact cut_far s p n h0 hf w
  have hno : ¬ (n ≤ 0 ∨ (s.data.toList.length : Int) < p) := by rintro (h | h); exact h0 h; exact hf h
  by_cases h1 : p < 1
  · have hA : IntKind.u64.wrap (wrap64 (1 - p)) = 1 - p := by
      have := hp.1
      rw [IntKind.wrap_u64]; unfold wrap64; omega
    by_cases ha : n ≤ 1 - p
    · rw [show cutP s.data.toList p n = [] by unfold cutP; rw [if_neg hno, if_pos h1, if_pos ha]]
      exact cut_ahead s p n _ h0 hn.2 hf h1 hA ha hs w
    · rw [show cutP s.data.toList p n = s.data.toList.take (n - (1 - p)).toNat by unfold cutP; rw [if_neg hno, if_pos h1, if_neg ha]]
      have h := cut_neg s p n _ h0 hn.2 hf h1 hA ha (by omega) hs w
      rw [ext_list, List.drop_zero, Nat.sub_zero] at h
      rw [show (s.data.toList.take (n - (1 - p)).toNat) = s.data.toList.take (min (n - (1 - p)) (s.size : Int)).toNat by
        by_cases hle : n - (1 - p) ≤ (s.size : Int)
        · rw [Int.min_eq_left hle]
        · rw [Int.min_eq_right (by omega), List.take_of_length_le (by omega), List.take_of_length_le (by omega)]]
      exact h
  · rw [show cutP s.data.toList p n = (s.data.toList.drop (p - 1).toNat).take n.toNat by unfold cutP; rw [if_neg hno, if_neg h1]]
    have h := cut_in s p n h0 hn.2 hf h1 hs w
    rw [ext_list] at h
    have hd : (s.data.toList.drop (p - 1).toNat).length = s.size - (p - 1).toNat := by rw [List.length_drop]; rfl
    rw [show p.toNat - 1 = (p - 1).toNat by omega] at h
    rw [show (s.data.toList.drop (p - 1).toNat).take n.toNat = (s.data.toList.drop (p - 1).toNat).take ((p - 1 + min n (s.size - p + 1)).toNat - (p - 1).toNat) by
      by_cases hle : n ≤ s.size - p + 1
      · rw [Int.min_eq_left hle]; congr 1; omega
      · rw [Int.min_eq_right (by omega), List.take_of_length_le (by rw [hd]; omega), List.take_of_length_le (by rw [hd]; omega)]]
    exact h

def ValAt (W : World) (g o : Nat) (v : Vl) : Prop := W.cell? ⟨g, o, none⟩ = some (.int .i64 v.kind) ∧ W.cell? ⟨g, o + 1, none⟩ = some (.int .i64 v.int) ∧ W.cell? ⟨g, o + 2, none⟩ = some (.string ⟨v.text.toArray⟩)
theorem ValAt.below {W W' : World} {g o : Nat} {v : Vl} (h : ValAt W g o v) (hb : Below W.heap.size W W') : ValAt W' g o v :=
  ⟨(hb.cell (World.block_lt_of_cell? W _ h.1)).trans h.1, (hb.cell (World.block_lt_of_cell? W _ h.2.1)).trans h.2.1, (hb.cell (World.block_lt_of_cell? W _ h.2.2)).trans h.2.2⟩
def ValSl (W : World) (A : Option Addr) (vs : List Vl) : Prop := 0 < vs.length → ∃ g o, A = some ⟨g, o, none⟩ ∧ ∀ i (h : i < vs.length), ValAt W g (o + i * 3) vs[i]
theorem ValSl.below {W W' : World} {A : Option Addr} {vs : List Vl} (h : ValSl W A vs) (hb : Below W.heap.size W W') : ValSl W' A vs := fun h0 => by
  obtain ⟨g, o, rfl, h1⟩ := h h0
  exact ⟨g, o, rfl, fun i hi => (h1 i hi).below hb⟩
def FJ (f : Int) (j : Nat) : Prop := (f = 1 ∧ j = 0) ∨ (f = 2 ∧ j = 0) ∨ (f = 3 ∧ j = 0) ∨ (f = 4 ∧ j = 0) ∨ (f = 5 ∧ j = 0) ∨ (f = 5 ∧ j = 1) ∨ (f = 5 ∧ j = 2)
set_option maxRecDepth 100000 in
theorem takes_calls (f : Int) (j : Nat) (k : Int) (h : FJ f j) (hk : 0 ≤ k ∧ k ≤ 4) (w : World) : Calls Tryz.prog 50 #[.int .i64 f, .int .i64 (j : Int), .int .i64 k] w fun e w' => e = .returned (.bool (takesP f j k)) ∧ w' = w := by
  rcases (show k = 0 ∨ k = 1 ∨ k = 2 ∨ k = 3 ∨ k = 4 by omega) with rfl | rfl | rfl | rfl | rfl <;> rcases h with ⟨rfl, rfl⟩ | ⟨rfl, rfl⟩ | ⟨rfl, rfl⟩ | ⟨rfl, rfl⟩ | ⟨rfl, rfl⟩ | ⟨rfl, rfl⟩ | ⟨rfl, rfl⟩
  all_goals
    go_enter Tryz.func50, Tryz.ntmps50
    go_wp2
    go_ret
    exact ⟨rfl, rfl⟩
set_option maxRecDepth 100000 in
theorem called_1 (k i : Int) (s : List UInt8) (g o c : Nat) (w : World) (h : ∀ j (h : j < ([⟨k, i, s⟩] : List Vl).length), ValAt w g (o + j * 3) ([⟨k, i, s⟩] : List Vl)[j]) :
    Calls Tryz.prog 51 #[.int .i64 1, .slice (some ⟨g, o, none⟩) 1 c] w (EvR (.ok (vNum s.length)) w) := by
  have HV := Asd.mk h
  have HX := Asd.mk (blk_new w zeroV)
  have HB : Asd (Below w.heap.size w (w.alloc zeroV)) := Asd.mk (below_alloc (Below.refl _ _) _)
  clear h
  have hsz : (⟨s.toArray⟩ : ByteArray).size = s.length := rfl
  go_enter Tryz.func51, Tryz.ntmps51
  go_upto_region 1 with fail
  generalize w.alloc _ = w1 at HX HB ⊢
  obtain ⟨p00, p01, p02⟩ := (HV.out 0 (by simp)).below HB.out
  simp only [List.getElem_cons_zero, List.getElem_cons_succ, Nat.zero_mul, Nat.one_mul, Nat.add_zero, Nat.reduceMul, Nat.add_assoc, Nat.reduceAdd] at p00 p01 p02
  have HX2 := Asd.mk (blk_alloc HX.out (vK ⟨k, i, s⟩))
  have HV2 := Asd.mk (blk_new w1 (vK ⟨k, i, s⟩))
  have HB2 : Asd (Below w.heap.size w (w1.alloc (vK ⟨k, i, s⟩))) := Asd.mk (below_alloc HB.out _)
  have HB12 : Asd (Below w1.heap.size w1 (w1.alloc (vK ⟨k, i, s⟩))) := Asd.mk (below_alloc (Below.refl _ _) _)
  go_upto_region 2 with fail
  generalize w1.alloc _ = w2 at HX2 HV2 HB2 HB12 ⊢
  have HL5 : Asd (w.heap.size < w1.heap.size) := Asd.mk (blk_lt HX.out)
  generalize w1.heap.size = b5 at HV2 HL5 ⊢
  clear p00 p01 p02
  obtain ⟨v0, v1, v2⟩ := val_cells HV2.out
  simp only at v0 v1 v2
  obtain ⟨⟨x0, x1, x2⟩, y0, y1, y2⟩ := zero_cells HX2.out
  go_wp2_with fail
  refine (number_calls s.length _).mono ?_
  rintro e w3 ⟨rfl, hb3⟩
  have HX3 := Asd.mk (blk_below hb3 HX2.out)
  have HB3 : Asd (Below w.heap.size w w3) := Asd.mk (HB2.out.trans (hb3.mono HB2.out.size))
  clear x0 x1 x2 y0 y1 y2 v0 v1 v2 hb3
  obtain ⟨⟨x0, x1, x2⟩, y0, y1, y2⟩ := zero_cells HX3.out
  unfold vC
  go_wp2
  refine val_ret rfl w.heap.size _ _ _ rfl (put3_blk HX3.out _ _ _) rfl ?_
  exact ⟨below_put3 HB3.out (Nat.le_refl _) _ _ _, rfl⟩
set_option maxRecDepth 100000 in
theorem called_2 (k i : Int) (s : List UInt8) (h1 : (i != (-9223372036854775808 : Int)) = true) (hlo : -9223372036854775808 < i) (hhi : i ≤ 9223372036854775807) (g o c : Nat) (w : World) (h : ∀ j (h : j < ([⟨k, i, s⟩] : List Vl).length), ValAt w g (o + j * 3) ([⟨k, i, s⟩] : List Vl)[j]) :
    Calls Tryz.prog 51 #[.int .i64 2, .slice (some ⟨g, o, none⟩) 1 c] w (EvR (.ok (vNum (max i (-i)))) w) := by
  have HV := Asd.mk h
  have HX := Asd.mk (blk_new w zeroV)
  have HB : Asd (Below w.heap.size w (w.alloc zeroV)) := Asd.mk (below_alloc (Below.refl _ _) _)
  clear h
  go_enter Tryz.func51, Tryz.ntmps51
  go_upto_region 1 with fail
  generalize w.alloc _ = w1 at HX HB ⊢
  obtain ⟨p00, p01, p02⟩ := (HV.out 0 (by simp)).below HB.out
  simp only [List.getElem_cons_zero, List.getElem_cons_succ, Nat.zero_mul, Nat.one_mul, Nat.add_zero, Nat.reduceMul, Nat.add_assoc, Nat.reduceAdd] at p00 p01 p02
  have HX2 := Asd.mk (blk_alloc HX.out (vK ⟨k, i, s⟩))
  have HV2 := Asd.mk (blk_new w1 (vK ⟨k, i, s⟩))
  have HB2 : Asd (Below w.heap.size w (w1.alloc (vK ⟨k, i, s⟩))) := Asd.mk (below_alloc HB.out _)
  have HB12 : Asd (Below w1.heap.size w1 (w1.alloc (vK ⟨k, i, s⟩))) := Asd.mk (below_alloc (Below.refl _ _) _)
  go_upto_region 2 with fail
  generalize w1.alloc _ = w2 at HX2 HV2 HB2 HB12 ⊢
  have HL5 : Asd (w.heap.size < w1.heap.size) := Asd.mk (blk_lt HX.out)
  generalize w1.heap.size = b5 at HV2 HL5 ⊢
  clear p00 p01 p02
  obtain ⟨v0, v1, v2⟩ := val_cells HV2.out
  simp only at v0 v1 v2
  obtain ⟨⟨x0, x1, x2⟩, y0, y1, y2⟩ := zero_cells HX2.out
  go_wp2_with fail
  refine (check_ok 40 _).mono ?_
  rintro e w' ⟨rfl, rfl⟩
  go_wp2_with fail
  refine (number_calls (max i (-i)) _).mono ?_
  rintro e w3 ⟨rfl, hb3⟩
  have HX3 := Asd.mk (blk_below hb3 HX2.out)
  have HB3 : Asd (Below w.heap.size w w3) := Asd.mk (HB2.out.trans (hb3.mono HB2.out.size))
  clear x0 x1 x2 y0 y1 y2 v0 v1 v2 hb3
  obtain ⟨⟨x0, x1, x2⟩, y0, y1, y2⟩ := zero_cells HX3.out
  unfold vC
  go_wp2
  refine val_ret rfl w.heap.size _ _ _ rfl (put3_blk HX3.out _ _ _) rfl ?_
  exact ⟨below_put3 HB3.out (Nat.le_refl _) _ _ _, rfl⟩
set_option maxRecDepth 100000 in
theorem called_2l (k i : Int) (s : List UInt8) (h1 : (i != (-9223372036854775808 : Int)) = false) (g o c : Nat) (w : World) (h : ∀ j (h : j < ([⟨k, i, s⟩] : List Vl).length), ValAt w g (o + j * 3) ([⟨k, i, s⟩] : List Vl)[j]) :
    Calls Tryz.prog 51 #[.int .i64 2, .slice (some ⟨g, o, none⟩) 1 c] w (EvR (.error 40) w) := by
  have HV := Asd.mk h
  have HX := Asd.mk (blk_new w zeroV)
  have HB : Asd (Below w.heap.size w (w.alloc zeroV)) := Asd.mk (below_alloc (Below.refl _ _) _)
  clear h
  go_enter Tryz.func51, Tryz.ntmps51
  go_upto_region 1 with fail
  generalize w.alloc _ = w1 at HX HB ⊢
  obtain ⟨p00, p01, p02⟩ := (HV.out 0 (by simp)).below HB.out
  simp only [List.getElem_cons_zero, List.getElem_cons_succ, Nat.zero_mul, Nat.one_mul, Nat.add_zero, Nat.reduceMul, Nat.add_assoc, Nat.reduceAdd] at p00 p01 p02
  have HX2 := Asd.mk (blk_alloc HX.out (vK ⟨k, i, s⟩))
  have HV2 := Asd.mk (blk_new w1 (vK ⟨k, i, s⟩))
  have HB2 : Asd (Below w.heap.size w (w1.alloc (vK ⟨k, i, s⟩))) := Asd.mk (below_alloc HB.out _)
  have HB12 : Asd (Below w1.heap.size w1 (w1.alloc (vK ⟨k, i, s⟩))) := Asd.mk (below_alloc (Below.refl _ _) _)
  go_upto_region 2 with fail
  generalize w1.alloc _ = w2 at HX2 HV2 HB2 HB12 ⊢
  have HL5 : Asd (w.heap.size < w1.heap.size) := Asd.mk (blk_lt HX.out)
  generalize w1.heap.size = b5 at HV2 HL5 ⊢
  clear p00 p01 p02
  obtain ⟨v0, v1, v2⟩ := val_cells HV2.out
  simp only at v0 v1 v2
  obtain ⟨⟨x0, x1, x2⟩, y0, y1, y2⟩ := zero_cells HX2.out
  go_wp2_with fail
  refine (check_no 40 _).mono ?_
  rintro e w' ⟨rfl, rfl⟩
  go_wp2
  exact ⟨rfl, HB2.out, rfl⟩
set_option maxRecDepth 100000 in
theorem called_3 (k i : Int) (s : List UInt8) (hs : s.length ≤ reachBytes) (g o c : Nat) (w : World) (h : ∀ j (h : j < ([⟨k, i, s⟩] : List Vl).length), ValAt w g (o + j * 3) ([⟨k, i, s⟩] : List Vl)[j]) :
    Calls Tryz.prog 51 #[.int .i64 3, .slice (some ⟨g, o, none⟩) 1 c] w (EvR (.ok (vTxt (mapP 97 65 s))) w) := by
  have HV := Asd.mk h
  have HX := Asd.mk (blk_new w zeroV)
  have HB : Asd (Below w.heap.size w (w.alloc zeroV)) := Asd.mk (below_alloc (Below.refl _ _) _)
  clear h
  go_enter Tryz.func51, Tryz.ntmps51
  go_upto_region 1 with fail
  generalize w.alloc _ = w1 at HX HB ⊢
  obtain ⟨p00, p01, p02⟩ := (HV.out 0 (by simp)).below HB.out
  simp only [List.getElem_cons_zero, List.getElem_cons_succ, Nat.zero_mul, Nat.one_mul, Nat.add_zero, Nat.reduceMul, Nat.add_assoc, Nat.reduceAdd] at p00 p01 p02
  have HX2 := Asd.mk (blk_alloc HX.out (vK ⟨k, i, s⟩))
  have HV2 := Asd.mk (blk_new w1 (vK ⟨k, i, s⟩))
  have HB2 : Asd (Below w.heap.size w (w1.alloc (vK ⟨k, i, s⟩))) := Asd.mk (below_alloc HB.out _)
  have HB12 : Asd (Below w1.heap.size w1 (w1.alloc (vK ⟨k, i, s⟩))) := Asd.mk (below_alloc (Below.refl _ _) _)
  go_upto_region 2 with fail
  generalize w1.alloc _ = w2 at HX2 HV2 HB2 HB12 ⊢
  have HL5 : Asd (w.heap.size < w1.heap.size) := Asd.mk (blk_lt HX.out)
  generalize w1.heap.size = b5 at HV2 HL5 ⊢
  clear p00 p01 p02
  obtain ⟨v0, v1, v2⟩ := val_cells HV2.out
  simp only at v0 v1 v2
  obtain ⟨⟨x0, x1, x2⟩, y0, y1, y2⟩ := zero_cells HX2.out
  go_wp2_with fail
  refine (mapped_up ⟨s.toArray⟩ hs _).mono ?_
  rintro e w3 ⟨rfl, hb3⟩
  have HX3 := Asd.mk (blk_below hb3 HX2.out)
  have HB3 : Asd (Below w.heap.size w w3) := Asd.mk (HB2.out.trans (hb3.mono HB2.out.size))
  clear x0 x1 x2 y0 y1 y2 v0 v1 v2 hb3
  go_wp2_with fail
  refine (text_calls (mapP 97 65 s) _).mono ?_
  rintro e w4 ⟨rfl, hb4⟩
  have HX4 := Asd.mk (blk_below hb4 HX3.out)
  have HB4 : Asd (Below w.heap.size w w4) := Asd.mk (HB3.out.trans (hb4.mono HB3.out.size))
  clear hb4
  obtain ⟨⟨x0, x1, x2⟩, y0, y1, y2⟩ := zero_cells HX4.out
  unfold vC
  go_wp2
  refine val_ret rfl w.heap.size _ _ _ rfl (put3_blk HX4.out _ _ _) rfl ?_
  exact ⟨below_put3 HB4.out (Nat.le_refl _) _ _ _, rfl⟩
set_option maxRecDepth 100000 in
theorem called_4 (k i : Int) (s : List UInt8) (hs : s.length ≤ reachBytes) (g o c : Nat) (w : World) (h : ∀ j (h : j < ([⟨k, i, s⟩] : List Vl).length), ValAt w g (o + j * 3) ([⟨k, i, s⟩] : List Vl)[j]) :
    Calls Tryz.prog 51 #[.int .i64 4, .slice (some ⟨g, o, none⟩) 1 c] w (EvR (.ok (vTxt (mapP 65 97 s))) w) := by
  have HV := Asd.mk h
  have HX := Asd.mk (blk_new w zeroV)
  have HB : Asd (Below w.heap.size w (w.alloc zeroV)) := Asd.mk (below_alloc (Below.refl _ _) _)
  clear h
  go_enter Tryz.func51, Tryz.ntmps51
  go_upto_region 1 with fail
  generalize w.alloc _ = w1 at HX HB ⊢
  obtain ⟨p00, p01, p02⟩ := (HV.out 0 (by simp)).below HB.out
  simp only [List.getElem_cons_zero, List.getElem_cons_succ, Nat.zero_mul, Nat.one_mul, Nat.add_zero, Nat.reduceMul, Nat.add_assoc, Nat.reduceAdd] at p00 p01 p02
  have HX2 := Asd.mk (blk_alloc HX.out (vK ⟨k, i, s⟩))
  have HV2 := Asd.mk (blk_new w1 (vK ⟨k, i, s⟩))
  have HB2 : Asd (Below w.heap.size w (w1.alloc (vK ⟨k, i, s⟩))) := Asd.mk (below_alloc HB.out _)
  have HB12 : Asd (Below w1.heap.size w1 (w1.alloc (vK ⟨k, i, s⟩))) := Asd.mk (below_alloc (Below.refl _ _) _)
  go_upto_region 2 with fail
  generalize w1.alloc _ = w2 at HX2 HV2 HB2 HB12 ⊢
  have HL5 : Asd (w.heap.size < w1.heap.size) := Asd.mk (blk_lt HX.out)
  generalize w1.heap.size = b5 at HV2 HL5 ⊢
  clear p00 p01 p02
  obtain ⟨v0, v1, v2⟩ := val_cells HV2.out
  simp only at v0 v1 v2
  obtain ⟨⟨x0, x1, x2⟩, y0, y1, y2⟩ := zero_cells HX2.out
  go_wp2_with fail
  refine (mapped_low ⟨s.toArray⟩ hs _).mono ?_
  rintro e w3 ⟨rfl, hb3⟩
  have HX3 := Asd.mk (blk_below hb3 HX2.out)
  have HB3 : Asd (Below w.heap.size w w3) := Asd.mk (HB2.out.trans (hb3.mono HB2.out.size))
  clear x0 x1 x2 y0 y1 y2 v0 v1 v2 hb3
  go_wp2_with fail
  refine (text_calls (mapP 65 97 s) _).mono ?_
  rintro e w4 ⟨rfl, hb4⟩
  have HX4 := Asd.mk (blk_below hb4 HX3.out)
  have HB4 : Asd (Below w.heap.size w w4) := Asd.mk (HB3.out.trans (hb4.mono HB3.out.size))
  clear hb4
  obtain ⟨⟨x0, x1, x2⟩, y0, y1, y2⟩ := zero_cells HX4.out
  unfold vC
  go_wp2
  refine val_ret rfl w.heap.size _ _ _ rfl (put3_blk HX4.out _ _ _) rfl ?_
  exact ⟨below_put3 HB4.out (Nat.le_refl _) _ _ _, rfl⟩
set_option maxRecDepth 100000 in
theorem called_5 (k i k' i' k'' i'' : Int) (s s' s'' : List UInt8) (hs : s.length ≤ reachBytes) (hi' : inI i') (hi'' : inI i'') (g o c : Nat) (w : World) (h : ∀ j (h : j < ([⟨k, i, s⟩, ⟨k', i', s'⟩, ⟨k'', i'', s''⟩] : List Vl).length), ValAt w g (o + j * 3) ([⟨k, i, s⟩, ⟨k', i', s'⟩, ⟨k'', i'', s''⟩] : List Vl)[j]) :
    Calls Tryz.prog 51 #[.int .i64 5, .slice (some ⟨g, o, none⟩) 3 c] w (EvR (.ok (vTxt (cutP s i' i''))) w) := by
  have HV := Asd.mk h
  have HX := Asd.mk (blk_new w zeroV)
  have HB : Asd (Below w.heap.size w (w.alloc zeroV)) := Asd.mk (below_alloc (Below.refl _ _) _)
  clear h
  go_enter Tryz.func51, Tryz.ntmps51
  go_upto_region 1 with fail
  generalize w.alloc _ = w1 at HX HB ⊢
  obtain ⟨p00, p01, p02⟩ := (HV.out 0 (by simp)).below HB.out
  obtain ⟨p10, p11, p12⟩ := (HV.out 1 (by simp)).below HB.out
  obtain ⟨p20, p21, p22⟩ := (HV.out 2 (by simp)).below HB.out
  simp only [List.getElem_cons_zero, List.getElem_cons_succ, Nat.zero_mul, Nat.one_mul, Nat.add_zero, Nat.reduceMul, Nat.add_assoc, Nat.reduceAdd] at p00 p01 p02 p10 p11 p12 p20 p21 p22
  have HX2 := Asd.mk (blk_alloc HX.out (vK ⟨k, i, s⟩))
  have HV2 := Asd.mk (blk_new w1 (vK ⟨k, i, s⟩))
  have HB2 : Asd (Below w.heap.size w (w1.alloc (vK ⟨k, i, s⟩))) := Asd.mk (below_alloc HB.out _)
  have HB12 : Asd (Below w1.heap.size w1 (w1.alloc (vK ⟨k, i, s⟩))) := Asd.mk (below_alloc (Below.refl _ _) _)
  go_upto_region 2 with fail
  generalize w1.alloc _ = w2 at HX2 HV2 HB2 HB12 ⊢
  have HL5 : Asd (w.heap.size < w1.heap.size) := Asd.mk (blk_lt HX.out)
  generalize w1.heap.size = b5 at HV2 HL5 ⊢
  clear p00 p01 p02 p10 p11 p12 p20 p21 p22
  obtain ⟨v0, v1, v2⟩ := val_cells HV2.out
  simp only at v0 v1 v2
  obtain ⟨⟨x0, x1, x2⟩, y0, y1, y2⟩ := zero_cells HX2.out
  have hgw : Asd (g ≠ w.heap.size) := Asd.mk fun e => by
    have hlt : g < w.heap.size := World.block_lt_of_cell? w _ (HV.out 0 (by simp)).1
    omega
  have hbw : Asd (b5 ≠ w.heap.size) := Asd.mk fun e => by
    have := HL5.out
    omega
  have HS : Asd (∀ w', Fr (fun k => k = w.heap.size) w2 w' → w'.cell? ⟨b5, 2, none⟩ = some (.string ⟨s.toArray⟩) ∧ w'.cell? ⟨g, o + 4, none⟩ = some (.int .i64 i') ∧ w'.cell? ⟨g, o + 7, none⟩ = some (.int .i64 i'') ∧ Fr (fun k => k = w.heap.size) w2 w') := Asd.mk fun w' hf =>
    ⟨(val_cells (blk_fr HV2.out hf hbw.out)).2.2, fr_cell hf hgw.out (((HV.out 1 (by simp)).below HB2.out).2.1), fr_cell hf hgw.out (((HV.out 2 (by simp)).below HB2.out).2.1), hf⟩
  go_upto_region 12 with fail
  clear x0 x1 x2 y0 y1 y2 v0 v1 v2
  go_region_held3 (fun w' => w'.cell? ⟨b5, 2, none⟩ = some (.string ⟨s.toArray⟩) ∧ w'.cell? ⟨g, o + 4, none⟩ = some (.int .i64 i') ∧ w'.cell? ⟨g, o + 7, none⟩ = some (.int .i64 i'') ∧ Fr (fun k => k = w.heap.size) w2 w')
    (first
      | exact HS.out _ (Fr.refl _ _)
      | exact HS.out _ (Fr.refl _ _).drew
      | exact HS.out _ HF3.out
      | exact HS.out _ (Fr.setCell (Fr.setCell (Fr.setCell HF3.out (p := ⟨w.heap.size, 0, none⟩) rfl _) (p := ⟨w.heap.size, 1, none⟩) rfl _) (p := ⟨w.heap.size, 2, none⟩) rfl _)
      | (go_split_ands; exact HS.out _ (by assumption))
      | fail)
    (first
      | (go_at_call 68
         refine (cut_calls ⟨s.toArray⟩ i' i'' hs hi' hi'' _).mono ?_
         rintro e w' ⟨rfl, rfl⟩)
      | (go_at_call 46
         refine (text_calls (cutP s i' i'') _).mono ?_
         rintro e w3 ⟨rfl, hb3⟩
         have HF3 : Asd (Fr (fun k => k = w.heap.size) w2 w3) := Asd.mk ((Fr.refl _ w2).drew.trans (Fr.of_below hb3) (fun _ h _ => h) (fun _ h _ => h))
         have HX3 := Asd.mk (blk_below hb3 (drewb HX2.out))
         have HB3 : Asd (Below w.heap.size w w3) := Asd.mk (HB2.out.drew.trans (hb3.mono HB2.out.drew.size))
         obtain ⟨⟨x0, x1, x2⟩, y0, y1, y2⟩ := zero_cells HX3.out
         unfold vC)
      | fail)
  go_wp2
  refine val_ret rfl w.heap.size _ _ _ rfl (put3_blk HX3.out _ _ _) rfl ?_
  exact ⟨below_put3 HB3.out (Nat.le_refl _) _ _ _, rfl⟩
theorem called_calls (f : Int) (vs : List Vl) (h1 : 1 ≤ f) (h5 : f ≤ 5) (hl : vs.length = opn f.toNat) (hr : ∀ v ∈ vs, RV v) (A : Option Addr) (c : Nat) (w : World) (hv : ValSl w A vs) :
    Calls Tryz.prog 51 #[.int .i64 f, .slice A vs.length c] w (EvR (calledV f vs) w) := by
  rcases (show f = 1 ∨ f = 2 ∨ f = 3 ∨ f = 4 ∨ f = 5 by omega) with rfl | rfl | rfl | rfl | rfl
  · obtain ⟨v, rfl⟩ := List.length_eq_one_iff.mp hl
    obtain ⟨g, o, rfl, h⟩ := hv (by simp)
    obtain ⟨k, i, s⟩ := v
    exact called_1 k i s g o c w h
  · obtain ⟨v, rfl⟩ := List.length_eq_one_iff.mp hl
    obtain ⟨g, o, rfl, h⟩ := hv (by simp)
    have hi := rv_int (hr v (by simp))
    obtain ⟨k, i, s⟩ := v
    have hi : inI i := hi
    by_cases hle : i = -9223372036854775808
    · rw [show calledV 2 [⟨k, i, s⟩] = .error 40 by simp [calledV, hle]]
      exact called_2l k i s (by rw [hle]; rfl) g o c w h
    · rw [show calledV 2 [⟨k, i, s⟩] = .ok (vNum (max i (-i))) by
        simp only [calledV, if_neg hle]
        by_cases hn : i < 0
        · rw [if_pos hn, Int.max_eq_right (by omega)]
        · rw [if_neg hn, Int.max_eq_left (by omega)]]
      exact called_2 k i s (by simpa using hle) (by have := hi.1; omega) hi.2 g o c w h
  · obtain ⟨v, rfl⟩ := List.length_eq_one_iff.mp hl
    obtain ⟨g, o, rfl, h⟩ := hv (by simp)
    have hs := rv_len (hr v (by simp))
    obtain ⟨k, i, s⟩ := v
    exact called_3 k i s hs g o c w h
  · obtain ⟨v, rfl⟩ := List.length_eq_one_iff.mp hl
    obtain ⟨g, o, rfl, h⟩ := hv (by simp)
    have hs := rv_len (hr v (by simp))
    obtain ⟨k, i, s⟩ := v
    exact called_4 k i s hs g o c w h
  · obtain ⟨v, v', v'', rfl⟩ : ∃ a b c, vs = [a, b, c] := by
      match vs, hl with
      | [a, b, c], _ => exact ⟨a, b, c, rfl⟩
    obtain ⟨g, o, rfl, h⟩ := hv (by simp)
    have hs := rv_len (hr v (by simp))
    have hi' := rv_int (hr v' (by simp))
    have hi'' := rv_int (hr v'' (by simp))
    obtain ⟨k, i, s⟩ := v
    obtain ⟨k', i', s'⟩ := v'
    obtain ⟨k'', i'', s''⟩ := v''
    exact called_5 k i k' i' k'' i'' s s' s'' hs hi' hi'' g o c w h
theorem fj_of {f : Int} {n j : Nat} (h1 : 1 ≤ f) (h5 : f ≤ 5) (hn : n = opn f.toNat) (hj : j < n) : FJ f j := by
  unfold FJ
  rcases (show f = 1 ∨ f = 2 ∨ f = 3 ∨ f = 4 ∨ f = 5 by omega) with rfl | rfl | rfl | rfl | rfl
  all_goals
    simp [opn] at hn
    subst hn
    omega
structure CallW (W : World) (po pl : Nat) (f : Int) (A : Option Addr) (n c : Nat) (vs : List Vl) : Prop where
  o : W.heap[po]? = some (.cells #[.int .i64 f] 3 (0, 0))
  l : W.heap[pl]? = some (.cells #[.slice A n c] 27 (0, 0))
  v : ValSl W A vs
theorem CallW.below {W W' : World} {po pl : Nat} {f : Int} {A : Option Addr} {n c : Nat} {vs : List Vl} (h : CallW W po pl f A n c vs) (hb : Below W.heap.size W W') : CallW W' po pl f A n c vs := ⟨blk_below hb h.o, blk_below hb h.l, h.v.below hb⟩
set_option maxRecDepth 100000 in
theorem ecall1_calls (f : Int) (vs : List Vl) (h1 : 1 ≤ f) (h5 : f ≤ 5) (hl : vs.length = opn f.toNat) (hr : ∀ v ∈ vs, RV v) (po pl : Nat) (A : Option Addr) (c : Nat) (w : World) (h : CallW w po pl f A vs.length c vs) :
    Calls Tryz.prog 48 #[.pointer (some ⟨po, 0, none⟩), .pointer (some ⟨pl, 0, none⟩)] w (EvR (callV f vs) w) := by
  have hf6 : (f == 6) = false := by rw [beq_eq_false_iff_ne]; omega
  have HT : Asd (∀ j (hj : j < vs.length), ∀ W, Calls Tryz.prog 50 #[.int .i64 f, .int .i64 (j : Int), .int .i64 vs[j].kind] W fun e w' => e = .returned (.bool (takesP f j vs[j].kind)) ∧ w' = W) := Asd.mk fun j hj W => takes_calls f j _ (fj_of h1 h5 hl hj) (rv_kind (hr _ (List.getElem_mem hj))) W
  have HC := Asd.mk (called_calls f vs h1 h5 hl hr A c)
  have HA := Asd.mk (args_calls f h1 h5)
  have hn0 : 0 < vs.length := by
    rw [hl]
    unfold opn
    split
    · omega
    · split <;> omega
  have hn3 : vs.length ≤ 3 := by
    rw [hl]
    unfold opn
    split
    · omega
    · split <;> omega
  rw [← hl] at HA
  have HW := Asd.mk h
  have HX := Asd.mk (blk_new w zeroV)
  have HB : Asd (Below w.heap.size w (w.alloc zeroV)) := Asd.mk (below_alloc (Below.refl _ _) _)
  clear h hl hr
  generalize hn : vs.length = n at HC HA hn0 hn3 HW ⊢
  have HN := Asd.mk hn
  clear hn
  go_enter Tryz.func48, Tryz.ntmps48
  go_upto_region 1 with fail
  generalize w.alloc _ = w1 at HX HB ⊢
  have HW1 := Asd.mk (HW.out.below HB.out)
  have o0 := (blk_cell HW1.out.o 0).trans rfl
  have l0 := (blk_cell HW1.out.l 0).trans rfl
  go_wp2_with fail
  refine (HA.out _).mono ?_
  rintro e w' ⟨rfl, hw⟩
  rw [hw]
  clear hw
  go_wp2_with fail
  refine (check_ok 5 _).mono ?_
  rintro e w' ⟨rfl, hw⟩
  rw [hw]
  clear hw
  go_upto_region 2 with fail
  have HS : Asd (∀ w', Below w1.heap.size w1 w' → w'.cell? ⟨po, 0, none⟩ = some (.int .i64 f) ∧ w'.cell? ⟨pl, 0, none⟩ = some (.slice A n c) ∧ Below w1.heap.size w1 w') := Asd.mk fun w' hb =>
    ⟨(blk_cell (HW1.out.below hb).o 0).trans rfl, (blk_cell (HW1.out.below hb).l 0).trans rfl, hb⟩
  clear o0 l0
  go_region_held3 (fun w' => w'.cell? ⟨po, 0, none⟩ = some (.int .i64 f) ∧ w'.cell? ⟨pl, 0, none⟩ = some (.slice A n c) ∧ Below w1.heap.size w1 w')
    (first
      | exact HS.out _ (Below.refl _ _)
      | exact HS.out _ (Below.refl _ _).drew
      | (go_split_ands; exact HS.out _ (by assumption))
      | fail)
    (first
      | (go_at_call 49
         refine (HA.out _).mono ?_
         rintro e w' ⟨rfl, hw⟩
         rw [hw]
         clear hw)
      | (go_at_call 38
         refine (check_ok 37 _).mono ?_
         rintro e w' ⟨rfl, hw⟩
         rw [hw]
         clear hw)
      | fail)
  have HB2 : Asd (Below w1.heap.size w1 w1.drew) := Asd.mk (Below.refl _ _).drew
  generalize w1.drew = w2 at HB2 ⊢
  have o0 := (HS.out _ HB2.out).1
  have l0 := (HS.out _ HB2.out).2.1
  clear HS
  have HB1 := HB2
  go_wp2
  go_loopw [49, 5] (fun i nl wr => ∃ (k : Nat) (b : Bool), k ≤ n ∧ i = .int .i64 (k : Int) ∧ nl = .bool b ∧ Asd (takesL f 0 vs = takesL f k (vs.drop k)) ∧ Asd (vs.any (fun v => v.kind == 0) = (b || (vs.drop k).any (fun v => v.kind == 0))) ∧ Asd (Below w1.heap.size w1 wr)) (fun i _ _ => n - (intOf i).toNat)
  case atStart => exact ⟨0, false, by omega, rfl, rfl, ⟨rfl⟩, ⟨by rw [List.drop_zero, Bool.false_or]⟩, ⟨HB1.out⟩⟩
  case round =>
    obtain ⟨k, b, hk, rfl, rfl, HTL, HNL, HBR⟩ := hrel
    clear o0 l0
    have HWR := Asd.mk (HW1.out.below HBR.out)
    have HXR := Asd.mk (blk_below HBR.out HX.out)
    have o0 := (blk_cell HWR.out.o 0).trans rfl
    have l0 := (blk_cell HWR.out.l 0).trans rfl
    by_cases hlt : k < n
    · have hkv : k < vs.length := by rw [HN.out]; exact hlt
      obtain ⟨g, o, rfl, hv⟩ := HWR.out.v (by omega)
      obtain ⟨x0, x1, x2⟩ := hv k hkv
      have HTK := Asd.mk (HT.out k hkv)
      have HD : Asd (vs.drop k = vs[k] :: vs.drop (k + 1)) := Asd.mk (List.drop_eq_getElem_cons hkv)
      rw [HD.out] at HTL HNL
      generalize vs[k] = v at x0 x1 x2 HTK HTL HNL
      clear hv hkv HD
      have HV3 := Asd.mk (blk_new wr (vK v))
      have HB3 : Asd (Below wr.heap.size wr (wr.alloc (vK v))) := Asd.mk (below_alloc (Below.refl _ _) _)
      go_upto_region 13 with fail
      generalize wr.alloc _ = w3 at HV3 HB3 ⊢
      clear o0 l0 x0 x1 x2
      have HBW3 : Asd (Below w1.heap.size w1 w3) := Asd.mk (HBR.out.trans (HB3.out.mono HBR.out.size))
      have o0 := (blk_cell (HWR.out.below HB3.out).o 0).trans rfl
      obtain ⟨v0, v1, v2⟩ := val_cells HV3.out
      go_wp2_with fail
      refine (HTK.out _).mono ?_
      rintro e w' ⟨rfl, hw⟩
      rw [hw]
      clear hw
      cases ht : takesP f k v.kind with
      | false =>
        have HF : Asd (callV f vs = .error 35) := Asd.mk (by unfold callV; rw [HTL.out, takesL, ht]; rfl)
        clear ht
        go_wp2_with fail
        refine (check_no 35 _).mono ?_
        rintro e w' ⟨rfl, hw⟩
        rw [hw]
        clear hw
        go_wp2
        rw [HF.out]
        exact ⟨rfl, HB.out.trans (HBW3.out.mono HB.out.size), rfl⟩
      | true =>
        have HTL2 : Asd (takesL f 0 vs = takesL f (k + 1) (vs.drop (k + 1))) := Asd.mk (by rw [HTL.out, takesL, ht, Bool.true_and])
        clear ht
        go_wp2_with fail
        refine (check_ok 35 _).mono ?_
        rintro e w' ⟨rfl, hw⟩
        rw [hw]
        clear hw
        cases b with
        | true =>
          have HNL2 : Asd (vs.any (fun v => v.kind == 0) = (true || (vs.drop (k + 1)).any (fun v => v.kind == 0))) := Asd.mk (by rw [HNL.out]; rfl)
          go_wp2
          go_roundw
          case rel => exact ⟨k + 1, true, by omega, by go_num, rfl, HTL2, HNL2, HBW3⟩
          case measure => simp [intOf]; omega
        | false =>
          have HNL2 : Asd (vs.any (fun v => v.kind == 0) = ((v.kind == 0) || (vs.drop (k + 1)).any (fun v => v.kind == 0))) := Asd.mk (by rw [HNL.out, List.any_cons, Bool.false_or])
          go_wp2
          go_roundw
          case rel => exact ⟨k + 1, (v.kind == 0), by omega, by go_num, rfl, HTL2, HNL2, HBW3⟩
          case measure => simp [intOf]; omega
    · obtain rfl : k = n := by omega
      have HDN : Asd (vs.drop k = []) := Asd.mk (List.drop_of_length_le (Nat.le_of_eq HN.out))
      rw [HDN.out] at HTL HNL
      obtain ⟨⟨x0, x1, x2⟩, y0, y1, y2⟩ := zero_cells HXR.out
      have HBX : Asd (Below w.heap.size w wr) := Asd.mk (HB.out.trans (HBR.out.mono HB.out.size))
      have HVS := Asd.mk HWR.out.v
      cases b with
      | true =>
        have HF : Asd (callV f vs = .ok vNull) := Asd.mk (by unfold callV; rw [HTL.out, HNL.out]; rfl)
        go_wp2
        refine val_ret rfl w.heap.size _ _ _ rfl (put3_blk HXR.out _ _ _) rfl ?_
        rw [HF.out]
        exact ⟨below_put3 HBX.out (Nat.le_refl _) _ _ _, rfl⟩
      | false =>
        have HF : Asd (callV f vs = calledV f vs) := Asd.mk (by unfold callV; rw [HTL.out, HNL.out]; rfl)
        go_wp2_with fail
        refine (HC.out _ HVS.out).mono ?_
        rintro e w4 ⟨hb4, hm⟩
        have HB4 : Asd (Below w.heap.size w w4) := Asd.mk (HBX.out.trans (hb4.mono HBX.out.size))
        have HX4 := Asd.mk (blk_below hb4 HXR.out)
        clear o0 l0 x0 x1 x2 y0 y1 y2 hb4
        obtain ⟨⟨x0, x1, x2⟩, y0, y1, y2⟩ := zero_cells HX4.out
        cases hr : calledV f vs with
        | ok u =>
          rw [hr] at hm
          simp only at hm
          obtain rfl := hm
          have HRR : Asd (callV f vs = .ok u) := Asd.mk (HF.out.trans hr)
          clear hr
          unfold vC
          go_wp2
          refine val_ret rfl w.heap.size _ _ _ rfl (put3_blk HX4.out _ _ _) rfl ?_
          rw [HRR.out]
          exact ⟨below_put3 HB4.out (Nat.le_refl _) _ _ _, rfl⟩
        | error m =>
          rw [hr] at hm
          simp only at hm
          obtain rfl := hm
          have HRR : Asd (callV f vs = .error m) := Asd.mk (HF.out.trans hr)
          clear hr
          go_wp2
          rw [HRR.out]
          exact ⟨rfl, HB4.out, rfl⟩
set_option maxRecDepth 100000 in
theorem ecall_calls (f : Int) (vs : List Vl) (h1 : 1 ≤ f) (h5 : f ≤ 5) (hl : vs.length = opn f.toNat) (hr : ∀ v ∈ vs, RV v) (A : Option Addr) (c : Nat) (w : World) (hv : ValSl w A vs) : Calls Tryz.prog 24 #[.int .i64 f, .slice A vs.length c] w (Ev2 (callV f vs) w) := by
  have hmf := mk_func
  have HC := Asd.mk (ecall1_calls f vs h1 h5 hl hr)
  generalize callV f vs = r at HC ⊢
  have HW : Asd (CallW (((w.alloc (.cells #[.int .i64 f] 3 (0, 0))).alloc (.cells #[.slice A vs.length c] 27 (0, 0))).alloc zeroV) w.heap.size (w.heap.size + 1) f A vs.length c vs) := Asd.mk ⟨blk_alloc (blk_alloc (blk_new w _) _) _, blk_alloc (nb1 w _ _) _, hv.below (below_alloc (below_alloc (below_alloc (Below.refl _ _) _) _) _)⟩
  have HX := Asd.mk (nb2 w (.cells #[.int .i64 f] 3 (0, 0)) (.cells #[.slice A vs.length c] 27 (0, 0)) zeroV)
  have HB : Asd (Below w.heap.size w (((w.alloc (.cells #[.int .i64 f] 3 (0, 0))).alloc (.cells #[.slice A vs.length c] 27 (0, 0))).alloc zeroV)) := Asd.mk (below_alloc (below_alloc (below_alloc (Below.refl _ _) _) _) _)
  clear h1 h5 hl hr hv
  go_enter Tryz.func24, Tryz.ntmps24
  go_upto_region 1 with fail
  generalize (((w.alloc (.cells #[.int .i64 f] 3 (0, 0))).alloc (.cells #[.slice A vs.length c] 27 (0, 0))).alloc zeroV) = w1 at HW HX HB ⊢
  go_wp2_with fail
  refine (caught_calls 48 _ r _ (isGo_of Tryz.func48 (by decide) rfl) fun W hW => HC.out _ _ _ _ W (HW.out.below hW)).mono ?_
  rintro e w2 ⟨hb2, rfl⟩
  have HX2 := Asd.mk (blk_below hb2 HX.out)
  have HB2 : Asd (Below w.heap.size w w2) := Asd.mk (HB.out.trans (hb2.mono HB.out.size))
  clear hb2
  obtain ⟨⟨x0, x1, x2⟩, y0, y1, y2⟩ := zero_cells HX2.out
  cases r with
  | ok u =>
    unfold vC
    go_wp2
    refine val_ret2 rfl (w.heap.size + 1 + 1) _ _ _ rfl (put3_blk HX2.out _ _ _) rfl ?_
    exact ⟨below_put3 HB2.out (by omega) _ _ _, rfl⟩
  | error n =>
    unfold vC
    simp only [vNull]
    go_wp2
    refine val_ret2 rfl (w.heap.size + 1 + 1) _ _ _ rfl (put3_blk HX2.out _ _ _) rfl ?_
    exact ⟨below_put3 HB2.out (by omega) _ _ _, rfl⟩

def KnAt (P : Nat → Prop) (W : World) (g o : Nat) (q : Ex × Vl) : Prop := ∃ A n c, RowC W g o q.1 (.slice A n c) ∧ Held P W q.1.args (.slice A n c) ∧ ValAt W g (o + 10) q.2
theorem KnAt.below {P : Nat → Prop} {W W' : World} {g o : Nat} {q : Ex × Vl} (h : KnAt P W g o q) (hb : Below W.heap.size W W') : KnAt P W' g o q := by
  obtain ⟨A, n, c, h1, h2, h3⟩ := h
  exact ⟨A, n, c, h1.below hb, held_below h2 hb, h3.below hb⟩
def KnSl (P : Nat → Prop) (W : World) (A : Option Addr) (ks : List (Ex × Vl)) : Prop := 0 < ks.length → ∃ g o, A = some ⟨g, o, none⟩ ∧ ∀ i (h : i < ks.length), KnAt P W g (o + i * 13) ks[i]
theorem KnSl.below {P : Nat → Prop} {W W' : World} {A : Option Addr} {ks : List (Ex × Vl)} (h : KnSl P W A ks) (hb : Below W.heap.size W W') : KnSl P W' A ks := fun h0 => by
  obtain ⟨g, o, rfl, h1⟩ := h h0
  exact ⟨g, o, rfl, fun i hi => (h1 i hi).below hb⟩
theorem knownV_cons (q : Ex × Vl) (ks : List (Ex × Vl)) (x : Ex) : knownV (q :: ks) x = if sameE q.1 x then some q.2 else knownV ks x := by
  unfold knownV
  rw [List.find?_cons]
  cases sameE q.1 x <;> rfl
def kV (q : Ex × Vl) (s : Value) : Value := .agg #[.int .i64 q.1.kind, .int .i64 q.1.op, .int .i64 q.1.v.kind, .int .i64 q.1.v.int, .string ⟨q.1.v.text.toArray⟩, .string ⟨q.1.table.toArray⟩, .string ⟨q.1.name.toArray⟩, .int .i64 q.1.col, .int .i64 q.1.ty, s, .int .i64 q.2.kind, .int .i64 q.2.int, .string ⟨q.2.text.toArray⟩]
abbrev kK (q : Ex × Vl) (s : Value) : Obj := .cells #[.int .i64 q.1.kind, .int .i64 q.1.op, .int .i64 q.1.v.kind, .int .i64 q.1.v.int, .string ⟨q.1.v.text.toArray⟩, .string ⟨q.1.table.toArray⟩, .string ⟨q.1.name.toArray⟩, .int .i64 q.1.col, .int .i64 q.1.ty, s, .int .i64 q.2.kind, .int .i64 q.2.int, .string ⟨q.2.text.toArray⟩] 39 (0, 0)
set_option maxRecDepth 100000 in
theorem clos_calls (q : Ex × Vl) (A1 : Option Addr) (n1 c1 : Nat) (x : Ex) (A2 : Option Addr) (n2 c2 : Nat) (pe : Nat) (P Q : Nat → Prop) (w : World) (hf : fewE q.1) (hq : Held P w q.1.args (.slice A1 n1 c1)) (hx : w.heap[pe]? = some (xK x (.slice A2 n2 c2))) (hhx : Held Q w x.args (.slice A2 n2 c2)) :
    Calls Tryz.prog 17 #[kV q (.slice A1 n1 c1), .pointer (some ⟨pe, 0, none⟩)] w fun e w' => e = .returned (.bool (sameE q.1 x)) ∧ Below w.heap.size w w' := by
  have HS := Asd.mk (fun W (hb : Below w.heap.size w W) => same_calls P Q q.1 x (.slice A1 n1 c1) (.slice A2 n2 c2) W hf (held_below hq hb) (held_below hhx hb))
  have HK := Asd.mk (blk_new w (kK q (.slice A1 n1 c1)))
  have HB : Asd (Below w.heap.size w (w.alloc (kK q (.slice A1 n1 c1)))) := Asd.mk (below_alloc (Below.refl _ _) _)
  have HX := Asd.mk (blk_below HB.out hx)
  clear hf hq hx hhx
  unfold kV
  go_enter Tryz.func17, Tryz.ntmps17
  go_upto_region 1 with fail
  generalize w.alloc _ = w1 at HK HB HX ⊢
  obtain ⟨e0, e1, e2, e3, e4, e5, e6, e7, e8, e9⟩ := ex_cells (x := x) HX.out
  have k0 := (blk_cell HK.out 0).trans rfl
  have k1 := (blk_cell HK.out 1).trans rfl
  have k2 := (blk_cell HK.out 2).trans rfl
  have k3 := (blk_cell HK.out 3).trans rfl
  have k4 := (blk_cell HK.out 4).trans rfl
  have k5 := (blk_cell HK.out 5).trans rfl
  have k6 := (blk_cell HK.out 6).trans rfl
  have k7 := (blk_cell HK.out 7).trans rfl
  have k8 := (blk_cell HK.out 8).trans rfl
  have k9 := (blk_cell HK.out 9).trans rfl
  go_wp2_with fail
  refine (HS.out _ HB.out).mono ?_
  rintro e w2 ⟨rfl, hb2⟩
  have HB2 : Asd (Below w.heap.size w w2) := Asd.mk (HB.out.trans (hb2.mono HB.out.size))
  clear e0 e1 e2 e3 e4 e5 e6 e7 e8 e9 k0 k1 k2 k3 k4 k5 k6 k7 k8 k9 hb2
  go_wp2
  go_ret
  exact ⟨rfl, HB2.out⟩
def FoundR (ks : List (Ex × Vl)) (x : Ex) (w : World) (e : Ending) (w' : World) : Prop := Below w.heap.size w w' ∧
  ((∃ i, ∃ h : i < ks.length, e = .returned (.int .i64 (i : Int)) ∧ knownV ks x = some ks[i].2) ∨ (e = .returned (.int .i64 (-1)) ∧ knownV ks x = none))
set_option maxRecDepth 100000 in
theorem index_calls (ks : List (Ex × Vl)) (hn : ks.length ≤ 1048576) (A : Option Addr) (c : Nat) (x : Ex) (A2 : Option Addr) (n2 c2 : Nat) (pe : Nat) (P Q : Nat → Prop) (w : World) (hf : ∀ q ∈ ks, fewE q.1) (hk : KnSl P w A ks) (hx : w.heap[pe]? = some (xK x (.slice A2 n2 c2))) (hhx : Held Q w x.args (.slice A2 n2 c2)) :
    Calls Tryz.prog 16 #[.slice A ks.length c, .func (.func 17) #[] #[.pointer (some ⟨pe, 0, none⟩)]] w (FoundR ks x w) := by
  have hcf : ∀ (args : Array Value) (w : World), (callFunc 17 args).run Tryz.prog w = .ok (.enter 17 args) w := isGo_of Tryz.func17 (by decide) rfl
  have HF := Asd.mk hf
  have HK := Asd.mk hk
  have HX := Asd.mk hx
  have HH := Asd.mk hhx
  generalize hm : ks.length = m at hn ⊢
  have HM := Asd.mk hm
  clear hf hk hx hhx hm
  go_enter Tryz.func16, Tryz.ntmps16
  go_wp2
  go_loopw [8] (fun i wr => ∃ k : Nat, k ≤ m ∧ i = .int .i64 (k : Int) ∧ Asd (Below w.heap.size w wr) ∧ Asd (knownV ks x = knownV (ks.drop k) x)) (fun i _ => m - (intOf i).toNat)
  case atStart => exact ⟨0, by omega, rfl, ⟨Below.refl _ _⟩, ⟨rfl⟩⟩
  case round =>
    obtain ⟨k, hk, rfl, HB, HQ⟩ := hrel
    by_cases hlt : k < m
    · have hkv : k < ks.length := by rw [HM.out]; exact hlt
      obtain ⟨g, o, rfl, hv⟩ := (HK.out.below HB.out) (by omega)
      obtain ⟨A1, n1, c1, hr, hh, x10, x11, x12⟩ := hv k hkv
      have HD : Asd (ks.drop k = ks[k] :: ks.drop (k + 1)) := Asd.mk (List.drop_eq_getElem_cons hkv)
      have HFK := Asd.mk (HF.out _ (List.getElem_mem hkv))
      have HYES : Asd (sameE ks[k].1 x = true → knownV ks x = some ks[k].2) := Asd.mk fun h => by rw [HQ.out, HD.out, knownV_cons, if_pos h]
      have HNO : Asd (sameE ks[k].1 x = false → knownV ks x = knownV (ks.drop (k + 1)) x) := Asd.mk fun h => by rw [HQ.out, HD.out, knownV_cons, h]; rfl
      have HFIN : Asd (∀ w', Below w.heap.size w w' → knownV ks x = some ks[k].2 → FoundR ks x w (.returned (.int .i64 (k : Int))) w') := Asd.mk fun w' hb h => ⟨hb, .inl ⟨k, hkv, rfl, h⟩⟩
      generalize ks[k] = q at hr hh x10 x11 x12 HFK HYES HNO HFIN
      have HHK := Asd.mk hh
      have x0 : wr.cell? ⟨g, o + k * 13, none⟩ = some (.int .i64 q.1.kind) := hr 0 (by omega)
      have x1 : wr.cell? ⟨g, o + k * 13 + 1, none⟩ = some (.int .i64 q.1.op) := hr 1 (by omega)
      have x2 : wr.cell? ⟨g, o + k * 13 + 2, none⟩ = some (.int .i64 q.1.v.kind) := hr 2 (by omega)
      have x3 : wr.cell? ⟨g, o + k * 13 + 3, none⟩ = some (.int .i64 q.1.v.int) := hr 3 (by omega)
      have x4 : wr.cell? ⟨g, o + k * 13 + 4, none⟩ = some (.string ⟨q.1.v.text.toArray⟩) := hr 4 (by omega)
      have x5 : wr.cell? ⟨g, o + k * 13 + 5, none⟩ = some (.string ⟨q.1.table.toArray⟩) := hr 5 (by omega)
      have x6 : wr.cell? ⟨g, o + k * 13 + 6, none⟩ = some (.string ⟨q.1.name.toArray⟩) := hr 6 (by omega)
      have x7 : wr.cell? ⟨g, o + k * 13 + 7, none⟩ = some (.int .i64 q.1.col) := hr 7 (by omega)
      have x8 : wr.cell? ⟨g, o + k * 13 + 8, none⟩ = some (.int .i64 q.1.ty) := hr 8 (by omega)
      have x9 : wr.cell? ⟨g, o + k * 13 + 9, none⟩ = some (.slice A1 n1 c1) := hr 9 (by omega)
      have x11 : wr.cell? ⟨g, o + k * 13 + 11, none⟩ = some (.int .i64 q.2.int) := x11
      have x12 : wr.cell? ⟨g, o + k * 13 + 12, none⟩ = some (.string ⟨q.2.text.toArray⟩) := x12
      clear HD hv hr hh hkv
      have HXR := Asd.mk (blk_below HB.out HX.out)
      have HHR := Asd.mk (held_below HH.out HB.out)
      go_wp2_with fail
      refine (clos_calls q A1 n1 c1 x A2 n2 c2 pe P Q _ HFK.out HHK.out HXR.out HHR.out).mono ?_
      rintro e w2 ⟨rfl, hb2⟩
      have HB2 : Asd (Below w.heap.size w w2) := Asd.mk (HB.out.trans (hb2.mono HB.out.size))
      clear x0 x1 x2 x3 x4 x5 x6 x7 x8 x9 x10 x11 x12 hb2
      cases hs : sameE q.1 x with
      | true =>
        have HS := Asd.mk (HYES.out hs)
        clear hs
        go_wp2
        go_ret
        exact HFIN.out _ HB2.out HS.out
      | false =>
        have HS := Asd.mk (HNO.out hs)
        clear hs
        go_wp2
        go_roundw
        case rel => exact ⟨k + 1, by omega, by go_num, HB2, HS⟩
        case measure => simp [intOf]; omega
    · have HS : Asd (knownV ks x = none) := Asd.mk (by rw [HQ.out, List.drop_of_length_le (by rw [HM.out]; omega)]; rfl)
      clear HQ
      go_wp2
      go_ret
      exact ⟨HB.out, .inr ⟨rfl, HS.out⟩⟩

structure EnvW (P : Nat → Prop) (W : World) (RA : Option Addr) (KA : Option Addr) (row : List Vl) (ks : List (Ex × Vl)) : Prop where
  vals : ValSl W RA row
  rlen : row.length ≤ 1048576
  rrv : ∀ v ∈ row, RV v
  kn : KnSl P W KA ks
  klen : ks.length ≤ 1048576
  krv : ∀ q ∈ ks, RV q.2
  few : ∀ q ∈ ks, fewE q.1
theorem EnvW.below {P : Nat → Prop} {W W' : World} {RA KA : Option Addr} {row : List Vl} {ks : List (Ex × Vl)} (h : EnvW P W RA KA row ks) (hb : Below W.heap.size W W') : EnvW P W' RA KA row ks := ⟨h.vals.below hb, h.rlen, h.rrv, h.kn.below hb, h.klen, h.krv, h.few⟩
def EvalOK (row : List Vl) (ks : List (Ex × Vl)) (x : Ex) : Prop := ∀ (P Q : Nat → Prop) (A RA KA : Option Addr) (c rc kc : Nat) (w : World), EnvW P w RA KA row ks → Held Q w x.args (.slice A x.args.length c) →
  Calls Tryz.prog 11 #[exV x (.slice A x.args.length c), .slice RA row.length rc, .slice KA ks.length kc] w (Ev2 (evE row ks x) w)
theorem ev2_ok {r : Ev} {w w' : World} {v : Vl} (h : r = .ok v) (hb : Below w.heap.size w w') : Ev2 r w (.returned (.tuple #[vC v, .int .i64 0])) w' := ⟨hb, by rw [h]⟩
theorem ev2_err {r : Ev} {w w' : World} {n : Int} (h : r = .error n) (hb : Below w.heap.size w w') : Ev2 r w (.returned (.tuple #[vC vNull, .int .i64 n])) w' := ⟨hb, by rw [h]⟩

theorem one_empty {row : List Vl} {x : Ex} {r : EvL} (h : emptyE x = true) : oneE row x r = .error 5 := by unfold oneE; rw [h]; rfl
theorem one_lit {row : List Vl} {x : Ex} {r : EvL} (h : emptyE x = false) (hk : x.kind = 1) : oneE row x r = .ok x.v := by unfold oneE; rw [h, if_neg (by decide), if_pos hk]
theorem one_agg {row : List Vl} {x : Ex} {r : EvL} (h : emptyE x = false) (hk : x.kind = 6) : oneE row x r = .error 36 := by unfold oneE; rw [h, if_neg (by decide), if_neg (by omega), if_pos hk]
theorem one_col {row : List Vl} {x : Ex} {r : EvL} (h : emptyE x = false) (hk : x.kind = 2) : oneE row x r = colV row x.col := by unfold oneE; rw [h, if_neg (by decide), if_neg (by omega), if_neg (by omega), if_pos hk]
theorem one_rest {row : List Vl} {x : Ex} {r : EvL} (h : emptyE x = false) (h1 : ¬ x.kind = 1) (h6 : ¬ x.kind = 6) (h2 : ¬ x.kind = 2) : oneE row x r = resL x.kind x.op r := by unfold oneE; rw [h, if_neg (by decide), if_neg h1, if_neg h6, if_neg h2]
theorem shape_of {x : Ex} (h : emptyE x = false) (h1 : ¬ x.kind = 1) (h6 : ¬ x.kind = 6) (h2 : ¬ x.kind = 2) : (x.kind = 3 ∧ (x.op = 1 ∨ x.op = 2) ∧ x.args.length = 1) ∨ (x.kind = 7 ∧ (x.op = 0 ∨ x.op = 1) ∧ x.args.length = 1) ∨ (x.kind = 5 ∧ 1 ≤ x.op ∧ x.op ≤ 6 ∧ x.args.length = opn x.op.toNat) ∨ (x.kind = 4 ∧ 3 ≤ x.op ∧ x.op ≤ 16 ∧ x.args.length = 2) := by
  unfold emptyE at h
  rw [Bool.or_eq_false_iff] at h
  have hl := h.1
  unfold lnG at hl
  split at hl
  · rename_i hc; omega
  · split at hl
    · rename_i hc; exact .inr (.inr (.inl hc))
    · split at hl
      · rename_i hc; exact absurd hc.1 h6
      · split at hl
        · rename_i hc; exact .inl ⟨hc.1, .inr hc.2.1, hc.2.2⟩
        · split at hl
          · rename_i hc; exact .inl ⟨hc.1, .inl hc.2.1, hc.2.2⟩
          · split at hl
            · rename_i hc; exact .inr (.inl hc)
            · split at hl
              · rename_i hc; exact .inr (.inr (.inr hc))
              · simp at hl
theorem colV_at {row : List Vl} {c : Int} {j : Nat} (hc : c = (j : Int)) (h : j < row.length) : colV row c = .ok row[j] := by
  subst hc
  unfold colV
  rw [if_neg (by omega), Int.toNat_natCast, List.getElem?_eq_getElem h]
theorem evL_err {row : List Vl} {ks : List (Ex × Vl)} {k o : Int} {f : Bool} {a : Ex} {l : List Ex} {n : Int} (h : evE row ks a = .error n) : evL row ks k o f (a :: l) = .err n := by rw [evL, h]
theorem evL_dec {row : List Vl} {ks : List (Ex × Vl)} {k o : Int} {f : Bool} {a : Ex} {l : List Ex} {v : Vl} (h : evE row ks a = .ok v) (hd : (f && decP k o v) = true) : evL row ks k o f (a :: l) = .dec v := by rw [evL, h]; simp only; rw [if_pos hd]
theorem evL_go {row : List Vl} {ks : List (Ex × Vl)} {k o : Int} {f : Bool} {a : Ex} {l : List Ex} {v : Vl} (h : evE row ks a = .ok v) (hd : (f && decP k o v) = false) : evL row ks k o f (a :: l) = (evL row ks k o false l).cons v := by rw [evL, h]; simp only; rw [if_neg (by rw [hd]; decide)]
theorem infoV' : (Tryz.prog.info? 23).map (fun i => (i.zero, i.size, i.bytes)) = some (some (.agg #[.int .i64 0, .int .i64 0, .string ⟨#[]⟩]), 3, 32) := by kernel_rfl
theorem info_partsV : ∃ i, Tryz.prog.info? 23 = some i ∧ i.zero = some (.agg #[.int .i64 0, .int .i64 0, .string ⟨#[]⟩]) ∧ i.size = 3 ∧ i.bytes = 32 := by
  cases hi : Tryz.prog.info? 23 with
  | none => have := infoV'; rw [hi] at this; cases this
  | some i =>
    have := infoV'
    rw [hi] at this
    simp only [Option.map_some, Option.some.injEq, Prod.mk.injEq] at this
    exact ⟨i, rfl, this.1, this.2.1, this.2.2⟩
def resVal : Ev → Vl
  | .ok v => v
  | .error _ => vNull
def resNum : Ev → Int
  | .ok _ => 0
  | .error n => n
theorem ev2_form {r : Ev} {w w' : World} {e : Ending} (h : Ev2 r w e w') : e = .returned (.tuple #[vC (resVal r), .int .i64 (resNum r)]) ∧ Below w.heap.size w w' := by
  obtain ⟨hb, he⟩ := h
  cases r <;> exact ⟨he, hb⟩
theorem ev2_of {r r' : Ev} {w w' : World} {u : Vl} {n : Int} (h : r = r') (hu : resVal r' = u) (hn : resNum r' = n) (hb : Below w.heap.size w w') : Ev2 r w (.returned (.tuple #[vC u, .int .i64 n])) w' := by
  subst h; subst hu; subst hn
  refine ⟨hb, ?_⟩
  cases r <;> rfl
theorem finP_un {k o : Int} {a : Vl} (h : k = 3) : finP k o [a] = unP o a := by subst h; rfl
theorem finP_is {k o : Int} {a : Vl} (h : k = 7) : finP k o [a] = .ok (vTru ((a.kind == 0) == (o == 0))) := by subst h; rfl
theorem finP_bin {k o : Int} {a b : Vl} (h : k = 4) : finP k o [a, b] = binP o a b := by subst h; rfl
theorem finP_two {k o : Int} {a b : Vl} (h : k = 5) : finP k o [a, b] = .ok b := by subst h; rfl
theorem finP_call {k o : Int} {l : List Vl} (h : k = 5) (hl : l.length ≠ 2) : finP k o l = callV o l := by
  subst h
  match l, hl with
  | [], _ => rfl
  | [a], _ => rfl
  | [a, b], hl => exact absurd rfl hl
  | a :: b :: c :: r, _ => rfl
def EvL.pre (vs : List Vl) (r : EvL) : EvL := vs.foldr EvL.cons r
theorem pre_err (vs : List Vl) (n : Int) : EvL.pre vs (.err n) = .err n := by
  induction vs with
  | nil => rfl
  | cons v r ih => show EvL.cons v (EvL.pre r (.err n)) = _; rw [ih]; rfl
theorem pre_snoc (vs : List Vl) (v : Vl) (r : EvL) : EvL.pre vs (r.cons v) = EvL.pre (vs ++ [v]) r := by
  unfold EvL.pre
  rw [List.foldr_append]
  rfl
theorem pre_all (vs : List Vl) : EvL.pre vs (.all []) = .all vs := by
  induction vs with
  | nil => rfl
  | cons v r ih => show EvL.cons v (EvL.pre r (.all [])) = _; rw [ih]; rfl
def valsC (vs : List Vl) : List Value := vs.flatMap fun v => [.int .i64 v.kind, .int .i64 v.int, .string ⟨v.text.toArray⟩]
theorem valsC_snoc (vs : List Vl) (v : Vl) : valsC (vs ++ [v]) = valsC vs ++ [.int .i64 v.kind, .int .i64 v.int, .string ⟨v.text.toArray⟩] := by simp [valsC]
theorem valsC_at : ∀ (vs : List Vl) (i : Nat) (hi : i < vs.length), (valsC vs)[i * 3]? = some (.int .i64 vs[i].kind) ∧ (valsC vs)[i * 3 + 1]? = some (.int .i64 vs[i].int) ∧ (valsC vs)[i * 3 + 2]? = some (.string ⟨vs[i].text.toArray⟩)
  | v :: r, 0, hi => ⟨rfl, rfl, rfl⟩
  | v :: r, i + 1, hi => by
    have ih := valsC_at r i (by simpa using hi)
    have e : valsC (v :: r) = [.int .i64 v.kind, .int .i64 v.int, .string ⟨v.text.toArray⟩] ++ valsC r := rfl
    refine ⟨?_, ?_, ?_⟩
    · rw [e, List.getElem?_append_right (by simp; omega)]
      rw [show (i + 1) * 3 - [Value.int .i64 v.kind, .int .i64 v.int, .string ⟨v.text.toArray⟩].length = i * 3 by simp; omega]
      exact ih.1
    · rw [e, List.getElem?_append_right (by simp; omega)]
      rw [show (i + 1) * 3 + 1 - [Value.int .i64 v.kind, .int .i64 v.int, .string ⟨v.text.toArray⟩].length = i * 3 + 1 by simp; omega]
      exact ih.2.1
    · rw [e, List.getElem?_append_right (by simp; omega)]
      rw [show (i + 1) * 3 + 2 - [Value.int .i64 v.kind, .int .i64 v.int, .string ⟨v.text.toArray⟩].length = i * 3 + 2 by simp; omega]
      exact ih.2.2
theorem own_vals {W : World} {B : Nat} {A : Option Addr} {m c : Nat} {vs : List Vl} (h : W.ownsRow B 23 3 (.slice A m c) m (valsC vs)) (hm : m = vs.length) : ValSl W A vs := by
  intro h0
  rcases h.2 with ⟨_, h00⟩ | ⟨g, cap, cur, he, hb, hh, _⟩
  · omega
  · have hc := h.cells (g := g)
    injection he with h1 h2 h3
    subst h1
    refine ⟨g, 0, rfl, fun i hi => ?_⟩
    have hg := hc (by simp [Value.ownBlock])
    obtain ⟨e0, e1, e2⟩ := valsC_at vs i hi
    have f0 := hg _ _ e0
    have f1 := hg _ _ e1
    have f2 := hg _ _ e2
    rw [addr_add] at f0 f1 f2
    refine ⟨f0, ?_, ?_⟩
    · rw [← f1]; congr 1
    · rw [← f2]; congr 1
theorem own_at {W : World} {B : Nat} {A : Option Addr} {m c : Nat} {vs : List Vl} (h : W.ownsRow B 23 3 (.slice A m c) m (valsC vs)) (hm : m = vs.length) (h0 : 0 < vs.length) : ∃ g, A = some ⟨g, 0, none⟩ ∧ B ≤ g ∧ ∀ i (h : i < vs.length), ValAt W g (i * 3) vs[i] := by
  obtain ⟨g, o, rfl, hv⟩ := own_vals h hm h0
  rcases h.2 with ⟨_, h00⟩ | ⟨g', cap, cur, he, hb, _⟩
  · omega
  · injection he with h1 h2 h3
    injection h1 with h1
    injection h1 with h1 h2 h3
    subst h1; subst h2
    exact ⟨g, rfl, hb, fun i hi => by have := hv i hi; rwa [Nat.zero_add] at this⟩
theorem own_keep {W W' : World} {B : Nat} {e : TypeId} {s : Nat} {v : Value} {n : Nat} {xs : List Value} (h : W.ownsRow B e s v n xs) (hb : Below W.heap.size W W') : W'.ownsRow B e s v n xs := by
  refine ⟨h.1, ?_⟩
  rcases h.2 with h0 | ⟨g, cap, cur, hv, hbg, hh, rest⟩
  · exact .inl h0
  · exact .inr ⟨g, cap, cur, hv, hbg, blk_below hb hh, rest⟩
set_option maxRecDepth 100000 in
theorem eval_step (row : List Vl) (ks : List (Ex × Vl)) (x : Ex) (hx : rvX x) (hsub : ∀ i (h : i < x.args.length), EvalOK row ks x.args[i]) : EvalOK row ks x := by
  intro P Q A RA KA c rc kc w henv hheld
  have HEN := Asd.mk henv
  have HH := Asd.mk hheld
  have HSUB := Asd.mk hsub
  have HEV := Asd.mk (evE_eq row ks x)
  have HRX := Asd.mk hx
  have HRV := Asd.mk (evE_rv henv.rrv henv.krv x hx)
  clear henv hheld hsub hx
  have HX := Asd.mk (blk_alloc (blk_new w (xK x (.slice A x.args.length c))) zeroV)
  have HZ := Asd.mk (nb1 w (xK x (.slice A x.args.length c)) zeroV)
  have HB : Asd (Below w.heap.size w ((w.alloc (xK x (.slice A x.args.length c))).alloc zeroV)) := Asd.mk (below_alloc (below_alloc (Below.refl _ _) _) _)
  obtain ⟨i0, hi0, hz0, hz1, hz2⟩ := info_partsV
  have hmf := mk_func
  unfold exV
  go_enter Tryz.func11, Tryz.ntmps11
  go_upto_region 1 with fail
  generalize (w.alloc _).alloc _ = w1 at HX HZ HB ⊢
  have HEN1 := Asd.mk (HEN.out.below HB.out)
  have HH1 := Asd.mk (held_below HH.out HB.out)
  go_wp2_with fail
  refine (index_calls ks HEN.out.klen KA kc x A x.args.length c w.heap.size P Q _ HEN.out.few HEN1.out.kn HX.out HH1.out).mono ?_
  rintro e w2 ⟨hb2, hfound⟩
  have HB2 : Asd (Below w.heap.size w w2) := Asd.mk (HB.out.trans (hb2.mono HB.out.size))
  have HX2 := Asd.mk (blk_below hb2 HX.out)
  have HZ2 := Asd.mk (blk_below hb2 HZ.out)
  have HEN2 := Asd.mk (HEN1.out.below hb2)
  have HH2 := Asd.mk (held_below HH1.out hb2)
  have HSZ2 : Asd (w.heap.size + 2 ≤ w2.heap.size) := Asd.mk (blk_lt HZ2.out)
  clear hb2 HX HZ HEN1 HH1 HB
  obtain ⟨⟨z0, z1, z2⟩, y0, y1, y2⟩ := zero_cells HZ2.out
  rcases hfound with ⟨i, hi, rfl, hk⟩ | ⟨rfl, hk⟩
  · rw [hk] at HEV
    obtain ⟨g, o, rfl, hv⟩ := HEN2.out.kn (by omega)
    obtain ⟨_, _, _, hr, hh, k0, k1, k2⟩ := hv i hi
    clear hr hh
    generalize ks[i] = q at k0 k1 k2 HEV
    have k0 : w2.cell? ⟨g, o + i * 13 + 10, none⟩ = some (.int .i64 q.2.kind) := k0
    have k1 : w2.cell? ⟨g, o + i * 13 + 11, none⟩ = some (.int .i64 q.2.int) := k1
    have k2 : w2.cell? ⟨g, o + i * 13 + 12, none⟩ = some (.string ⟨q.2.text.toArray⟩) := k2
    have hgl := World.block_lt_of_cell? w2 _ k0
    clear hv hk
    have hi0 : (0 : Int) ≤ (i : Int) := by omega
    have hn := HEN.out.klen
    clear HEN HEN2
    generalize ks.length = n at hi hn ⊢
    go_wp2
    refine val_ret2 rfl (w.heap.size + 1) _ _ _ rfl (put3_blk HZ2.out _ _ _) rfl ?_
    exact ev2_ok HEV.out (below_put3 HB2.out (by omega) _ _ _)
  · rw [hk] at HEV
    clear hk
    obtain ⟨e0, e1, e2, e3, e4, e5, e6, e7, e8, e9⟩ := ex_cells (x := x) HX2.out
    go_wp2_with fail
    refine (empty_calls x (rvX_v HRX.out) A c _).mono ?_
    rintro e w3 ⟨rfl, hb3⟩
    have HB3 : Asd (Below w.heap.size w w3) := Asd.mk (HB2.out.trans (hb3.mono HB2.out.size))
    have HX3 := Asd.mk (blk_below hb3 HX2.out)
    have HZ3 := Asd.mk (blk_below hb3 HZ2.out)
    have HSZ3 : Asd (w.heap.size + 2 ≤ w3.heap.size) := Asd.mk (Nat.le_trans HSZ2.out hb3.size)
    clear e0 e1 e2 e3 e4 e5 e6 e7 e8 e9 z0 z1 z2 y0 y1 y2 hb3 HX2 HZ2 HSZ2 HB2 HEN2 HH2
    obtain ⟨e0, e1, e2, e3, e4, e5, e6, e7, e8, e9⟩ := ex_cells (x := x) HX3.out
    obtain ⟨⟨z0, z1, z2⟩, y0, y1, y2⟩ := zero_cells HZ3.out
    cases hem : emptyE x with
    | true =>
      have HR := Asd.mk (HEV.out.trans (one_empty hem))
      clear hem
      go_wp2
      refine val_ret2 rfl (w.heap.size + 1) _ _ _ rfl (put3_blk HZ3.out _ _ _) rfl ?_
      exact ev2_err HR.out (below_put3 HB3.out (by omega) _ _ _)
    | false =>
      have HEM := Asd.mk hem
      clear hem
      by_cases hk1 : x.kind = 1
      · have HR := Asd.mk (HEV.out.trans (one_lit HEM.out hk1))
        have hk1' : (x.kind == 1) = true := by rw [hk1]; rfl
        clear hk1
        go_wp2
        refine val_ret2 rfl (w.heap.size + 1) _ _ _ rfl (put3_blk HZ3.out _ _ _) rfl ?_
        exact ev2_ok HR.out (below_put3 HB3.out (by omega) _ _ _)
      have hk1' : (x.kind == 1) = false := by simpa using hk1
      by_cases hk6 : x.kind = 6
      · have HR := Asd.mk (HEV.out.trans (one_agg HEM.out hk6))
        have hk6' : (x.kind == 6) = true := by rw [hk6]; rfl
        clear hk6 hk1
        go_wp2
        refine val_ret2 rfl (w.heap.size + 1) _ _ _ rfl (put3_blk HZ3.out _ _ _) rfl ?_
        exact ev2_err HR.out (below_put3 HB3.out (by omega) _ _ _)
      have hk6' : (x.kind == 6) = false := by simpa using hk6
      by_cases hk2 : x.kind = 2
      · have HR := Asd.mk (HEV.out.trans (one_col HEM.out hk2))
        have hk2' : (x.kind == 2) = true := by rw [hk2]; rfl
        clear hk1 hk6 hk2
        have hrl := HEN.out.rlen
        by_cases hc0 : x.col < 0
        · have HR2 : Asd (evE row ks x = .error 2) := Asd.mk (by rw [HR.out]; unfold colV; rw [if_pos hc0])
          go_wp2
          refine val_ret2 rfl (w.heap.size + 1) _ _ _ rfl (put3_blk HZ3.out _ _ _) rfl ?_
          exact ev2_err HR2.out (below_put3 HB3.out (by omega) _ _ _)
        · by_cases hcr : (row.length : Int) ≤ x.col
          · have HR2 : Asd (evE row ks x = .error 2) := Asd.mk (by rw [HR.out]; unfold colV; rw [if_neg hc0, List.getElem?_eq_none (by omega)])
            go_wp2
            refine val_ret2 rfl (w.heap.size + 1) _ _ _ rfl (put3_blk HZ3.out _ _ _) rfl ?_
            exact ev2_err HR2.out (below_put3 HB3.out (by omega) _ _ _)
          · obtain ⟨j, hj⟩ := Int.eq_ofNat_of_zero_le (show 0 ≤ x.col by omega)
            have hjl : j < row.length := by omega
            obtain ⟨g, o, rfl, hv⟩ := (HEN.out.below HB3.out).vals (by omega)
            obtain ⟨r0, r1, r2⟩ := hv j hjl
            have HR2 : Asd (evE row ks x = .ok row[j]) := Asd.mk (by rw [HR.out]; exact colV_at hj hjl)
            generalize row[j] = u at r0 r1 r2 HR2
            rw [hj] at e7
            have hj0 : (0 : Int) ≤ (j : Int) := by omega
            clear hv hc0 hcr hj
            go_wp2
            refine val_ret2 rfl (w.heap.size + 1) _ _ _ rfl (put3_blk HZ3.out _ _ _) rfl ?_
            exact ev2_ok HR2.out (below_put3 HB3.out (by omega) _ _ _)
      have hk2' : (x.kind == 2) = false := by simpa using hk2
      have HR := Asd.mk (HEV.out.trans (one_rest HEM.out hk1 hk6 hk2))
      have HSH := Asd.mk (shape_of HEM.out hk1 hk6 hk2)
      clear hk1 hk6 hk2
      have hn3 : x.args.length ≤ 3 := by
        rcases HSH.out with ⟨_, _, h⟩ | ⟨_, _, h⟩ | ⟨_, _, _, h⟩ | ⟨_, _, _, h⟩
        · omega
        · omega
        · rw [h]; unfold opn; split
          · omega
          · split <;> omega
        · omega
      have HNX : Asd (x.args.length = x.args.length) := Asd.mk rfl
      generalize hm : x.args.length = m at e9 hn3 HNX ⊢
      have HM := Asd.mk hm
      clear hm HNX z0 z1 z2 y0 y1 y2
      have HB0 := HB3
      go_wp2
      go_loopw [57, 9] (fun i l wr => ∃ (k : Nat) (vs : List Vl) (A' : Option Addr) (c' : Nat), k ≤ m ∧ i = .int .i64 (k : Int) ∧ l = .slice A' k c' ∧ Asd (vs.length = k) ∧ Asd (∀ v ∈ vs, RV v) ∧ Asd (wr.ownsRow w3.heap.size 23 3 (.slice A' k c') k (valsC vs)) ∧ Asd (Below w.heap.size w wr) ∧ Asd (Below w3.heap.size w3 wr) ∧ Asd (evL row ks x.kind x.op true x.args = EvL.pre vs (evL row ks x.kind x.op (k == 0) (x.args.drop k)))) (fun i _ _ => m - (intOf i).toNat)
      case atStart => exact ⟨0, [], none, 0, by omega, rfl, rfl, ⟨rfl⟩, ⟨fun v hv => by cases hv⟩, ⟨World.ownsRow_nil _ _ _ _⟩, ⟨HB0.out⟩, ⟨Below.refl _ _⟩, ⟨rfl⟩⟩
      case round =>
        obtain ⟨k, vs, A', c', hk, rfl, rfl, HVL, HVR, HOW, HBR, HBR3, HEL⟩ := hrel
        clear e0 e1 e2 e3 e4 e5 e6 e7 e8 e9
        have HXR := Asd.mk (blk_below HBR3.out HX3.out)
        have HZR := Asd.mk (blk_below HBR3.out HZ3.out)
        have HSZR : Asd (w.heap.size + 2 ≤ wr.heap.size) := Asd.mk (Nat.le_trans HSZ3.out HBR3.out.size)
        by_cases hlt : k < m
        · have hkx : k < x.args.length := by rw [HM.out]; exact hlt
          obtain ⟨g, o, A1, n1, c1, he1, hr1, hh1⟩ := held_at (held_below HH.out HBR.out) k hkx
          subst he1
          obtain ⟨A1', c1', he2⟩ := held_len hh1
          have hn1 : n1 = x.args[k].args.length := by
            injection he2
          subst hn1
          clear he2
          have HSK := Asd.mk (HSUB.out k hkx)
          have HRK := Asd.mk (evE_rv HEN.out.rrv HEN.out.krv x.args[k] (rvXL_mem (rvX_args HRX.out) _ (List.getElem_mem hkx)))
          have HD : Asd (x.args.drop k = x.args[k] :: x.args.drop (k + 1)) := Asd.mk (List.drop_eq_getElem_cons hkx)
          rw [HD.out] at HEL
          generalize x.args[k] = a at hr1 hh1 HSK HRK HEL
          have HHA := Asd.mk hh1
          clear HD hkx
          have hgl := World.block_lt_of_cell? wr _ (hr1 0 (by omega))
          have hk0 : (0 : Int) ≤ (k : Int) := by omega
          have x0 : wr.cell? ⟨g, o + k * 10, none⟩ = some (.int .i64 a.kind) := hr1 0 (by omega)
          have x1 : wr.cell? ⟨g, o + k * 10 + 1, none⟩ = some (.int .i64 a.op) := hr1 1 (by omega)
          have x2 : wr.cell? ⟨g, o + k * 10 + 2, none⟩ = some (.int .i64 a.v.kind) := hr1 2 (by omega)
          have x3 : wr.cell? ⟨g, o + k * 10 + 3, none⟩ = some (.int .i64 a.v.int) := hr1 3 (by omega)
          have x4 : wr.cell? ⟨g, o + k * 10 + 4, none⟩ = some (.string ⟨a.v.text.toArray⟩) := hr1 4 (by omega)
          have x5 : wr.cell? ⟨g, o + k * 10 + 5, none⟩ = some (.string ⟨a.table.toArray⟩) := hr1 5 (by omega)
          have x6 : wr.cell? ⟨g, o + k * 10 + 6, none⟩ = some (.string ⟨a.name.toArray⟩) := hr1 6 (by omega)
          have x7 : wr.cell? ⟨g, o + k * 10 + 7, none⟩ = some (.int .i64 a.col) := hr1 7 (by omega)
          have x8 : wr.cell? ⟨g, o + k * 10 + 8, none⟩ = some (.int .i64 a.ty) := hr1 8 (by omega)
          have x9 : wr.cell? ⟨g, o + k * 10 + 9, none⟩ = some (.slice A1 a.args.length c1) := hr1 9 (by omega)
          clear hr1 hh1
          have HA1 := Asd.mk (blk_new wr (xK a (.slice A1 a.args.length c1)))
          have HB1 : Asd (Below wr.heap.size wr (wr.alloc (xK a (.slice A1 a.args.length c1)))) := Asd.mk (below_alloc (Below.refl _ wr) _)
          go_upto_region 19 with fail
          generalize wr.alloc _ = w4 at HA1 HB1 ⊢
          clear x0 x1 x2 x3 x4 x5 x6 x7 x8 x9
          have HB4 : Asd (Below w.heap.size w w4) := Asd.mk (HBR.out.trans (HB1.out.mono HBR.out.size))
          obtain ⟨e0, e1, e2, e3, e4, e5, e6, e7, e8, e9⟩ := ex_cells (x := a) HA1.out
          go_wp2_with fail
          refine (HSK.out P Q A1 RA KA c1 rc kc w4 (HEN.out.below HB4.out) (held_below HHA.out HB1.out)).mono ?_
          rintro e w5 ⟨hb5, rfl⟩
          have HBR5 : Asd (Below wr.heap.size wr w5) := Asd.mk (HB1.out.trans (hb5.mono HB1.out.size))
          have HB5 : Asd (Below w.heap.size w w5) := Asd.mk (HBR.out.trans (HBR5.out.mono HBR.out.size))
          clear e0 e1 e2 e3 e4 e5 e6 e7 e8 e9 hb5 HA1 HB1 HB4 HHA HSK
          have HZ5 := Asd.mk (blk_below HBR5.out HZR.out)
          have HX5 := Asd.mk (blk_below HBR5.out HXR.out)
          cases hr : evE row ks a with
          | error f =>
            have hfn : (f != 0) = true := by rw [bne_iff_ne]; exact evE_nz row ks a f hr
            have HF : Asd (evE row ks x = .error f) := Asd.mk (by rw [HR.out, HEL.out, evL_err hr, pre_err]; rfl)
            clear hr
            simp only [vC, vNull]
            have HZ6 := Asd.mk (blk_alloc HZ5.out zeroV)
            have HB6 : Asd (Below w.heap.size w (w5.alloc zeroV)) := Asd.mk (below_alloc HB5.out _)
            go_upto_region 20 with fail
            generalize w5.alloc _ = w6 at HZ6 HB6 ⊢
            obtain ⟨⟨z0, z1, z2⟩, y0, y1, y2⟩ := zero_cells HZ6.out
            go_wp2
            refine val_ret2 rfl (w.heap.size + 1) _ _ _ rfl (put3_blk HZ6.out _ _ _) rfl ?_
            exact ev2_err HF.out (below_put3 HB6.out (by omega) _ _ _)
          | ok v =>
            have HEQ := Asd.mk hr
            have HRV5 := Asd.mk (HRK.out v hr)
            clear hr
            simp only [vC]
            have HZ6 := Asd.mk (blk_alloc HZ5.out (vK v))
            have HX6 := Asd.mk (blk_alloc HX5.out (vK v))
            have HV6 := Asd.mk (blk_new w5 (vK v))
            have HB56 : Asd (Below w5.heap.size w5 (w5.alloc (vK v))) := Asd.mk (below_alloc (Below.refl _ _) _)
            go_upto_region 20 with fail
            generalize w5.alloc _ = w6 at HZ6 HX6 HV6 HB56 ⊢
            generalize w5.heap.size = b12 at HV6 ⊢
            have HBR6 : Asd (Below wr.heap.size wr w6) := Asd.mk (HBR5.out.trans (HB56.out.mono HBR5.out.size))
            obtain ⟨v0, v1, v2⟩ := val_cells HV6.out
            obtain ⟨e0, e1, e2, e3, e4, e5, e6, e7, e8, e9⟩ := ex_cells (x := x) HX6.out
            obtain ⟨⟨z0, z1, z2⟩, y0, y1, y2⟩ := zero_cells HZ6.out
            cases hkz : (k == 0) with
            | true =>
              have hkI : ((k : Int) == 0) = true := by rw [beq_iff_eq] at hkz ⊢; omega
              have HVN : Asd (vs = []) := Asd.mk (List.length_eq_zero_iff.mp (by rw [HVL.out]; exact beq_iff_eq.mp hkz))
              rw [hkz] at HEL
              go_wp2_with fail
              refine (decided_calls x _ v _).mono ?_
              rintro e w7 ⟨rfl, hb7⟩
              have HB7 : Asd (Below wr.heap.size wr w7) := Asd.mk (HBR6.out.trans (hb7.mono HBR6.out.size))
              have HZ7 := Asd.mk (blk_below hb7 HZ6.out)
              have HV7 := Asd.mk (blk_below hb7 HV6.out)
              clear e0 e1 e2 e3 e4 e5 e6 e7 e8 e9 z0 z1 z2 y0 y1 y2 v0 v1 v2 hb7
              obtain ⟨v0, v1, v2⟩ := val_cells HV7.out
              obtain ⟨⟨z0, z1, z2⟩, y0, y1, y2⟩ := zero_cells HZ7.out
              have HBT : Asd (Below w.heap.size w w7) := Asd.mk (HBR.out.trans (HB7.out.mono HBR.out.size))
              cases hd : decP x.kind x.op v with
              | true =>
                have HF : Asd (evE row ks x = .ok v) := Asd.mk (by rw [HR.out, HEL.out, evL_dec HEQ.out (by rw [hd]; rfl), HVN.out]; rfl)
                clear hd
                go_wp2
                refine val_ret2 rfl (w.heap.size + 1) _ _ _ rfl (put3_blk HZ7.out _ _ _) rfl ?_
                exact ev2_ok HF.out (below_put3 HBT.out (by omega) _ _ _)
              | false =>
                have HEL8 : Asd (evL row ks x.kind x.op true x.args = EvL.pre (vs ++ [v]) (evL row ks x.kind x.op (k + 1 == 0) (x.args.drop (k + 1)))) := Asd.mk (by rw [HEL.out, evL_go HEQ.out (by rw [hd]; rfl), pre_snoc]; rfl)
                clear hd
                have HBW := HB7
                have HB3T : Asd (Below w3.heap.size w3 w7) := Asd.mk (HBR3.out.trans (HB7.out.mono HBR3.out.size))
                have HSW : Asd (w3.heap.size ≤ w7.heap.size) := Asd.mk HB3T.out.size
                have HOWN : Asd ((w7.alloc (.cells #[.int .i64 v.kind, .int .i64 v.int, .string ⟨v.text.toArray⟩] 23 (0, 0))).ownsRow w3.heap.size 23 3 (.slice A' k c') k (valsC vs)) := Asd.mk (own_keep HOW.out (below_alloc HBW.out _))
                go_wp2_with (at_builtin; refine wpList_append_own _ rfl (.tmp 81) (.tmp 83) 27 rfl w3.heap.size 23 i0 (.agg #[.int .i64 0, .int .i64 0, .string ⟨#[]⟩]) 3 32 Tryz.underlying27 hi0 hz0 hz1 hz2 rfl (by decide) _ _ _ rfl HOWN.out ⟨w7.heap.size, 0, none⟩ 1 1 [.int .i64 v.kind, .int .i64 v.int, .string ⟨v.text.toArray⟩] rfl rfl ?c0 ?c00 ?c1 ?c2 ?c3 ?_)
                case c0 => exact World.news_of_block (blk_new w7 (.cells #[.int .i64 v.kind, .int .i64 v.int, .string ⟨v.text.toArray⟩] 23 (0, 0)))
                case c00 =>
                  intro u hu
                  simp only [List.mem_cons, List.not_mem_nil, or_false] at hu
                  rcases hu with rfl | rfl | rfl <;> rfl
                case c1 => unfold maxLen; omega
                case c2 => omega
                case c3 => have := HSW.out; simp; omega
                · intro v' w8 hown' hgr _
                  have HO8 : Asd (w8.ownsRow w3.heap.size 23 3 v' (k + 1) (valsC (vs ++ [v]))) := Asd.mk (by rw [valsC_snoc]; exact hown')
                  have HB8 : Asd (Below w.heap.size w w8) := Asd.mk (below_own (below_alloc HBT.out _) HOWN.out hgr (by have := HSZ3.out; omega))
                  have HB83 : Asd (Below w3.heap.size w3 w8) := Asd.mk (below_own (below_alloc HB3T.out _) HOWN.out hgr (Nat.le_refl _))
                  obtain ⟨A8, c8, rfl⟩ := own_form HO8.out
                  clear hown' hgr
                  go_wp2
                  go_roundw
                  case rel => exact ⟨k + 1, vs ++ [v], A8, c8, by omega, by go_num, rfl, ⟨by rw [List.length_append, HVL.out]; rfl⟩, ⟨fun u hu => by
                    rcases List.mem_append.mp hu with hu | hu
                    · exact HVR.out u hu
                    · rw [List.mem_singleton] at hu; rw [hu]; exact HRV5.out⟩, HO8, HB8, HB83, HEL8⟩
                  case measure => simp [intOf]; omega
            | false =>
              have hkI : ((k : Int) == 0) = false := by rw [beq_eq_false_iff_ne] at hkz ⊢; omega
              rw [hkz] at HEL
              have HEL8 : Asd (evL row ks x.kind x.op true x.args = EvL.pre (vs ++ [v]) (evL row ks x.kind x.op (k + 1 == 0) (x.args.drop (k + 1)))) := Asd.mk (by rw [HEL.out, evL_go HEQ.out rfl, pre_snoc]; rfl)
              have HBT : Asd (Below w.heap.size w w6) := Asd.mk (HBR.out.trans (HBR6.out.mono HBR.out.size))
              have HBW := HBR6
              have HB3T : Asd (Below w3.heap.size w3 w6) := Asd.mk (HBR3.out.trans (HBR6.out.mono HBR3.out.size))
              have HSW : Asd (w3.heap.size ≤ w6.heap.size) := Asd.mk HB3T.out.size
              have HOWN : Asd ((w6.alloc (.cells #[.int .i64 v.kind, .int .i64 v.int, .string ⟨v.text.toArray⟩] 23 (0, 0))).ownsRow w3.heap.size 23 3 (.slice A' k c') k (valsC vs)) := Asd.mk (own_keep HOW.out (below_alloc HBW.out _))
              go_wp2_with (at_builtin; refine wpList_append_own _ rfl (.tmp 81) (.tmp 83) 27 rfl w3.heap.size 23 i0 (.agg #[.int .i64 0, .int .i64 0, .string ⟨#[]⟩]) 3 32 Tryz.underlying27 hi0 hz0 hz1 hz2 rfl (by decide) _ _ _ rfl HOWN.out ⟨w6.heap.size, 0, none⟩ 1 1 [.int .i64 v.kind, .int .i64 v.int, .string ⟨v.text.toArray⟩] rfl rfl ?c0 ?c00 ?c1 ?c2 ?c3 ?_)
              case c0 => exact World.news_of_block (blk_new w6 (.cells #[.int .i64 v.kind, .int .i64 v.int, .string ⟨v.text.toArray⟩] 23 (0, 0)))
              case c00 =>
                intro u hu
                simp only [List.mem_cons, List.not_mem_nil, or_false] at hu
                rcases hu with rfl | rfl | rfl <;> rfl
              case c1 => unfold maxLen; omega
              case c2 => omega
              case c3 => have := HSW.out; simp; omega
              · intro v' w8 hown' hgr _
                have HO8 : Asd (w8.ownsRow w3.heap.size 23 3 v' (k + 1) (valsC (vs ++ [v]))) := Asd.mk (by rw [valsC_snoc]; exact hown')
                have HB8 : Asd (Below w.heap.size w w8) := Asd.mk (below_own (below_alloc HBT.out _) HOWN.out hgr (by have := HSZ3.out; omega))
                have HB83 : Asd (Below w3.heap.size w3 w8) := Asd.mk (below_own (below_alloc HB3T.out _) HOWN.out hgr (Nat.le_refl _))
                obtain ⟨A8, c8, rfl⟩ := own_form HO8.out
                clear hown' hgr
                go_wp2
                go_roundw
                case rel => exact ⟨k + 1, vs ++ [v], A8, c8, by omega, by go_num, rfl, ⟨by rw [List.length_append, HVL.out]; rfl⟩, ⟨fun u hu => by
                  rcases List.mem_append.mp hu with hu | hu
                  · exact HVR.out u hu
                  · rw [List.mem_singleton] at hu; rw [hu]; exact HRV5.out⟩, HO8, HB8, HB83, HEL8⟩
                case measure => simp [intOf]; omega
        · obtain rfl : k = m := by omega
          have HDN : Asd (x.args.drop k = []) := Asd.mk (List.drop_of_length_le (Nat.le_of_eq HM.out))
          have HF : Asd (evE row ks x = finP x.kind x.op vs) := Asd.mk (by rw [HR.out, HEL.out, HDN.out, evL, pre_all]; rfl)
          have HVS := Asd.mk (own_vals HOW.out HVL.out.symm)
          obtain ⟨e0, e1, e2, e3, e4, e5, e6, e7, e8, e9⟩ := ex_cells (x := x) HXR.out
          clear HEL HDN HSUB e2 e3 e4 e5 e6 e7 e8 e9 HVS
          rcases HSH.out with ⟨hk, ho, hl⟩ | ⟨hk, ho, hl⟩ | ⟨hk, ho1, ho6, hl⟩ | ⟨hk, ho3, ho16, hl⟩
          · -- a sign
            have hl1 : vs.length = 1 := by rw [HVL.out, ← HM.out]; exact hl
            obtain ⟨v, rfl⟩ := List.length_eq_one_iff.mp hl1
            obtain ⟨g, rfl, hgB, hv⟩ := own_at HOW.out HVL.out.symm (by simp)
            have hgz : Asd (¬ g = w.heap.size + 1) := Asd.mk (by have := HSZ3.out; omega)
            have hpz : Asd (¬ w.heap.size = w.heap.size + 1) := Asd.mk (by omega)
            obtain ⟨v0, v1, v2⟩ := hv 0 (by simp)
            simp only [List.getElem_cons_zero, Nat.zero_mul, Nat.zero_add] at v0 v1 v2
            have HV0 := Asd.mk v0
            have HV1 := Asd.mk v1
            have HV2 := Asd.mk v2
            have HE1 := Asd.mk e1
            have hkk : k = 1 := by rw [← HVL.out]; rfl
            have HF : Asd (evE row ks x = unP x.op v) := Asd.mk (HF.out.trans (finP_un hk))
            have HCU := Asd.mk (fun W => (unary_calls x.op ho v (HVR.out v (by simp)) W).mono fun e w' h => ev2_form h)
            generalize hu : resVal (unP x.op v) = u at HCU
            generalize hn : resNum (unP x.op v) = n at HCU
            have HU := Asd.mk hu
            have HN := Asd.mk hn
            clear hu hn
            have hk3 : (x.kind == 3) = true := by rw [hk]; rfl
            have hk4 : (x.kind == 4) = false := by rw [hk]; rfl
            have hk7 : (x.kind == 7) = false := by rw [hk]; rfl
            clear hk hl hl1 ho hv hlt
            subst hkk
            have HS : Asd (∀ w', Fr (fun k => k = w.heap.size + 1) wr w' → w'.cell? ⟨w.heap.size, 1, none⟩ = some (.int .i64 x.op) ∧ w'.cell? ⟨g, 0, none⟩ = some (.int .i64 v.kind) ∧ w'.cell? ⟨g, 1, none⟩ = some (.int .i64 v.int) ∧ w'.cell? ⟨g, 2, none⟩ = some (.string ⟨v.text.toArray⟩) ∧ Fr (fun k => k = w.heap.size + 1) wr w') := Asd.mk fun w' hf => ⟨cell_frS hf hpz.out HE1.out, cell_frS hf hgz.out HV0.out, cell_frS hf hgz.out HV1.out, cell_frS hf hgz.out HV2.out, hf⟩
            go_upto_region 28 with fail
            clear e0 e1 v0 v1 v2
            go_region_held3 (fun w' => w'.cell? ⟨w.heap.size, 1, none⟩ = some (.int .i64 x.op) ∧ w'.cell? ⟨g, 0, none⟩ = some (.int .i64 v.kind) ∧ w'.cell? ⟨g, 1, none⟩ = some (.int .i64 v.int) ∧ w'.cell? ⟨g, 2, none⟩ = some (.string ⟨v.text.toArray⟩) ∧ Fr (fun k => k = w.heap.size + 1) wr w')
              (first
                | exact HS.out _ (Fr.refl _ _)
                | exact HS.out _ (Fr.refl _ _).drew
                | exact HS.out _ HF5.out
                | exact HS.out _ (Fr.setCell (Fr.setCell (Fr.setCell HF5.out (p := ⟨w.heap.size + 1, 0, none⟩) rfl _) (p := ⟨w.heap.size + 1, 1, none⟩) rfl _) (p := ⟨w.heap.size + 1, 2, none⟩) rfl _)
                | (go_split_ands; exact HS.out _ (by assumption))
                | fail)
              (first
                | (go_at_call 21
                   refine (HCU.out _).mono ?_
                   rintro e w5 ⟨rfl, hb5⟩
                   have HF5 : Asd (Fr (fun k => k = w.heap.size + 1) wr w5) := Asd.mk ((Fr.refl _ wr).drew.trans (Fr.of_below hb5) (fun _ h _ => h) (fun _ h _ => h))
                   have HZ5 := Asd.mk (blk_below hb5 (drewb HZR.out))
                   have HB5 : Asd (Below w.heap.size w w5) := Asd.mk (HBR.out.drew.trans (hb5.mono HBR.out.drew.size))
                   obtain ⟨⟨z0, z1, z2⟩, y0, y1, y2⟩ := zero_cells HZ5.out
                   unfold vC)
                | fail)
            go_wp2
            refine val_ret2 rfl (w.heap.size + 1) _ _ _ rfl (put3_blk HZ5.out _ _ _) rfl ?_
            exact ev2_of HF.out HU.out HN.out (below_put3 HB5.out (by omega) _ _ _)
          · -- a look for NULL
            have hl1 : vs.length = 1 := by rw [HVL.out, ← HM.out]; exact hl
            obtain ⟨v, rfl⟩ := List.length_eq_one_iff.mp hl1
            obtain ⟨g, rfl, hgB, hv⟩ := own_at HOW.out HVL.out.symm (by simp)
            have hgz : Asd (¬ g = w.heap.size + 1) := Asd.mk (by have := HSZ3.out; omega)
            have hpz : Asd (¬ w.heap.size = w.heap.size + 1) := Asd.mk (by omega)
            obtain ⟨v0, v1, v2⟩ := hv 0 (by simp)
            simp only [List.getElem_cons_zero, Nat.zero_mul, Nat.zero_add] at v0 v1 v2
            have HV0 := Asd.mk v0
            have HV1 := Asd.mk v1
            have HV2 := Asd.mk v2
            have HE1 := Asd.mk e1
            have hkk : k = 1 := by rw [← HVL.out]; rfl
            have HF : Asd (evE row ks x = .ok (vTru ((v.kind == 0) == (x.op == 0)))) := Asd.mk (HF.out.trans (finP_is hk))
            have hk3 : (x.kind == 3) = false := by rw [hk]; rfl
            have hk4 : (x.kind == 4) = false := by rw [hk]; rfl
            have hk7 : (x.kind == 7) = true := by rw [hk]; rfl
            clear hk hl hl1 ho hv hlt
            subst hkk
            have HS : Asd (∀ w', Fr (fun k => k = w.heap.size + 1) wr w' → w'.cell? ⟨w.heap.size, 1, none⟩ = some (.int .i64 x.op) ∧ w'.cell? ⟨g, 0, none⟩ = some (.int .i64 v.kind) ∧ w'.cell? ⟨g, 1, none⟩ = some (.int .i64 v.int) ∧ w'.cell? ⟨g, 2, none⟩ = some (.string ⟨v.text.toArray⟩) ∧ Fr (fun k => k = w.heap.size + 1) wr w') := Asd.mk fun w' hf => ⟨cell_frS hf hpz.out HE1.out, cell_frS hf hgz.out HV0.out, cell_frS hf hgz.out HV1.out, cell_frS hf hgz.out HV2.out, hf⟩
            go_upto_region 32 with fail
            clear e0 e1 v0 v1 v2
            go_region_held3 (fun w' => w'.cell? ⟨w.heap.size, 1, none⟩ = some (.int .i64 x.op) ∧ w'.cell? ⟨g, 0, none⟩ = some (.int .i64 v.kind) ∧ w'.cell? ⟨g, 1, none⟩ = some (.int .i64 v.int) ∧ w'.cell? ⟨g, 2, none⟩ = some (.string ⟨v.text.toArray⟩) ∧ Fr (fun k => k = w.heap.size + 1) wr w')
              (first
                | exact HS.out _ (Fr.refl _ _)
                | exact HS.out _ (Fr.refl _ _).drew
                | exact HS.out _ HF5.out
                | exact HS.out _ (Fr.setCell (Fr.setCell (Fr.setCell HF5.out (p := ⟨w.heap.size + 1, 0, none⟩) rfl _) (p := ⟨w.heap.size + 1, 1, none⟩) rfl _) (p := ⟨w.heap.size + 1, 2, none⟩) rfl _)
                | (go_split_ands; exact HS.out _ (by assumption))
                | fail)
              (first
                | (go_at_call 23
                   refine (etruth_calls ((v.kind == 0) == (x.op == 0)) _).mono ?_
                   rintro e w5 ⟨rfl, hb5⟩
                   have HF5 : Asd (Fr (fun k => k = w.heap.size + 1) wr w5) := Asd.mk ((Fr.refl _ wr).drew.trans (Fr.of_below hb5) (fun _ h _ => h) (fun _ h _ => h))
                   have HZ5 := Asd.mk (blk_below hb5 (drewb HZR.out))
                   have HB5 : Asd (Below w.heap.size w w5) := Asd.mk (HBR.out.drew.trans (hb5.mono HBR.out.drew.size))
                   obtain ⟨⟨z0, z1, z2⟩, y0, y1, y2⟩ := zero_cells HZ5.out
                   unfold vC)
                | fail)
            go_wp2
            refine val_ret2 rfl (w.heap.size + 1) _ _ _ rfl (put3_blk HZ5.out _ _ _) rfl ?_
            exact ev2_ok HF.out (below_put3 HB5.out (by omega) _ _ _)
          · -- a call
            by_cases h6 : x.op = 6
            · -- coalesce
              have hl : x.args.length = 2 := by rw [hl, h6]; rfl
              have hl2 : vs.length = 2 := by rw [HVL.out, ← HM.out]; exact hl
              obtain ⟨v, u, rfl⟩ : ∃ a b, vs = [a, b] := by
                match vs, hl2 with
                | [a, b], _ => exact ⟨a, b, rfl⟩
              obtain ⟨g, rfl, hgB, hv⟩ := own_at HOW.out HVL.out.symm (by simp)
              have hgz : Asd (¬ g = w.heap.size + 1) := Asd.mk (by have := HSZ3.out; omega)
              have hpz : Asd (¬ w.heap.size = w.heap.size + 1) := Asd.mk (by omega)
              obtain ⟨v0, v1, v2⟩ := hv 0 (by simp)
              obtain ⟨u0, u1, u2⟩ := hv 1 (by simp)
              simp only [List.getElem_cons_zero, List.getElem_cons_succ, Nat.zero_mul, Nat.one_mul, Nat.zero_add, Nat.reduceAdd] at v0 v1 v2 u0 u1 u2
              have HV0 := Asd.mk v0
              have HV1 := Asd.mk v1
              have HV2 := Asd.mk v2
              have HU0 := Asd.mk u0
              have HU1 := Asd.mk u1
              have HU2 := Asd.mk u2
              have HE1 := Asd.mk e1
              have hkk : k = 2 := by rw [← HVL.out]; rfl
              have HF : Asd (evE row ks x = .ok u) := Asd.mk (HF.out.trans (finP_two hk))
              obtain ⟨⟨z0, z1, z2⟩, y0, y1, y2⟩ := zero_cells HZR.out
              have h6' : (x.op == 6) = true := by rw [h6]; rfl
              have hk3 : (x.kind == 3) = false := by rw [hk]; rfl
              have hk4 : (x.kind == 4) = false := by rw [hk]; rfl
              have hk7 : (x.kind == 7) = false := by rw [hk]; rfl
              clear hk hl hl2 ho1 ho6 hv hlt h6
              subst hkk
              go_wp2
              refine val_ret2 rfl (w.heap.size + 1) _ _ _ rfl (put3_blk HZR.out _ _ _) rfl ?_
              exact ev2_ok HF.out (below_put3 HBR.out (by omega) _ _ _)
            · -- another function
              have hne : x.args.length ≠ 2 := by
                rw [hl]
                unfold opn
                split
                · omega
                · split <;> omega
              have HF : Asd (evE row ks x = callV x.op vs) := Asd.mk (HF.out.trans (finP_call hk (by rw [HVL.out, ← HM.out]; exact hne)))
              have HCU := Asd.mk (fun W hv => (ecall_calls x.op vs ho1 (by omega) (by rw [HVL.out, ← HM.out]; exact hl) HVR.out A' c' W hv).mono fun e w' h => ev2_form h)
              rw [HVL.out] at HCU
              generalize hu : resVal (callV x.op vs) = u at HCU
              generalize hn : resNum (callV x.op vs) = n at HCU
              have HU := Asd.mk hu
              have HN := Asd.mk hn
              have HVS := Asd.mk (own_vals HOW.out HVL.out.symm)
              have h6' : (x.op == 6) = false := by simpa using h6
              clear hu hn
              have hk3 : (x.kind == 3) = false := by rw [hk]; rfl
              have hk4 : (x.kind == 4) = false := by rw [hk]; rfl
              have hk7 : (x.kind == 7) = false := by rw [hk]; rfl
              clear hk hl ho1 ho6 hlt h6 hne
              go_wp2_with fail
              refine (HCU.out _ HVS.out).mono ?_
              rintro e w5 ⟨rfl, hb5⟩
              have HZ5 := Asd.mk (blk_below hb5 HZR.out)
              have HB5 : Asd (Below w.heap.size w w5) := Asd.mk (HBR.out.trans (hb5.mono HBR.out.size))
              obtain ⟨⟨z0, z1, z2⟩, y0, y1, y2⟩ := zero_cells HZ5.out
              clear e0 e1 hb5
              unfold vC
              go_wp2
              refine val_ret2 rfl (w.heap.size + 1) _ _ _ rfl (put3_blk HZ5.out _ _ _) rfl ?_
              exact ev2_of HF.out HU.out HN.out (below_put3 HB5.out (by omega) _ _ _)
          · -- two operands
            have hl2 : vs.length = 2 := by rw [HVL.out, ← HM.out]; exact hl
            obtain ⟨v, u, rfl⟩ : ∃ a b, vs = [a, b] := by
              match vs, hl2 with
              | [a, b], _ => exact ⟨a, b, rfl⟩
            obtain ⟨g, rfl, hgB, hv⟩ := own_at HOW.out HVL.out.symm (by simp)
            have hgz : Asd (¬ g = w.heap.size + 1) := Asd.mk (by have := HSZ3.out; omega)
            have hpz : Asd (¬ w.heap.size = w.heap.size + 1) := Asd.mk (by omega)
            obtain ⟨v0, v1, v2⟩ := hv 0 (by simp)
            obtain ⟨u0, u1, u2⟩ := hv 1 (by simp)
            simp only [List.getElem_cons_zero, List.getElem_cons_succ, Nat.zero_mul, Nat.one_mul, Nat.zero_add, Nat.reduceAdd] at v0 v1 v2 u0 u1 u2
            have HV0 := Asd.mk v0
            have HV1 := Asd.mk v1
            have HV2 := Asd.mk v2
            have HU0 := Asd.mk u0
            have HU1 := Asd.mk u1
            have HU2 := Asd.mk u2
            have HE1 := Asd.mk e1
            have hkk : k = 2 := by rw [← HVL.out]; rfl
            have HF : Asd (evE row ks x = binP x.op v u) := Asd.mk (HF.out.trans (finP_bin hk))
            have HCU := Asd.mk (fun W => (binary_calls x.op ho3 ho16 v u (HVR.out v (by simp)) (HVR.out u (by simp)) W).mono fun e w' h => ev2_form h)
            generalize hu : resVal (binP x.op v u) = r at HCU
            generalize hn : resNum (binP x.op v u) = n at HCU
            have HU := Asd.mk hu
            have HN := Asd.mk hn
            clear hu hn
            have hk3 : (x.kind == 3) = false := by rw [hk]; rfl
            have hk4 : (x.kind == 4) = true := by rw [hk]; rfl
            have hk7 : (x.kind == 7) = false := by rw [hk]; rfl
            clear hk hl hl2 ho3 ho16 hv hlt
            subst hkk
            have HS : Asd (∀ w', Fr (fun k => k = w.heap.size + 1) wr w' → w'.cell? ⟨w.heap.size, 1, none⟩ = some (.int .i64 x.op) ∧ w'.cell? ⟨g, 0, none⟩ = some (.int .i64 v.kind) ∧ w'.cell? ⟨g, 1, none⟩ = some (.int .i64 v.int) ∧ w'.cell? ⟨g, 2, none⟩ = some (.string ⟨v.text.toArray⟩) ∧ w'.cell? ⟨g, 3, none⟩ = some (.int .i64 u.kind) ∧ w'.cell? ⟨g, 4, none⟩ = some (.int .i64 u.int) ∧ w'.cell? ⟨g, 5, none⟩ = some (.string ⟨u.text.toArray⟩) ∧ Fr (fun k => k = w.heap.size + 1) wr w') := Asd.mk fun w' hf => ⟨cell_frS hf hpz.out HE1.out, cell_frS hf hgz.out HV0.out, cell_frS hf hgz.out HV1.out, cell_frS hf hgz.out HV2.out, cell_frS hf hgz.out HU0.out, cell_frS hf hgz.out HU1.out, cell_frS hf hgz.out HU2.out, hf⟩
            go_upto_region 30 with fail
            clear e0 e1 v0 v1 v2 u0 u1 u2
            go_region_held3 (fun w' => w'.cell? ⟨w.heap.size, 1, none⟩ = some (.int .i64 x.op) ∧ w'.cell? ⟨g, 0, none⟩ = some (.int .i64 v.kind) ∧ w'.cell? ⟨g, 1, none⟩ = some (.int .i64 v.int) ∧ w'.cell? ⟨g, 2, none⟩ = some (.string ⟨v.text.toArray⟩) ∧ w'.cell? ⟨g, 3, none⟩ = some (.int .i64 u.kind) ∧ w'.cell? ⟨g, 4, none⟩ = some (.int .i64 u.int) ∧ w'.cell? ⟨g, 5, none⟩ = some (.string ⟨u.text.toArray⟩) ∧ Fr (fun k => k = w.heap.size + 1) wr w')
              (first
                | exact HS.out _ (Fr.refl _ _)
                | exact HS.out _ (Fr.refl _ _).drew
                | exact HS.out _ HF5.out
                | exact HS.out _ (Fr.setCell (Fr.setCell (Fr.setCell HF5.out (p := ⟨w.heap.size + 1, 0, none⟩) rfl _) (p := ⟨w.heap.size + 1, 1, none⟩) rfl _) (p := ⟨w.heap.size + 1, 2, none⟩) rfl _)
                | (go_split_ands; exact HS.out _ (by assumption))
                | fail)
              (first
                | (go_at_call 22
                   refine (HCU.out _).mono ?_
                   rintro e w5 ⟨rfl, hb5⟩
                   have HF5 : Asd (Fr (fun k => k = w.heap.size + 1) wr w5) := Asd.mk ((Fr.refl _ wr).drew.trans (Fr.of_below hb5) (fun _ h _ => h) (fun _ h _ => h))
                   have HZ5 := Asd.mk (blk_below hb5 (drewb HZR.out))
                   have HB5 : Asd (Below w.heap.size w w5) := Asd.mk (HBR.out.drew.trans (hb5.mono HBR.out.drew.size))
                   obtain ⟨⟨z0, z1, z2⟩, y0, y1, y2⟩ := zero_cells HZ5.out
                   unfold vC)
                | fail)
            go_wp2
            refine val_ret2 rfl (w.heap.size + 1) _ _ _ rfl (put3_blk HZ5.out _ _ _) rfl ?_
            exact ev2_of HF.out HU.out HN.out (below_put3 HB5.out (by omega) _ _ _)
theorem eval_ok (row : List Vl) (ks : List (Ex × Vl)) (x : Ex) (hx : rvX x) : EvalOK row ks x :=
  eval_step row ks x hx fun i h => eval_ok row ks x.args[i] (rvXL_mem (rvX_args hx) _ (List.getElem_mem h))
termination_by SizeOf.sizeOf x
decreasing_by exact args_lt x i h
theorem eval_calls (row : List Vl) (ks : List (Ex × Vl)) (x : Ex) (hx : rvX x) (P Q : Nat → Prop) (A RA KA : Option Addr) (c rc kc : Nat) (w : World) (he : EnvW P w RA KA row ks) (hh : Held Q w x.args (.slice A x.args.length c)) :
    Calls Tryz.prog 11 #[exV x (.slice A x.args.length c), .slice RA row.length rc, .slice KA ks.length kc] w (Ev2 (evE row ks x) w) := eval_ok row ks x hx P Q A RA KA c rc kc w he hh
end Go.Proofs.YtbeeaikilcnpgaaGreatDoor.Exp

namespace Go.Proofs.YtbeeaikilcnpgaaGreatDoor.Rd
open Go.RowKit Go.Proofs.YtbeeaikilcnpgaaGreatDoor.Base Go.Deep Go.ChangeShapes Go.WideShapes
abbrev Rel (α : Type) := World → List Value → α → Prop

def Lasts {α : Type} (r : Rel α) : Prop := ∀ (W W' : World) (cs : List Value) (x : α), Below W.heap.size W W' → r W cs x → r W' cs x

def IsSl {α : Type} (r : Rel α) (sz : Nat) (W : World) (A : Option Addr) (n : Nat) (xs : List α) : Prop :=
  xs.length = n ∧ (0 < n → ∃ b o, A = some ⟨b, o, none⟩ ∧ b < W.heap.size ∧ ∀ j (h : j < xs.length), ∃ es, es.length = sz ∧ (∀ i, i < sz → W.cell? ⟨b, o + (j * sz + i), none⟩ = es[i]?) ∧ r W es xs[j])
theorem IsSl.below {α : Type} {r : Rel α} (hr : Lasts r) {sz : Nat} {W W' : World} {A : Option Addr} {n : Nat} {xs : List α} (h : IsSl r sz W A n xs) (hb : Below W.heap.size W W') : IsSl r sz W' A n xs := by
  refine ⟨h.1, fun hn => ?_⟩
  obtain ⟨b, o, rfl, hlt, hc⟩ := h.2 hn
  refine ⟨b, o, rfl, Nat.lt_of_lt_of_le hlt hb.size, fun j hj => ?_⟩
  obtain ⟨es, h1, h2, h3⟩ := hc j hj
  exact ⟨es, h1, fun i hi => (hb.cell hlt).trans (h2 i hi), hr _ _ _ _ hb h3⟩
section
variable {P : Program}
theorem add_off (b o n : Nat) : ((⟨b, o, none⟩ : Addr).add n) = ⟨b, o + n, none⟩ := by unfold Addr.add; split <;> simp_all
theorem no_spot {W : World} {a : Addr} {v : Value} (h : W.cell? a = some v) : a.spot = none := by
  cases hs : a.spot with
  | none => rfl
  | some q =>
    simp only [World.cell?, hs] at h
    split at h
    · simp at h
    · cases h

theorem list_of {α : Type} (n : Nat) (p : Nat → α → Prop) (h : ∀ i, i < n → ∃ x, p i x) : ∃ xs : List α, xs.length = n ∧ ∀ j (hj : j < xs.length), p j xs[j] := by
  induction n with
  | zero => exact ⟨[], rfl, fun j hj => absurd hj (by simp)⟩
  | succ n ih =>
    obtain ⟨xs, h1, h2⟩ := ih (fun i hi => h i (by omega))
    obtain ⟨x, hx⟩ := h n (by omega)
    refine ⟨xs ++ [x], by simp [h1], fun j hj => ?_⟩
    by_cases hjn : j < xs.length
    · rw [List.getElem_append_left hjn]; exact h2 j hjn
    · have : j = xs.length := by simp at hj; omega
      subst this
      simp only [List.getElem_concat_length]
      rw [h1]; exact hx

/-! ### Structs of fields of one cell each -/
def OneAt (P : Program) (f : Field) (i : Nat) : Prop := f.offset = i ∧ P.cellsOf f.type = 1

end
end Go.Proofs.YtbeeaikilcnpgaaGreatDoor.Rd

namespace Go.Proofs.YtbeeaikilcnpgaaGreatDoor.Exp
open Go.RowKit Go.Proofs.YtbeeaikilcnpgaaGreatDoor.Base Go.Proofs.YtbeeaikilcnpgaaGreatDoor.App Go.Proofs.YtbeeaikilcnpgaaGreatDoor.Byt Go.Proofs.YtbeeaikilcnpgaaGreatDoor.Rd Go.Deep Go.ChangeShapes Go.WideShapes
mutual
def bulkX : Ex → Nat
  | .mk _ _ v t n _ _ a => 1 + v.text.length + t.length + n.length + bulkXL a
def bulkXL : List Ex → Nat
  | [] => 0
  | x :: xs => bulkX x + bulkXL xs
end
mutual
def rngX : Ex → Prop
  | .mk _ _ v _ _ _ _ a => inI v.int ∧ rngXL a
def rngXL : List Ex → Prop
  | [] => True
  | x :: xs => rngX x ∧ rngXL xs
end
theorem bulkX_eq (x : Ex) : bulkX x = 1 + x.v.text.length + x.table.length + x.name.length + bulkXL x.args := by cases x; rw [bulkX]; rfl
theorem rngXL_of : ∀ {l : List Ex}, (∀ x ∈ l, rngX x) → rngXL l
  | [], _ => by rw [rngXL]; trivial
  | x :: xs, h => by rw [rngXL]; exact ⟨h x (by simp), rngXL_of fun y hy => h y (by simp [hy])⟩
theorem bulkXL_mem : ∀ {l : List Ex} {x : Ex}, x ∈ l → bulkX x ≤ bulkXL l
  | y :: r, x, h => by
    rw [bulkXL]
    rcases List.mem_cons.mp h with rfl | h
    · omega
    · have := bulkXL_mem h; omega
theorem bulkX_pos (x : Ex) : 1 ≤ bulkX x := by rw [bulkX_eq]; omega
theorem bulkXL_len : ∀ l : List Ex, l.length ≤ bulkXL l
  | [] => Nat.zero_le _
  | x :: xs => by
    have := bulkXL_len xs
    have := bulkX_pos x
    rw [bulkXL, List.length_cons]
    omega
theorem few_of : ∀ x : Ex, bulkX x ≤ 1048576 → fewE x
  | .mk k o v t n c ty a, h => by
    rw [bulkX] at h
    have := bulkXL_len a
    rw [fewE]
    exact ⟨by omega, fewL_of' a (by omega)⟩
where fewL_of' : ∀ l : List Ex, bulkXL l ≤ 1048576 → fewL l
  | [], _ => by rw [fewL]; trivial
  | x :: xs, h => by
    rw [bulkXL] at h
    rw [fewL]
    exact ⟨few_of x (by omega), fewL_of' xs (by omega)⟩
theorem held_of_rows {P : Nat → Prop} {W : World} {g o c : Nat} (hP : P g) (ps : List (Ex × Value)) (hu : ∀ j, j < ps.length * 10 → W.frozen? ⟨g, o + j, none⟩ = false) (h : ∀ i (hi : i < ps.length), RowC W g (o + i * 10) ps[i].1 ps[i].2) (hs : ∀ p ∈ ps, Held P W p.1.args p.2) : Held P W (ps.map (·.1)) (.slice (some ⟨g, o, none⟩) ps.length c) := by
  have := Held.cons (P := P) (W := W) g o c (ps.map (·.1)) (ps.map (·.2)) hP (by simp) (fun j hj => hu j (by simpa using hj)) (fun i hi => by
    have hi' : i < ps.length := by simpa using hi
    simpa using h i hi') (fun i hi => by
    have hi' : i < ps.length := by simpa using hi
    simpa using hs _ (List.getElem_mem hi'))
  simpa using this
theorem bulkXL_le {H : Type} : ∀ (xs : List Ex) (ds : List (DataW H)), xs.length = ds.length → (∀ j (h : j < xs.length) (h' : j < ds.length), bulkX xs[j] ≤ Rows.uptoBulk ds[j]) → bulkXL xs ≤ Rows.uptoBulkAll ds
  | [], [], _, _ => by rw [bulkXL]; omega
  | x :: xs, d :: ds, hl, h => by
    have h0 := h 0 (by simp) (by simp)
    have h1 := bulkXL_le xs ds (by simpa using hl) fun j a b => h (j + 1) (by simpa using a) (by simpa using b)
    rw [bulkXL, Rows.uptoBulkAll]
    exact Nat.add_le_add h0 h1
theorem bulkAll_mem {H : Type} : ∀ {ds : List (DataW H)} {d : DataW H}, d ∈ ds → Rows.uptoBulk d ≤ Rows.uptoBulkAll ds
  | e :: r, d, h => by
    rw [Rows.uptoBulkAll]
    rcases List.mem_cons.mp h with rfl | h
    · omega
    · have := bulkAll_mem h; omega
theorem bulkAll_append {H : Type} : ∀ (a b : List (DataW H)), Rows.uptoBulkAll (a ++ b) = Rows.uptoBulkAll a + Rows.uptoBulkAll b
  | [], b => by simp [Rows.uptoBulkAll]
  | x :: a, b => by rw [List.cons_append, Rows.uptoBulkAll, Rows.uptoBulkAll, bulkAll_append a b]; omega
theorem int_in {n : Int} (h : (Lit.int .i64 n).wf = true) : inI n := by
  simp [Lit.wf, IntKind.min, IntKind.max, IntKind.signed, IntKind.bits] at h
  exact ⟨by omega, by omega⟩
section
variable {H : Type} {enc : TypeId × Value → H} {P : Program}
theorem trod3 {t : TypeId} {f0 f1 f2 : Field} {W : World} {fuel : Nat} {cs : List Value} {x : DataW H × List MemPlace} (ht : P.underlying t = some (.struct #[f0, f1, f2])) (hc : P.cellsOf t = 3) (a0 : OneAt P f0 0) (a1 : OneAt P f1 1) (a2 : OneAt P f2 2) (h : DataW.trod enc P W 0 (fun _ => true) true fuel t cs = some x) :
    ∃ c0 c1 c2 y0 y1 y2 n, cs = [c0, c1, c2] ∧ x.1 = .agg [y0.1, y1.1, y2.1] ∧ DataW.trod enc P W 0 (fun _ => true) true n f0.type [c0] = some y0 ∧ DataW.trod enc P W 0 (fun _ => true) true n f1.type [c1] = some y1 ∧ DataW.trod enc P W 0 (fun _ => true) true n f2.type [c2] = some y2 := by
  obtain ⟨xs, n, _, hx, hl, hlen, hf⟩ := DataW.trod_struct ht h
  rw [hc] at hl
  match cs, hl, xs, hlen with
  | [c0, c1, c2], _, [y0, y1, y2], _ =>
    have e0 := hf 0 f0 rfl
    have e1 := hf 1 f1 rfl
    have e2 := hf 2 f2 rfl
    rw [a0.1, a0.2] at e0
    rw [a1.1, a1.2] at e1
    rw [a2.1, a2.2] at e2
    exact ⟨c0, c1, c2, y0, y1, y2, n, rfl, by rw [hx]; rfl, by simpa using e0, by simpa using e1, by simpa using e2⟩
theorem trod8 {t : TypeId} {f0 f1 f2 f3 f4 f5 f6 f7 : Field} {W : World} {fuel : Nat} {cs : List Value} {x : DataW H × List MemPlace} (ht : P.underlying t = some (.struct #[f0, f1, f2, f3, f4, f5, f6, f7])) (hc : P.cellsOf t = 10) (a0 : OneAt P f0 0) (a1 : OneAt P f1 1) (a2 : f2.offset = 2) (b2 : P.cellsOf f2.type = 3) (a3 : OneAt P f3 5) (a4 : OneAt P f4 6) (a5 : OneAt P f5 7) (a6 : OneAt P f6 8) (a7 : OneAt P f7 9) (h : DataW.trod enc P W 0 (fun _ => true) true fuel t cs = some x) :
    ∃ c0 c1 c2 c3 c4 c5 c6 c7 c8 c9 y0 y1 y2 y3 y4 y5 y6 y7 n, cs = [c0, c1, c2, c3, c4, c5, c6, c7, c8, c9] ∧ x.1 = .agg [y0.1, y1.1, y2.1, y3.1, y4.1, y5.1, y6.1, y7.1] ∧
      DataW.trod enc P W 0 (fun _ => true) true n f0.type [c0] = some y0 ∧ DataW.trod enc P W 0 (fun _ => true) true n f1.type [c1] = some y1 ∧ DataW.trod enc P W 0 (fun _ => true) true n f2.type [c2, c3, c4] = some y2 ∧
      DataW.trod enc P W 0 (fun _ => true) true n f3.type [c5] = some y3 ∧ DataW.trod enc P W 0 (fun _ => true) true n f4.type [c6] = some y4 ∧ DataW.trod enc P W 0 (fun _ => true) true n f5.type [c7] = some y5 ∧
      DataW.trod enc P W 0 (fun _ => true) true n f6.type [c8] = some y6 ∧ DataW.trod enc P W 0 (fun _ => true) true n f7.type [c9] = some y7 ∧ (∀ q ∈ y7.2, q ∈ x.2) := by
  obtain ⟨xs, n, _, hx, hl, hlen, hf⟩ := DataW.trod_struct ht h
  rw [hc] at hl
  match cs, hl, xs, hlen with
  | [c0, c1, c2, c3, c4, c5, c6, c7, c8, c9], _, [y0, y1, y2, y3, y4, y5, y6, y7], _ =>
    have e0 := hf 0 f0 rfl
    have e1 := hf 1 f1 rfl
    have e2 := hf 2 f2 rfl
    have e3 := hf 3 f3 rfl
    have e4 := hf 4 f4 rfl
    have e5 := hf 5 f5 rfl
    have e6 := hf 6 f6 rfl
    have e7 := hf 7 f7 rfl
    rw [a0.1, a0.2] at e0
    rw [a1.1, a1.2] at e1
    rw [a2, b2] at e2
    rw [a3.1, a3.2] at e3
    rw [a4.1, a4.2] at e4
    rw [a5.1, a5.2] at e5
    rw [a6.1, a6.2] at e6
    rw [a7.1, a7.2] at e7
    exact ⟨c0, c1, c2, c3, c4, c5, c6, c7, c8, c9, y0, y1, y2, y3, y4, y5, y6, y7, n, rfl, by rw [hx]; rfl, by simpa using e0, by simpa using e1, by simpa using e2, by simpa using e3, by simpa using e4, by simpa using e5, by simpa using e6, by simpa using e7, by rw [hx]; intro q hq; simp only [List.flatMap_cons, List.flatMap_nil, List.mem_append, List.append_nil]; simp [hq]⟩
end
section
variable {H : Type} {enc : TypeId × Value → H}
theorem ba_eta (s : ByteArray) : s = ⟨s.data.toList.toArray⟩ := by
  obtain ⟨⟨d⟩⟩ := s
  rfl
theorem open_val {W : World} {fuel : Nat} {cs : List Value} {x : DataW H × List MemPlace} (h : DataW.trod enc Tryz.prog W 0 (fun _ => true) true fuel 23 cs = some x) :
    ∃ v : Vl, cs = [.int .i64 v.kind, .int .i64 v.int, .string ⟨v.text.toArray⟩] ∧ inI v.int ∧ v.text.length + 1 ≤ Rows.uptoBulk x.1 := by
  obtain ⟨c0, c1, c2, y0, y1, y2, n, rfl, hx, h0, h1, h2⟩ := trod3 Tryz.underlying23 (by kernel_rfl) ⟨rfl, by kernel_rfl⟩ ⟨rfl, by kernel_rfl⟩ ⟨rfl, by kernel_rfl⟩ h
  obtain ⟨k, e0, d0, _⟩ := DataW.trod_int Tryz.underlying3 h0
  obtain ⟨i, e1, d1, w1⟩ := DataW.trod_int Tryz.underlying2 h1
  obtain ⟨s, e2, d2, _⟩ := DataW.trod_string Tryz.underlying9 h2
  cases e0; cases e1; cases e2
  refine ⟨⟨k, i, s.data.toList⟩, by rw [← ba_eta], int_in w1, ?_⟩
  rw [hx, d0, d1, d2]
  simp only [Rows.uptoBulk, Rows.uptoBulkAll]
  omega
theorem open_ex {W : World} : ∀ (N fuel : Nat) (cs : List Value) (x : DataW H × List MemPlace), Rows.uptoBulk x.1 ≤ N → W.noneFrozen x.2 → DataW.trod enc Tryz.prog W 0 (fun _ => true) true fuel 26 cs = some x →
    ∃ (e : Ex) (s : Value), cs = exC e s ∧ Held (fun _ => True) W e.args s ∧ bulkX e ≤ Rows.uptoBulk x.1 ∧ rngX e := by
  intro N
  induction N with
  | zero =>
    intro fuel cs x hN hz h
    obtain ⟨c0, c1, c2, c3, c4, c5, c6, c7, c8, c9, y0, y1, y2, y3, y4, y5, y6, y7, n, rfl, hx, _⟩ := trod8 Tryz.underlying26 (by kernel_rfl) ⟨rfl, by kernel_rfl⟩ ⟨rfl, by kernel_rfl⟩ rfl (by kernel_rfl) ⟨rfl, by kernel_rfl⟩ ⟨rfl, by kernel_rfl⟩ ⟨rfl, by kernel_rfl⟩ ⟨rfl, by kernel_rfl⟩ ⟨rfl, by kernel_rfl⟩ h
    rw [hx] at hN
    simp only [Rows.uptoBulk] at hN
    omega
  | succ N ih =>
    intro fuel cs x hN hz h
    obtain ⟨c0, c1, c2, c3, c4, c5, c6, c7, c8, c9, y0, y1, y2, y3, y4, y5, y6, y7, n, rfl, hx, h0, h1, h2, h3, h4, h5, h6, h7, hp7⟩ := trod8 Tryz.underlying26 (by kernel_rfl) ⟨rfl, by kernel_rfl⟩ ⟨rfl, by kernel_rfl⟩ rfl (by kernel_rfl) ⟨rfl, by kernel_rfl⟩ ⟨rfl, by kernel_rfl⟩ ⟨rfl, by kernel_rfl⟩ ⟨rfl, by kernel_rfl⟩ ⟨rfl, by kernel_rfl⟩ h
    obtain ⟨k, e0, d0, _⟩ := DataW.trod_int Tryz.underlying3 h0
    obtain ⟨o, e1, d1, _⟩ := DataW.trod_int Tryz.underlying3 h1
    obtain ⟨v, e2, iv, bv⟩ := open_val h2
    obtain ⟨tb, e3, d3, _⟩ := DataW.trod_string Tryz.underlying9 h3
    obtain ⟨nm, e4, d4, _⟩ := DataW.trod_string Tryz.underlying9 h4
    obtain ⟨co, e5, d5, _⟩ := DataW.trod_int Tryz.underlying3 h5
    obtain ⟨ty, e6, d6, _⟩ := DataW.trod_int Tryz.underlying3 h6
    cases e0; cases e1; cases e2; cases e3; cases e4; cases e5; cases e6
    have hbx : Rows.uptoBulk x.1 = 1 + (1 + (1 + (Rows.uptoBulk y2.1 + (tb.data.toList.length + 1 + (nm.data.toList.length + 1 + (1 + (1 + Rows.uptoBulk y7.1))))))) := by
      rw [hx, d0, d1, d3, d4, d5, d6]
      simp only [Rows.uptoBulk, Rows.uptoBulkAll]
      omega
    rcases open_slice Tryz.underlying24 h7 with ⟨e7, _⟩ | ⟨a, len, cap, m, n', D, Pl, e7, _, hle, _, hmm, hx7, hel⟩
    · cases e7
      refine ⟨.mk k o v tb.data.toList nm.data.toList co ty [], .slice none 0 0, ?_, .nil _ _, ?_, ?_⟩
      · simp only [exC, Ex.kind, Ex.op, Ex.v, Ex.table, Ex.name, Ex.col, Ex.ty]
      · rw [bulkX, bulkXL]; omega
      · rw [rngX, rngXL]; exact ⟨iv, trivial⟩
    · cases e7
      simp only [if_true] at hmm
      have hc10 : Tryz.prog.cellsOf 26 = 10 := by kernel_rfl
      rw [hc10] at hel
      have hb7 : Rows.uptoBulk y7.1 = Rows.uptoBulkAll ((List.range len).map D) + Rows.uptoBulkAll ((List.range (m - len)).map fun j => D (len + j)) + 1 := by rw [hx7]; rfl
      obtain ⟨xs, hxl, hxs⟩ := list_of len (fun i (q : Ex × Value) => ∃ cs', W.cells? 0 (a.add (i * 10)) 10 = some cs' ∧ cs' = exC q.1 q.2 ∧ Held (fun _ => True) W q.1.args q.2 ∧ bulkX q.1 ≤ Rows.uptoBulk (D i) ∧ rngX q.1) (fun i hi => by
        obtain ⟨cs', q1, q2⟩ := hel i (by omega)
        have hbi : Rows.uptoBulk (D i) ≤ Rows.uptoBulkAll ((List.range len).map D) := bulkAll_mem (List.mem_map.mpr ⟨i, List.mem_range.mpr hi, rfl⟩)
        obtain ⟨e, s, r1, r2, r3, r4⟩ := ih n' cs' (D i, Pl i) (by show Rows.uptoBulk (D i) ≤ N; omega) (fun b off hm => hz b off (hp7 _ (by rw [hx7]; exact List.mem_append_right _ (List.mem_flatMap.mpr ⟨i, List.mem_range.mpr (by omega), hm⟩)))) q2
        exact ⟨(e, s), cs', q1, r1, r2, r3, r4⟩)
      have hsum : bulkXL (xs.map (·.1)) ≤ Rows.uptoBulkAll ((List.range len).map D) := by
        refine bulkXL_le _ _ (by simp [hxl]) fun j hj hj' => ?_
        have hjx : j < xs.length := by simpa using hj
        obtain ⟨_, _, _, _, hb, _⟩ := hxs j hjx
        simpa using hb
      refine ⟨.mk k o v tb.data.toList nm.data.toList co ty (xs.map (·.1)), .slice (some a) len cap, ?_, ?_, ?_, ?_⟩
      · simp only [exC, Ex.kind, Ex.op, Ex.v, Ex.table, Ex.name, Ex.col, Ex.ty]
      · show Held (fun _ => True) W (xs.map (·.1)) _
        by_cases hn0 : 0 < len
        · obtain ⟨cs', q1, q2, _⟩ := hxs 0 (by omega)
          obtain ⟨_, hlen', hcell⟩ := World.cells?_some q1
          have hv0 := hcell 0 (by omega)
          rw [q2] at hv0
          simp only [Nat.zero_mul] at hv0
          obtain ⟨ab, ao, asp⟩ := a
          obtain rfl : asp = none := no_spot (W := W) (a := ⟨ab, ao, asp⟩) (v := .int .i64 xs[0].1.kind) (by simpa [Addr.add, exC] using hv0)
          have := held_of_rows (P := fun _ => True) (W := W) (g := ab) (o := ao) (c := cap) trivial xs (fun j hj => hz ab (ao + j) (hp7 _ (by rw [hx7, hc10]; exact List.mem_append_left _ (MemPlace.mem_row.mpr ⟨j, by omega, rfl⟩)))) (fun i hi j hj => by
            obtain ⟨cs', q1, q2, _⟩ := hxs i hi
            obtain ⟨_, hlen', hcell⟩ := World.cells?_some q1
            have := hcell j (by omega)
            rw [add_off, add_off, q2, List.getElem?_eq_getElem (by rw [exC_len]; exact hj)] at this
            exact this) (fun q hq => by
            obtain ⟨i, hi, rfl⟩ := List.getElem_of_mem hq
            obtain ⟨_, _, _, hh, _⟩ := hxs i hi
            exact hh)
          rw [hxl] at this
          exact this
        · have hx0 : xs = [] := List.length_eq_zero_iff.mp (by omega)
          obtain rfl : len = 0 := by omega
          rw [hx0]
          exact .nil _ _
      · rw [bulkX]; omega
      · rw [rngX]
        refine ⟨iv, rngXL_of fun q hq => ?_⟩
        obtain ⟨p, hp, rfl⟩ := List.mem_map.mp hq
        obtain ⟨i, hi, rfl⟩ := List.getElem_of_mem hp
        obtain ⟨_, _, _, _, _, hr⟩ := hxs i hi
        exact hr
theorem open_vals {W : World} {fuel : Nat} {cs : List Value} {x : DataW H × List MemPlace} (h : DataW.trod enc Tryz.prog W 0 (fun _ => true) true fuel 27 cs = some x) :
    ∃ (A : Option Addr) (c : Nat) (vs : List Vl), cs = [.slice A vs.length c] ∧ ValSl W A vs ∧ vs.length ≤ Rows.uptoBulk x.1 ∧ ∀ v ∈ vs, inI v.int ∧ v.text.length ≤ Rows.uptoBulk x.1 := by
  rcases open_slice Tryz.underlying27 h with ⟨rfl, _⟩ | ⟨a, len, cap, m, n', D, Pl, rfl, _, hle, _, hmm, hx7, hel⟩
  · exact ⟨none, 0, [], rfl, fun h => absurd h (by simp), by simp, fun v hv => by cases hv⟩
  · simp only [if_true] at hmm
    have hc3 : Tryz.prog.cellsOf 23 = 3 := by kernel_rfl
    rw [hc3] at hel
    have hb7 : Rows.uptoBulk x.1 = Rows.uptoBulkAll ((List.range len).map D) + Rows.uptoBulkAll ((List.range (m - len)).map fun j => D (len + j)) + 1 := by rw [hx7]; rfl
    obtain ⟨vs, hvl, hvs⟩ := list_of len (fun i (v : Vl) => ∃ cs', W.cells? 0 (a.add (i * 3)) 3 = some cs' ∧ cs' = [.int .i64 v.kind, .int .i64 v.int, .string ⟨v.text.toArray⟩] ∧ inI v.int ∧ v.text.length + 1 ≤ Rows.uptoBulk (D i)) (fun i hi => by
      obtain ⟨cs', q1, q2⟩ := hel i (by omega)
      obtain ⟨v, r1, r2, r3⟩ := open_val q2
      exact ⟨v, cs', q1, r1, r2, r3⟩)
    have hall : ∀ n, n ≤ len → n ≤ Rows.uptoBulkAll ((List.range n).map D) := by
      intro n
      induction n with
      | zero => intro _; exact Nat.zero_le _
      | succ n ih =>
        intro hn
        have h1 := ih (by omega)
        obtain ⟨_, _, _, _, hb⟩ := hvs n (by omega)
        rw [List.range_succ, List.map_append, bulkAll_append]
        simp only [List.map_cons, List.map_nil, Rows.uptoBulkAll]
        omega
    have hlenb := hall len (Nat.le_refl _)
    refine ⟨some a, cap, vs, by rw [hvl], fun h0 => ?_, by rw [hvl]; omega, fun v hv => ?_⟩
    · obtain ⟨cs', q1, q2, _⟩ := hvs 0 h0
      obtain ⟨_, hlen', hcell⟩ := World.cells?_some q1
      have hv0 := hcell 0 (by omega)
      rw [q2] at hv0
      simp only [Nat.zero_mul] at hv0
      obtain ⟨ab, ao, asp⟩ := a
      obtain rfl : asp = none := no_spot (W := W) (a := ⟨ab, ao, asp⟩) (v := .int .i64 vs[0].kind) (by simpa [Addr.add] using hv0)
      refine ⟨ab, ao, rfl, fun i hi => ?_⟩
      obtain ⟨cs', q1, q2, _⟩ := hvs i hi
      obtain ⟨_, hlen', hcell⟩ := World.cells?_some q1
      have f0 := hcell 0 (by omega)
      have f1 := hcell 1 (by omega)
      have f2 := hcell 2 (by omega)
      rw [add_off, add_off, q2] at f0 f1 f2
      exact ⟨f0, f1, f2⟩
    · obtain ⟨i, hi, rfl⟩ := List.getElem_of_mem hv
      obtain ⟨_, _, _, h1, h2⟩ := hvs i hi
      have hbi : Rows.uptoBulk (D i) ≤ Rows.uptoBulkAll ((List.range len).map D) := bulkAll_mem (List.mem_map.mpr ⟨i, List.mem_range.mpr (by omega), rfl⟩)
      exact ⟨h1, by omega⟩
end
end Go.Proofs.YtbeeaikilcnpgaaGreatDoor.Exp

namespace Go.Proofs.YtbeeaikilcnpgaaGreatDoor.Exp
open Go.RowKit Go.Proofs.YtbeeaikilcnpgaaGreatDoor.Base
mutual
def hasCol : Ex → Bool
  | .mk k _ _ _ _ _ _ a => k == 2 || hasColL a
def hasColL : List Ex → Bool
  | [] => false
  | x :: xs => hasCol x || hasColL xs
end
theorem vl_eq {v u : Vl} (h : (v.kind == u.kind && (v.int == u.int && v.text == u.text)) = true) : v = u := by
  cases v; cases u
  simp only [Bool.and_eq_true, beq_iff_eq] at h
  obtain ⟨h1, h2, h3⟩ := h
  subst h1; subst h2; subst h3; rfl
end Go.Proofs.YtbeeaikilcnpgaaGreatDoor.Exp

namespace Go.Proofs.YtbeeaikilcnpgaaGreatDoor.Exp
open Go.RowKit Go.Proofs.YtbeeaikilcnpgaaGreatDoor.Base Go.Proofs.YtbeeaikilcnpgaaGreatDoor.App Go.Proofs.YtbeeaikilcnpgaaGreatDoor.Byt
def chkV (v : Vl) : Int :=
  if v.kind < 0 then 5 else if 4 < v.kind then 5
  else if v.kind = 0 then (if v.int = 0 ∧ v.text = [] then 0 else 3)
  else if v.kind = 1 then (if v.text = [] ∧ (v.int = 0 ∨ v.int = 1) then 0 else 3)
  else if v.kind = 2 then (if v.text = [] then 0 else 3)
  else (if v.int = 0 then 0 else 3)
theorem rv_of {v : Vl} (h : chkV v = 0) (hi : inI v.int) (ht : v.text.length ≤ reachBytes) : RV v := by
  obtain ⟨k, n, t⟩ := v
  unfold chkV at h
  simp only at h hi ht
  split at h
  · simp at h
  · split at h
    · simp at h
    · split at h
      · split at h
        · rename_i h0 h1
          obtain ⟨rfl, rfl⟩ := h1
          subst h0
          exact .null
        · simp at h
      · split at h
        · split at h
          · rename_i h0 h1
            obtain ⟨rfl, h1⟩ := h1
            subst h0
            rcases h1 with rfl | rfl
            · exact .bool false
            · exact .bool true
          · simp at h
        · split at h
          · split at h
            · rename_i h0 h1
              subst h0; subst h1
              exact .num n hi
            · simp at h
          · split at h
            · rename_i h0
              subst h0
              rcases (show k = 3 ∨ k = 4 by omega) with rfl | rfl
              · exact .text t ht
              · exact .blob t ht
            · simp at h
theorem chk_of {v : Vl} (h : RV v) : chkV v = 0 := by
  cases h with
  | null => rfl
  | bool b => cases b <;> rfl
  | num n h => simp [chkV, vNum]
  | text s h => simp [chkV, vTxt]
  | blob s h => simp [chkV]
theorem str_ne {t : List UInt8} (h : ¬ t = []) : ¬ (⟨t.toArray⟩ : ByteArray).toList = [] := by rw [Lib.toList_data]; exact h
set_option maxRecDepth 100000 in
theorem rchk_lo (k n : Int) (t : List UInt8) (h : k < 0) (w : World) : Calls Tryz.prog 15 #[.agg #[.int .i64 k, .int .i64 n, .string ⟨t.toArray⟩]] w fun e w' => e = .returned (.int .i64 5) ∧ Below w.heap.size w w' := by
  go_enter Tryz.func15, Tryz.ntmps15
  go_wp2
  go_ret
  exact ⟨rfl, below_alloc (Below.refl _ _) _⟩
set_option maxRecDepth 100000 in
theorem rchk_hi (k n : Int) (t : List UInt8) (h : ¬ k < 0) (h' : 4 < k) (w : World) : Calls Tryz.prog 15 #[.agg #[.int .i64 k, .int .i64 n, .string ⟨t.toArray⟩]] w fun e w' => e = .returned (.int .i64 5) ∧ Below w.heap.size w w' := by
  go_enter Tryz.func15, Tryz.ntmps15
  go_wp2
  go_ret
  exact ⟨rfl, below_alloc (Below.refl _ _) _⟩
set_option maxRecDepth 100000 in
theorem rchk_0_true (n : Int) (t : List UInt8) (h : ∀ W, (binOp .neq 23 (.agg #[.int .i64 0, .int .i64 n, .string ⟨t.toArray⟩]) (.agg #[.int .i64 0, .int .i64 0, .string ⟨#[]⟩])).run Tryz.prog W = .ok (.bool false) W) (w : World) : Calls Tryz.prog 15 #[.agg #[.int .i64 0, .int .i64 n, .string ⟨t.toArray⟩]] w fun e w' => e = .returned (.int .i64 0) ∧ Below w.heap.size w w' := by
  go_enter Tryz.func15, Tryz.ntmps15
  go_wp2
  go_ret
  exact ⟨rfl, below_alloc (Below.refl _ _) _⟩
set_option maxRecDepth 100000 in
theorem rchk_0_false (n : Int) (t : List UInt8) (h : ∀ W, (binOp .neq 23 (.agg #[.int .i64 0, .int .i64 n, .string ⟨t.toArray⟩]) (.agg #[.int .i64 0, .int .i64 0, .string ⟨#[]⟩])).run Tryz.prog W = .ok (.bool true) W) (w : World) : Calls Tryz.prog 15 #[.agg #[.int .i64 0, .int .i64 n, .string ⟨t.toArray⟩]] w fun e w' => e = .returned (.int .i64 3) ∧ Below w.heap.size w w' := by
  go_enter Tryz.func15, Tryz.ntmps15
  go_wp2
  go_ret
  exact ⟨rfl, below_alloc (Below.refl _ _) _⟩
set_option maxRecDepth 100000 in
theorem rchk_1_0 (w : World) : Calls Tryz.prog 15 #[.agg #[.int .i64 1, .int .i64 0, .string ⟨#[]⟩]] w fun e w' => e = .returned (.int .i64 0) ∧ Below w.heap.size w w' := by
  go_enter Tryz.func15, Tryz.ntmps15
  go_wp2
  go_ret
  exact ⟨rfl, below_alloc (Below.refl _ _) _⟩
set_option maxRecDepth 100000 in
theorem rchk_1_1 (w : World) : Calls Tryz.prog 15 #[.agg #[.int .i64 1, .int .i64 1, .string ⟨#[]⟩]] w fun e w' => e = .returned (.int .i64 0) ∧ Below w.heap.size w w' := by
  go_enter Tryz.func15, Tryz.ntmps15
  go_wp2
  go_ret
  exact ⟨rfl, below_alloc (Below.refl _ _) _⟩
set_option maxRecDepth 100000 in
theorem rchk_1_n (n : Int) (h0 : (n != 0) = true) (h1 : (n != 1) = true) (g0 : ¬ n = 0) (g1 : ¬ n = 1) (w : World) : Calls Tryz.prog 15 #[.agg #[.int .i64 1, .int .i64 n, .string ⟨#[]⟩]] w fun e w' => e = .returned (.int .i64 3) ∧ Below w.heap.size w w' := by
  go_enter Tryz.func15, Tryz.ntmps15
  go_wp2
  go_ret
  exact ⟨rfl, below_alloc (Below.refl _ _) _⟩
set_option maxRecDepth 100000 in
theorem rchk_1_t (n : Int) (t : List UInt8) (h : ¬ (⟨t.toArray⟩ : ByteArray).toList = []) (he : t.isEmpty = false) (w : World) : Calls Tryz.prog 15 #[.agg #[.int .i64 1, .int .i64 n, .string ⟨t.toArray⟩]] w fun e w' => e = .returned (.int .i64 3) ∧ Below w.heap.size w w' := by
  go_enter Tryz.func15, Tryz.ntmps15
  go_wp2
  go_ret
  exact ⟨rfl, below_alloc (Below.refl _ _) _⟩
set_option maxRecDepth 100000 in
theorem rchk_2_n (n : Int) (w : World) : Calls Tryz.prog 15 #[.agg #[.int .i64 2, .int .i64 n, .string ⟨#[]⟩]] w fun e w' => e = .returned (.int .i64 0) ∧ Below w.heap.size w w' := by
  go_enter Tryz.func15, Tryz.ntmps15
  go_wp2
  go_ret
  exact ⟨rfl, below_alloc (Below.refl _ _) _⟩
set_option maxRecDepth 100000 in
theorem rchk_2_t (n : Int) (t : List UInt8) (h : ¬ (⟨t.toArray⟩ : ByteArray).toList = []) (he : t.isEmpty = false) (w : World) : Calls Tryz.prog 15 #[.agg #[.int .i64 2, .int .i64 n, .string ⟨t.toArray⟩]] w fun e w' => e = .returned (.int .i64 3) ∧ Below w.heap.size w w' := by
  go_enter Tryz.func15, Tryz.ntmps15
  go_wp2
  go_ret
  exact ⟨rfl, below_alloc (Below.refl _ _) _⟩
set_option maxRecDepth 100000 in
theorem rchk_3_0 (t : List UInt8) (w : World) : Calls Tryz.prog 15 #[.agg #[.int .i64 3, .int .i64 0, .string ⟨t.toArray⟩]] w fun e w' => e = .returned (.int .i64 0) ∧ Below w.heap.size w w' := by
  go_enter Tryz.func15, Tryz.ntmps15
  go_wp2
  go_ret
  exact ⟨rfl, below_alloc (Below.refl _ _) _⟩
set_option maxRecDepth 100000 in
theorem rchk_3_n (n : Int) (t : List UInt8) (h0 : (n != 0) = true) (w : World) : Calls Tryz.prog 15 #[.agg #[.int .i64 3, .int .i64 n, .string ⟨t.toArray⟩]] w fun e w' => e = .returned (.int .i64 3) ∧ Below w.heap.size w w' := by
  go_enter Tryz.func15, Tryz.ntmps15
  go_wp2
  go_ret
  exact ⟨rfl, below_alloc (Below.refl _ _) _⟩
set_option maxRecDepth 100000 in
theorem rchk_4_0 (t : List UInt8) (w : World) : Calls Tryz.prog 15 #[.agg #[.int .i64 4, .int .i64 0, .string ⟨t.toArray⟩]] w fun e w' => e = .returned (.int .i64 0) ∧ Below w.heap.size w w' := by
  go_enter Tryz.func15, Tryz.ntmps15
  go_wp2
  go_ret
  exact ⟨rfl, below_alloc (Below.refl _ _) _⟩
set_option maxRecDepth 100000 in
theorem rchk_4_n (n : Int) (t : List UInt8) (h0 : (n != 0) = true) (w : World) : Calls Tryz.prog 15 #[.agg #[.int .i64 4, .int .i64 n, .string ⟨t.toArray⟩]] w fun e w' => e = .returned (.int .i64 3) ∧ Below w.heap.size w w' := by
  go_enter Tryz.func15, Tryz.ntmps15
  go_wp2
  go_ret
  exact ⟨rfl, below_alloc (Below.refl _ _) _⟩
theorem rchk_calls (v : Vl) (w : World) : Calls Tryz.prog 15 #[vC v] w fun e w' => e = .returned (.int .i64 (chkV v)) ∧ Below w.heap.size w w' := by
  obtain ⟨k, n, t⟩ := v
  unfold vC chkV
  simp only
  by_cases h0 : k < 0
  · rw [if_pos h0]; exact rchk_lo k n t h0 w
  rw [if_neg h0]
  by_cases h4 : 4 < k
  · rw [if_pos h4]; exact rchk_hi k n t h0 h4 w
  rw [if_neg h4]
  rcases (show k = 0 ∨ k = 1 ∨ k = 2 ∨ k = 3 ∨ k = 4 by omega) with rfl | rfl | rfl | rfl | rfl
  · have hq : ∀ W, (binOp .neq 23 (.agg #[.int .i64 0, .int .i64 n, .string ⟨t.toArray⟩]) (.agg #[.int .i64 0, .int .i64 0, .string ⟨#[]⟩])).run Tryz.prog W = .ok (.bool (!(eqV ⟨0, n, t⟩ vNull))) W := fun W => by
      have h : (binOp .neq 23 (.agg #[.int .i64 0, .int .i64 n, .string ⟨t.toArray⟩]) (.agg #[.int .i64 0, .int .i64 0, .string ⟨([] : List UInt8).toArray⟩])).run Tryz.prog W = .ok (.bool (!((0 : Int) == 0 && (n == 0 && ((⟨t.toArray⟩ : ByteArray).toList == (⟨([] : List UInt8).toArray⟩ : ByteArray).toList))))) W := Eqs.op_neq fun d => val_in d W _ _ _ _ _ _
      rw [tl_eq] at h
      exact h
    rw [if_pos rfl]
    by_cases hn : n = 0 ∧ t = []
    · rw [if_pos hn]
      obtain ⟨rfl, rfl⟩ := hn
      exact rchk_0_true 0 [] (fun W => hq W) w
    · rw [if_neg hn]
      have he : eqV ⟨0, n, t⟩ vNull = false := by
        cases h : eqV ⟨0, n, t⟩ vNull with
        | false => rfl
        | true =>
          have := vl_eq h
          injection this with _ h1 h2
          exact absurd ⟨h1, h2⟩ hn
      rw [he] at hq
      exact rchk_0_false n t (fun W => hq W) w
  · rw [if_neg (by decide), if_pos rfl]
    by_cases ht : t = []
    · subst ht
      by_cases hn0 : n = 0
      · subst hn0; rw [if_pos ⟨rfl, .inl rfl⟩]; exact rchk_1_0 w
      · by_cases hn1 : n = 1
        · subst hn1; rw [if_pos ⟨rfl, .inr rfl⟩]; exact rchk_1_1 w
        · rw [if_neg (by rintro ⟨_, h | h⟩; exact hn0 h; exact hn1 h)]
          exact rchk_1_n n (by simpa using hn0) (by simpa using hn1) hn0 hn1 w
    · rw [if_neg (fun h => ht h.1)]
      exact rchk_1_t n t (str_ne ht) (by cases t; exact absurd rfl ht; rfl) w
  · rw [if_neg (by decide), if_neg (by decide), if_pos rfl]
    by_cases ht : t = []
    · subst ht; rw [if_pos rfl]; exact rchk_2_n n w
    · rw [if_neg ht]; exact rchk_2_t n t (str_ne ht) (by cases t; exact absurd rfl ht; rfl) w
  · rw [if_neg (by decide), if_neg (by decide), if_neg (by decide)]
    by_cases hn0 : n = 0
    · subst hn0; rw [if_pos rfl]; exact rchk_3_0 t w
    · rw [if_neg hn0]; exact rchk_3_n n t (by simpa using hn0) w
  · rw [if_neg (by decide), if_neg (by decide), if_neg (by decide)]
    by_cases hn0 : n = 0
    · subst hn0; rw [if_pos rfl]; exact rchk_4_0 t w
    · rw [if_neg hn0]; exact rchk_4_n n t (by simpa using hn0) w
set_option maxRecDepth 100000 in
theorem row_calls (vs : List Vl) (hn : vs.length ≤ 1048576) (A : Option Addr) (c : Nat) (w : World) (hv : ValSl w A vs) :
    Calls Tryz.prog 8 #[.slice A vs.length c] w fun e w' => e = .returned (.bool (vs.all fun v => chkV v == 0)) ∧ Below w.heap.size w w' := by
  have HV := Asd.mk hv
  generalize hm : vs.length = m at hn ⊢
  have HM := Asd.mk hm
  clear hv hm
  go_enter Tryz.func8, Tryz.ntmps8
  go_wp2
  go_loopw [3] (fun i wr => ∃ k : Nat, k ≤ m ∧ i = .int .i64 (k : Int) ∧ Asd (Below w.heap.size w wr) ∧ Asd ((vs.all fun v => chkV v == 0) = ((vs.drop k).all fun v => chkV v == 0))) (fun i _ => m - (intOf i).toNat)
  case atStart => exact ⟨0, by omega, rfl, ⟨Below.refl _ _⟩, ⟨rfl⟩⟩
  case round =>
    obtain ⟨k, hk, rfl, HB, HQ⟩ := hrel
    by_cases hlt : k < m
    · have hkv : k < vs.length := by rw [HM.out]; exact hlt
      obtain ⟨g, o, rfl, hv⟩ := (HV.out.below HB.out) (by omega)
      obtain ⟨x0, x1, x2⟩ := hv k hkv
      have HD : Asd (vs.drop k = vs[k] :: vs.drop (k + 1)) := Asd.mk (List.drop_eq_getElem_cons hkv)
      rw [HD.out, List.all_cons] at HQ
      generalize vs[k] = v at x0 x1 x2 HQ
      have HC := Asd.mk (rchk_calls v)
      clear HD hv hkv
      have hgl := World.block_lt_of_cell? wr _ x0
      have hk0 : (0 : Int) ≤ (k : Int) := by omega
      go_wp2_with fail
      refine (HC.out _).mono ?_
      rintro e w2 ⟨rfl, hb2⟩
      have HB2 : Asd (Below w.heap.size w w2) := Asd.mk (HB.out.trans (hb2.mono HB.out.size))
      clear x0 x1 x2 hb2
      cases hc : (chkV v == 0) with
      | true =>
        have hcn : (chkV v != 0) = false := by rw [beq_iff_eq] at hc; rw [hc]; rfl
        have HQ2 : Asd ((vs.all fun v => chkV v == 0) = ((vs.drop (k + 1)).all fun v => chkV v == 0)) := Asd.mk (by rw [HQ.out, hc, Bool.true_and])
        clear hc
        generalize chkV v = q at hcn ⊢
        go_wp2
        go_roundw
        case rel => exact ⟨k + 1, by omega, by go_num, HB2, HQ2⟩
        case measure => simp [intOf]; omega
      | false =>
        have hcn : (chkV v != 0) = true := by rw [beq_eq_false_iff_ne] at hc; rw [bne_iff_ne]; exact hc
        have HQ2 : Asd ((vs.all fun v => chkV v == 0) = false) := Asd.mk (by rw [HQ.out, hc]; rfl)
        clear hc
        generalize chkV v = q at hcn ⊢
        go_wp2
        go_ret
        exact ⟨ret_eq (by rw [HQ2.out]; rfl), HB2.out⟩
    · have HS : Asd ((vs.all fun v => chkV v == 0) = true) := Asd.mk (by rw [HQ.out, List.drop_of_length_le (by rw [HM.out]; omega)]; rfl)
      clear HQ
      go_wp2
      go_ret
      exact ⟨ret_eq (by rw [HS.out]; rfl), HB.out⟩
mutual
def rightX : Ex → Bool
  | .mk _ _ v _ _ _ _ a => chkV v == 0 && rightL a
def rightL : List Ex → Bool
  | [] => true
  | x :: xs => rightX x && rightL xs
end
mutual
def sizeX : Ex → Nat
  | .mk _ _ _ _ _ _ _ a => 1 + sizeL a
def sizeL : List Ex → Nat
  | [] => 0
  | x :: xs => sizeX x + sizeL xs
end
theorem rightX_eq (x : Ex) : rightX x = (chkV x.v == 0 && rightL x.args) := by cases x; rw [rightX]; rfl
theorem sizeX_eq (x : Ex) : sizeX x = 1 + sizeL x.args := by cases x; rw [sizeX]; rfl
mutual
theorem sizeX_le : ∀ x : Ex, sizeX x ≤ bulkX x
  | .mk k o v t n c ty a => by rw [sizeX, bulkX]; have := sizeL_le a; omega
theorem sizeL_le : ∀ l : List Ex, sizeL l ≤ bulkXL l
  | [] => by rw [sizeL, bulkXL]; omega
  | x :: xs => by rw [sizeL, bulkXL]; exact Nat.add_le_add (sizeX_le x) (sizeL_le xs)
end
mutual
theorem rvX_of : ∀ x : Ex, rightX x = true → rngX x → bulkX x ≤ 1048576 → rvX x
  | .mk k o v t n c ty a, h, hr, hb => by
    rw [rightX, Bool.and_eq_true, beq_iff_eq] at h
    rw [rngX] at hr
    rw [bulkX] at hb
    rw [rvX]
    exact ⟨rv_of h.1 hr.1 (by have : reachBytes = 140737488351232 := rfl; omega), rvXL_of a h.2 hr.2 (by omega)⟩
theorem rvXL_of : ∀ l : List Ex, rightL l = true → rngXL l → bulkXL l ≤ 1048576 → rvXL l
  | [], _, _, _ => by rw [rvXL]; trivial
  | x :: xs, h, hr, hb => by
    rw [rightL, Bool.and_eq_true] at h
    rw [rngXL] at hr
    rw [bulkXL] at hb
    rw [rvXL]
    exact ⟨rvX_of x h.1 hr.1 (by omega), rvXL_of xs h.2 hr.2 (by omega)⟩
end
theorem rightL_drop {l : List Ex} {k : Nat} (h : k < l.length) : rightL (l.drop k) = (rightX l[k] && rightL (l.drop (k + 1))) := by rw [List.drop_eq_getElem_cons h, rightL]
theorem sizeL_drop {l : List Ex} {k : Nat} (h : k < l.length) : sizeL (l.drop k) = sizeX l[k] + sizeL (l.drop (k + 1)) := by rw [List.drop_eq_getElem_cons h, sizeL]
def RightsOK (x : Ex) : Prop := ∀ (Q : Nat → Prop) (A : Option Addr) (c : Nat) (w : World), Held Q w x.args (.slice A x.args.length c) → Calls Tryz.prog 7 #[exV x (.slice A x.args.length c)] w fun e w' => e = .returned (.bool (rightX x)) ∧ Below w.heap.size w w'
set_option maxRecDepth 100000 in
theorem rights_step (x : Ex) (hn : x.args.length ≤ 1048576) (hsub : ∀ i (h : i < x.args.length), RightsOK x.args[i]) : RightsOK x := by
  intro Q A c w hheld
  have HH := Asd.mk hheld
  have HSUB := Asd.mk hsub
  have HE := Asd.mk (rightX_eq x)
  have HC := Asd.mk (rchk_calls x.v)
  have HX := Asd.mk (blk_new w (xK x (.slice A x.args.length c)))
  have HB : Asd (Below w.heap.size w (w.alloc (xK x (.slice A x.args.length c)))) := Asd.mk (below_alloc (Below.refl _ _) _)
  clear hheld hsub
  generalize hm : x.args.length = m at hn HX HB HH ⊢
  have HM := Asd.mk hm
  clear hm
  unfold exV
  go_enter Tryz.func7, Tryz.ntmps7
  go_upto_region 1 with fail
  generalize w.alloc _ = w1 at HX HB ⊢
  obtain ⟨e0, e1, e2, e3, e4, e5, e6, e7, e8, e9⟩ := ex_cells (x := x) HX.out
  go_wp2_with fail
  refine (HC.out _).mono ?_
  rintro e w2 ⟨rfl, hb2⟩
  have HB2 : Asd (Below w.heap.size w w2) := Asd.mk (HB.out.trans (hb2.mono HB.out.size))
  have HX2 := Asd.mk (blk_below hb2 HX.out)
  clear e0 e1 e2 e3 e4 e5 e6 e7 e8 e9 hb2 HC
  have e9 : w2.cell? ⟨w.heap.size, 9, none⟩ = some (.slice A m c) := (blk_cell HX2.out 9).trans rfl
  cases hc : (chkV x.v == 0) with
  | false =>
    have hcn : (chkV x.v != 0) = true := by rw [beq_eq_false_iff_ne] at hc; rw [bne_iff_ne]; exact hc
    have HF : Asd (rightX x = false) := Asd.mk (by rw [HE.out, hc]; rfl)
    clear hc
    generalize chkV x.v = q at hcn ⊢
    go_wp2
    go_ret
    exact ⟨ret_eq (by rw [HF.out]; rfl), HB2.out⟩
  | true =>
    have hcn : (chkV x.v != 0) = false := by rw [beq_iff_eq] at hc; rw [hc]; rfl
    rw [hc, Bool.true_and] at HE
    clear hc
    generalize chkV x.v = q at hcn ⊢
    have HB0 := HB2
    go_wp2
    go_loopw [3] (fun i wr => ∃ k : Nat, k ≤ m ∧ i = .int .i64 (k : Int) ∧ Asd (Below w.heap.size w wr) ∧ Asd (Below w2.heap.size w2 wr) ∧ Asd (rightX x = rightL (x.args.drop k))) (fun i _ => m - (intOf i).toNat)
    case atStart => exact ⟨0, by omega, rfl, ⟨HB0.out⟩, ⟨Below.refl _ _⟩, ⟨HE.out⟩⟩
    case round =>
      obtain ⟨k, hk, rfl, HBR, HBR2, HQ⟩ := hrel
      clear e9
      have e9 : wr.cell? ⟨w.heap.size, 9, none⟩ = some (.slice A m c) := (blk_cell (blk_below HBR2.out HX2.out) 9).trans rfl
      by_cases hlt : k < m
      · have hkx : k < x.args.length := by rw [HM.out]; exact hlt
        obtain ⟨g, o, A1, n1, c1, he1, hr1, hh1⟩ := held_at (held_below HH.out HBR.out) k hkx
        subst he1
        obtain ⟨A1', c1', he2⟩ := held_len hh1
        have hn1 : n1 = x.args[k].args.length := by
          injection he2
        subst hn1
        clear he2
        have HSK := Asd.mk (HSUB.out k hkx)
        rw [rightL_drop hkx] at HQ
        generalize x.args[k] = a at hr1 hh1 HSK HQ
        have HHA := Asd.mk hh1
        clear hkx
        have hgl := World.block_lt_of_cell? wr _ (hr1 0 (by omega))
        have hk0 : (0 : Int) ≤ (k : Int) := by omega
        have x0 : wr.cell? ⟨g, o + k * 10, none⟩ = some (.int .i64 a.kind) := hr1 0 (by omega)
        have x1 : wr.cell? ⟨g, o + k * 10 + 1, none⟩ = some (.int .i64 a.op) := hr1 1 (by omega)
        have x2 : wr.cell? ⟨g, o + k * 10 + 2, none⟩ = some (.int .i64 a.v.kind) := hr1 2 (by omega)
        have x3 : wr.cell? ⟨g, o + k * 10 + 3, none⟩ = some (.int .i64 a.v.int) := hr1 3 (by omega)
        have x4 : wr.cell? ⟨g, o + k * 10 + 4, none⟩ = some (.string ⟨a.v.text.toArray⟩) := hr1 4 (by omega)
        have x5 : wr.cell? ⟨g, o + k * 10 + 5, none⟩ = some (.string ⟨a.table.toArray⟩) := hr1 5 (by omega)
        have x6 : wr.cell? ⟨g, o + k * 10 + 6, none⟩ = some (.string ⟨a.name.toArray⟩) := hr1 6 (by omega)
        have x7 : wr.cell? ⟨g, o + k * 10 + 7, none⟩ = some (.int .i64 a.col) := hr1 7 (by omega)
        have x8 : wr.cell? ⟨g, o + k * 10 + 8, none⟩ = some (.int .i64 a.ty) := hr1 8 (by omega)
        have x9 : wr.cell? ⟨g, o + k * 10 + 9, none⟩ = some (.slice A1 a.args.length c1) := hr1 9 (by omega)
        clear hr1 hh1
        go_wp2_with fail
        refine (HSK.out Q A1 c1 wr HHA.out).mono ?_
        rintro e w5 ⟨rfl, hb5⟩
        have HB5 : Asd (Below w.heap.size w w5) := Asd.mk (HBR.out.trans (hb5.mono HBR.out.size))
        have HB52 : Asd (Below w2.heap.size w2 w5) := Asd.mk (HBR2.out.trans (hb5.mono HBR2.out.size))
        clear x0 x1 x2 x3 x4 x5 x6 x7 x8 x9 e9 hb5
        cases hr : rightX a with
        | true =>
          have HQ2 : Asd (rightX x = rightL (x.args.drop (k + 1))) := Asd.mk (by rw [HQ.out, hr, Bool.true_and])
          clear hr
          go_wp2
          go_roundw
          case rel => exact ⟨k + 1, by omega, by go_num, HB5, HB52, HQ2⟩
          case measure => simp [intOf]; omega
        | false =>
          have HQ2 : Asd (rightX x = false) := Asd.mk (by rw [HQ.out, hr]; rfl)
          clear hr
          go_wp2
          go_ret
          exact ⟨ret_eq (by rw [HQ2.out]; rfl), HB5.out⟩
      · have HS : Asd (rightX x = true) := Asd.mk (by rw [HQ.out, List.drop_of_length_le (by rw [HM.out]; omega)]; rfl)
        clear HQ
        go_wp2
        go_ret
        exact ⟨ret_eq (by rw [HS.out]; rfl), HBR.out⟩
theorem rights_ok (x : Ex) (hf : fewE x) : RightsOK x :=
  rights_step x (fewE_args hf).1 fun i h => rights_ok x.args[i] (fewL_mem (fewE_args hf).2 _ (List.getElem_mem h))
termination_by SizeOf.sizeOf x
decreasing_by exact args_lt x i h

def SizeOK (x : Ex) : Prop := ∀ (Q : Nat → Prop) (A : Option Addr) (c : Nat) (w : World), Held Q w x.args (.slice A x.args.length c) → Calls Tryz.prog 9 #[exV x (.slice A x.args.length c)] w fun e w' => e = .returned (.int .i64 ((sizeX x : Nat) : Int)) ∧ Below w.heap.size w w'
set_option maxRecDepth 100000 in
theorem size_step (x : Ex) (hn : x.args.length ≤ 1048576) (hsz : sizeX x ≤ 1048576) (hsub : ∀ i (h : i < x.args.length), SizeOK x.args[i]) : SizeOK x := by
  intro Q A c w hheld
  have HH := Asd.mk hheld
  have HSUB := Asd.mk hsub
  have HE := Asd.mk (sizeX_eq x)
  have HX := Asd.mk (blk_new w (xK x (.slice A x.args.length c)))
  have HB : Asd (Below w.heap.size w (w.alloc (xK x (.slice A x.args.length c)))) := Asd.mk (below_alloc (Below.refl _ _) _)
  clear hheld hsub
  generalize hm : x.args.length = m at hn HX HB HH ⊢
  have HM := Asd.mk hm
  clear hm
  generalize hz : sizeX x = z at hsz HE ⊢
  clear hz
  have HSZ := Asd.mk hsz
  clear hsz
  unfold exV
  go_enter Tryz.func9, Tryz.ntmps9
  go_upto_region 1 with fail
  generalize w.alloc _ = w1 at HX HB ⊢
  have e9 : w1.cell? ⟨w.heap.size, 9, none⟩ = some (.slice A m c) := (blk_cell HX.out 9).trans rfl
  have HB0 := HB
  go_wp2
  go_loopw [3, 4] (fun s i wr => ∃ (k p : Nat), k ≤ m ∧ i = .int .i64 (k : Int) ∧ s = .int .i64 (p : Int) ∧ Asd (Below w.heap.size w wr) ∧ Asd (Below w1.heap.size w1 wr) ∧ Asd (z = p + sizeL (x.args.drop k))) (fun _ i _ => m - (intOf i).toNat)
  case atStart => exact ⟨0, 1, by omega, rfl, rfl, ⟨HB0.out⟩, ⟨Below.refl _ _⟩, ⟨HE.out⟩⟩
  case round =>
    obtain ⟨k, p, hk, rfl, rfl, HBR, HBR2, HQ⟩ := hrel
    clear e9
    have e9 : wr.cell? ⟨w.heap.size, 9, none⟩ = some (.slice A m c) := (blk_cell (blk_below HBR2.out HX.out) 9).trans rfl
    by_cases hlt : k < m
    · have hkx : k < x.args.length := by rw [HM.out]; exact hlt
      obtain ⟨g, o, A1, n1, c1, he1, hr1, hh1⟩ := held_at (held_below HH.out HBR.out) k hkx
      subst he1
      obtain ⟨A1', c1', he2⟩ := held_len hh1
      have hn1 : n1 = x.args[k].args.length := by
        injection he2
      subst hn1
      clear he2
      have HSK := Asd.mk (HSUB.out k hkx)
      rw [sizeL_drop hkx] at HQ
      generalize x.args[k] = a at hr1 hh1 HSK HQ
      have HHA := Asd.mk hh1
      clear hkx
      have hgl := World.block_lt_of_cell? wr _ (hr1 0 (by omega))
      have hk0 : (0 : Int) ≤ (k : Int) := by omega
      have x0 : wr.cell? ⟨g, o + k * 10, none⟩ = some (.int .i64 a.kind) := hr1 0 (by omega)
      have x1 : wr.cell? ⟨g, o + k * 10 + 1, none⟩ = some (.int .i64 a.op) := hr1 1 (by omega)
      have x2 : wr.cell? ⟨g, o + k * 10 + 2, none⟩ = some (.int .i64 a.v.kind) := hr1 2 (by omega)
      have x3 : wr.cell? ⟨g, o + k * 10 + 3, none⟩ = some (.int .i64 a.v.int) := hr1 3 (by omega)
      have x4 : wr.cell? ⟨g, o + k * 10 + 4, none⟩ = some (.string ⟨a.v.text.toArray⟩) := hr1 4 (by omega)
      have x5 : wr.cell? ⟨g, o + k * 10 + 5, none⟩ = some (.string ⟨a.table.toArray⟩) := hr1 5 (by omega)
      have x6 : wr.cell? ⟨g, o + k * 10 + 6, none⟩ = some (.string ⟨a.name.toArray⟩) := hr1 6 (by omega)
      have x7 : wr.cell? ⟨g, o + k * 10 + 7, none⟩ = some (.int .i64 a.col) := hr1 7 (by omega)
      have x8 : wr.cell? ⟨g, o + k * 10 + 8, none⟩ = some (.int .i64 a.ty) := hr1 8 (by omega)
      have x9 : wr.cell? ⟨g, o + k * 10 + 9, none⟩ = some (.slice A1 a.args.length c1) := hr1 9 (by omega)
      clear hr1 hh1
      go_wp2_with fail
      refine (HSK.out Q A1 c1 wr HHA.out).mono ?_
      rintro e w5 ⟨rfl, hb5⟩
      have HB5 : Asd (Below w.heap.size w w5) := Asd.mk (HBR.out.trans (hb5.mono HBR.out.size))
      have HB52 : Asd (Below w1.heap.size w1 w5) := Asd.mk (HBR2.out.trans (hb5.mono HBR2.out.size))
      clear x0 x1 x2 x3 x4 x5 x6 x7 x8 x9 e9 hb5
      have hpq : p + sizeX a ≤ 1048576 := by have := HQ.out; have := HSZ.out; omega
      have HQ2 : Asd (z = (p + sizeX a) + sizeL (x.args.drop (k + 1))) := Asd.mk (by rw [HQ.out]; omega)
      generalize sizeX a = q at hpq HQ2 ⊢
      go_wp2
      go_roundw
      case rel => exact ⟨k + 1, p + q, by omega, by go_num, by go_num, HB5, HB52, HQ2⟩
      case measure => simp [intOf]; omega
    · have HS : Asd (z = p) := Asd.mk (by rw [HQ.out, List.drop_of_length_le (by rw [HM.out]; omega), sizeL]; rfl)
      clear HQ
      go_wp2
      go_ret
      exact ⟨ret_eq (by rw [HS.out]; rfl), HBR.out⟩
theorem size_ok (x : Ex) (hf : bulkX x ≤ 1048576) : SizeOK x :=
  size_step x (fewE_args (few_of x hf)).1 (Nat.le_trans (sizeX_le x) hf) fun i h => size_ok x.args[i] (by
    have h1 := bulkXL_mem (List.getElem_mem h)
    rw [bulkX_eq] at hf
    omega)
termination_by SizeOf.sizeOf x
decreasing_by exact args_lt x i h

theorem hasColL_drop {l : List Ex} {k : Nat} (h : k < l.length) : hasColL (l.drop k) = (hasCol l[k] || hasColL (l.drop (k + 1))) := by rw [List.drop_eq_getElem_cons h, hasColL]
def TwoOK (x : Ex) : Prop := ∀ (Q : Nat → Prop) (A : Option Addr) (c : Nat) (w : World), Held Q w x.args (.slice A x.args.length c) → Calls Tryz.prog 12 #[exV x (.slice A x.args.length c)] w fun e w' => e = .returned (.bool (hasCol x)) ∧ Below w.heap.size w w'
set_option maxRecDepth 100000 in
theorem any_calls (xs : List Ex) (hn : xs.length ≤ 1048576) (hsub : ∀ i (h : i < xs.length), TwoOK xs[i]) (Q : Nat → Prop) (A : Option Addr) (c : Nat) (w : World) (hheld : Held Q w xs (.slice A xs.length c)) :
    Calls Tryz.prog 25 #[.slice A xs.length c] w fun e w' => e = .returned (.bool (hasColL xs)) ∧ Below w.heap.size w w' := by
  have HH := Asd.mk hheld
  have HSUB := Asd.mk hsub
  clear hheld hsub
  generalize hm : xs.length = m at hn HH ⊢
  have HM := Asd.mk hm
  clear hm
  go_enter Tryz.func25, Tryz.ntmps25
  go_wp2
  go_loopw [3] (fun i wr => ∃ k : Nat, k ≤ m ∧ i = .int .i64 (k : Int) ∧ Asd (Below w.heap.size w wr) ∧ Asd (hasColL xs = hasColL (xs.drop k))) (fun i _ => m - (intOf i).toNat)
  case atStart => exact ⟨0, by omega, rfl, ⟨Below.refl _ _⟩, ⟨rfl⟩⟩
  case round =>
    obtain ⟨k, hk, rfl, HBR, HQ⟩ := hrel
    by_cases hlt : k < m
    · have hkx : k < xs.length := by rw [HM.out]; exact hlt
      obtain ⟨g, o, A1, n1, c1, he1, hr1, hh1⟩ := held_at (held_below HH.out HBR.out) k hkx
      subst he1
      obtain ⟨A1', c1', he2⟩ := held_len hh1
      have hn1 : n1 = xs[k].args.length := by
        injection he2
      subst hn1
      clear he2
      have HSK := Asd.mk (HSUB.out k hkx)
      rw [hasColL_drop hkx] at HQ
      generalize xs[k] = a at hr1 hh1 HSK HQ
      have HHA := Asd.mk hh1
      clear hkx
      have hgl := World.block_lt_of_cell? wr _ (hr1 0 (by omega))
      have hk0 : (0 : Int) ≤ (k : Int) := by omega
      have x0 : wr.cell? ⟨g, o + k * 10, none⟩ = some (.int .i64 a.kind) := hr1 0 (by omega)
      have x1 : wr.cell? ⟨g, o + k * 10 + 1, none⟩ = some (.int .i64 a.op) := hr1 1 (by omega)
      have x2 : wr.cell? ⟨g, o + k * 10 + 2, none⟩ = some (.int .i64 a.v.kind) := hr1 2 (by omega)
      have x3 : wr.cell? ⟨g, o + k * 10 + 3, none⟩ = some (.int .i64 a.v.int) := hr1 3 (by omega)
      have x4 : wr.cell? ⟨g, o + k * 10 + 4, none⟩ = some (.string ⟨a.v.text.toArray⟩) := hr1 4 (by omega)
      have x5 : wr.cell? ⟨g, o + k * 10 + 5, none⟩ = some (.string ⟨a.table.toArray⟩) := hr1 5 (by omega)
      have x6 : wr.cell? ⟨g, o + k * 10 + 6, none⟩ = some (.string ⟨a.name.toArray⟩) := hr1 6 (by omega)
      have x7 : wr.cell? ⟨g, o + k * 10 + 7, none⟩ = some (.int .i64 a.col) := hr1 7 (by omega)
      have x8 : wr.cell? ⟨g, o + k * 10 + 8, none⟩ = some (.int .i64 a.ty) := hr1 8 (by omega)
      have x9 : wr.cell? ⟨g, o + k * 10 + 9, none⟩ = some (.slice A1 a.args.length c1) := hr1 9 (by omega)
      clear hr1 hh1
      go_wp2_with fail
      refine (HSK.out Q A1 c1 wr HHA.out).mono ?_
      rintro e w5 ⟨rfl, hb5⟩
      have HB5 : Asd (Below w.heap.size w w5) := Asd.mk (HBR.out.trans (hb5.mono HBR.out.size))
      clear x0 x1 x2 x3 x4 x5 x6 x7 x8 x9 hb5
      cases hr : hasCol a with
      | false =>
        have HQ2 : Asd (hasColL xs = hasColL (xs.drop (k + 1))) := Asd.mk (by rw [HQ.out, hr, Bool.false_or])
        clear hr
        go_wp2
        go_roundw
        case rel => exact ⟨k + 1, by omega, by go_num, HB5, HQ2⟩
        case measure => simp [intOf]; omega
      | true =>
        have HQ2 : Asd (hasColL xs = true) := Asd.mk (by rw [HQ.out, hr]; rfl)
        clear hr
        go_wp2
        go_ret
        exact ⟨ret_eq (by rw [HQ2.out]; rfl), HB5.out⟩
    · have HS : Asd (hasColL xs = false) := Asd.mk (by rw [HQ.out, List.drop_of_length_le (by rw [HM.out]; omega)]; rfl)
      clear HQ
      go_wp2
      go_ret
      exact ⟨ret_eq (by rw [HS.out]; rfl), HBR.out⟩
end Go.Proofs.YtbeeaikilcnpgaaGreatDoor.Exp
