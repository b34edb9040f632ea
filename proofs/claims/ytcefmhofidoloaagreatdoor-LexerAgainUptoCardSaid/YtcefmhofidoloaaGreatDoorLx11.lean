/- token: the walk. -/
import Derived.Test.YtcefmhofidoloaaGreatDoorLx10
set_option linter.unusedVariables false
set_option linter.unusedSimpArgs false
namespace Go.Proofs.YtcefmhofidoloaaGreatDoor.Lex
open Go.RowKit Go.Proofs.YtcefmhofidoloaaGreatDoor.Base Go.Proofs.YtcefmhofidoloaaGreatDoor.App Go.Proofs.YtcefmhofidoloaaGreatDoor.Byt

structure TkSt (w W : World) (ct : Array Value) : Prop where
  res : W.heap[w.heap.size]? = some (.cells #[.int .i64 0, .string ⟨#[]⟩, .int .i64 0, .int .i64 0] 52 (0, 0))
  box : W.heap[w.heap.size + 1]? = some (.cells ct 52 (0, 0))
  below : Below w.heap.size w W
theorem TkSt.set {w W : World} {ct : Array Value} (h : TkSt w W ct) (k : Nat) (v : Value) : TkSt w (W.setCell ⟨w.heap.size + 1, k, none⟩ v) (ct.setIfInBounds k v) :=
  ⟨blk_far h.res (by simp) v, blk_set h.box k v, h.below.setCell (Nat.le_succ _) v⟩
theorem TkSt.old {w W W' : World} {ct : Array Value} (h : TkSt w W ct) (hb : Below W.heap.size W W') : TkSt w W' ct :=
  ⟨blk_below hb h.res, blk_below hb h.box, h.below.trans (hb.mono h.below.size)⟩
theorem TkSt.new (w : World) : TkSt w ((w.alloc (.cells #[.int .i64 0, .string ⟨#[]⟩, .int .i64 0, .int .i64 0] 52)).alloc (.cells #[.int .i64 0, .string ⟨#[]⟩, .int .i64 0, .int .i64 0] 52)) #[.int .i64 0, .string ⟨#[]⟩, .int .i64 0, .int .i64 0] := by
  refine ⟨blk_alloc (blk_new w _) _, ?_, below_alloc (below_alloc (Below.refl w.heap.size w) _) _⟩
  have h := blk_new (w.alloc (.cells #[.int .i64 0, .string ⟨#[]⟩, .int .i64 0, .int .i64 0] 52)) (.cells #[.int .i64 0, .string ⟨#[]⟩, .int .i64 0, .int .i64 0] 52)
  rwa [show (w.alloc (.cells #[.int .i64 0, .string ⟨#[]⟩, .int .i64 0, .int .i64 0] 52)).heap.size = w.heap.size + 1 by simp] at h

theorem TkSt.drew {w W : World} {ct : Array Value} (h : TkSt w W ct) : TkSt w W.drew ct := ⟨h.res, h.box, h.below.drew⟩
theorem TkSt.fin {w W : World} {ct : Array Value} (h : TkSt w W ct) (a b c d : Value) :
    (((((W.setCell ⟨w.heap.size, 0, none⟩ a).setCell ⟨w.heap.size, 1, none⟩ b).setCell ⟨w.heap.size, 2, none⟩ c).setCell ⟨w.heap.size, 3, none⟩ d)).heap[w.heap.size]? = some (.cells #[a, b, c, d] 52 (0, 0)) ∧
    Below w.heap.size w (((((W.setCell ⟨w.heap.size, 0, none⟩ a).setCell ⟨w.heap.size, 1, none⟩ b).setCell ⟨w.heap.size, 2, none⟩ c).setCell ⟨w.heap.size, 3, none⟩ d)) :=
  ⟨(blk_set (blk_set (blk_set (blk_set h.res 0 a) 1 b) 2 c) 3 d).trans rfl, (((h.below.setCell (Nat.le_refl _) a).setCell (Nat.le_refl _) b).setCell (Nat.le_refl _) c).setCell (Nat.le_refl _) d⟩

set_option maxRecDepth 100000 in
set_option maxHeartbeats 3200000 in
theorem tok_blob120 (s : ByteArray) (w : World) (h1 : 1 ≤ s.size) (hs : s.size ≤ 1048576) (hw : LexW w) (hc : s[0].toNat = 120) (hp : (s.data.toList.drop 1).head? = some 39) :
    Calls Tryz.prog 52 #[.string s] w fun e w' => TokEnd s.data.toList w e w' := by
  have HW := Asd.mk hw
  clear hw
  have HLN : Asd (s.data.toList.length = s.size) := Asd.mk rfl
  have HL : Asd (s.data.toList = s[0] :: s.data.toList.drop 1) := Asd.mk (by have := drop_cons s 0 h1; simpa using this)
  have HXL : Asd ((s.extract 1 s.size).data.toList = s.data.toList.drop 1) := Asd.mk (by
    rw [ext_list, List.take_of_length_le (Nat.le_of_eq (show s.data.toList.length = s.size from rfl))])
  have hc8 := s[0].toNat_lt
  have HP : Asd (Lib.hasPrefix (s.data.toList.drop 1) [39] = true) := Asd.mk (by rw [pre1]; simpa using hp)
  have HC := Asd.mk (show s[0] = 120 from UInt8.toNat_inj.mp hc)
  have HTP : Asd (tokP s.data.toList = (blobP (s.data.toList.drop 1).tail).map fun x => (⟨4, x.1, 0⟩, x.2 + 1)) := Asd.mk (by rw [HL.out, HC.out]; exact tokP_blob (by decide) hp)
  have HX1 : Asd (1 ≤ (s.extract 1 s.size).size) := Asd.mk (by
    have h3 : (s.extract 1 s.size).data.toList.length = (s.extract 1 s.size).size := rfl
    rw [← h3, HXL.out]
    cases hh : s.data.toList.drop 1 with
    | nil => rw [hh] at hp; cases hp
    | cons a b => simp)
  have HXS : Asd ((s.extract 1 s.size).size ≤ 1048576) := Asd.mk (by rw [ext_size]; omega)
  have HTT : Asd ((s.data.toList.drop 1).tail = (s.extract 1 s.size).data.toList.drop 1) := Asd.mk (by rw [HXL.out]; exact List.drop_one.symm)
  rw [HTT.out] at HTP
  clear hp
  go_enter Tryz.func52, Tryz.ntmps52
  have HS := Asd.mk (TkSt.new w)
  go_upto_region 6 with fail
  generalize (w.alloc (.cells #[.int .i64 0, .string ⟨#[]⟩, .int .i64 0, .int .i64 0] 52)).alloc (.cells #[.int .i64 0, .string ⟨#[]⟩, .int .i64 0, .int .i64 0] 52) = W at HS ⊢
  have HWW := Asd.mk (HW.out.below HS.out.below)
  go_wp2_with fail
  refine (Tryz.strings_HasPrefix (s.extract 1 s.size) ⟨#[39]⟩ _).mono ?_
  rintro e w' ⟨rfl, rfl⟩
  rw [HXL.out, show (⟨#[39]⟩ : ByteArray).data.toList = [39] from rfl, HP.out]
  have a0 := (blk_cell HS.out.box 0).trans rfl
  have za0 := blk_frozen HS.out.box 0
  have HS1 := Asd.mk (HS.out.set 0 (.int .i64 4))
  have HWW1 := Asd.mk (HW.out.below HS1.out.below)
  go_wp2_with fail
  refine (blob_calls (s.extract 1 s.size) _ HX1.out HXS.out HWW1.out).mono ?_
  rintro e w1 ⟨rfl, hb1⟩
  have HS2 := Asd.mk (HS1.out.old hb1)
  clear hb1
  cases hbp : blobP ((s.extract 1 s.size).data.toList.drop 1) with
  | none =>
    rw [blobO_none hbp]
    rw [hbp] at HTP
    clear hbp
    have b1 := (blk_cell HS2.out.box 1).trans rfl
    have zb1 := blk_frozen HS2.out.box 1
    have HS3 := Asd.mk (HS2.out.set 1 (.string ⟨([] : List UInt8).toArray⟩))
    have y0 := (blk_cell HS3.out.box 0).trans rfl
    have y1 := (blk_cell HS3.out.box 1).trans rfl
    have y2 := (blk_cell HS3.out.box 2).trans rfl
    have y3 := (blk_cell HS3.out.box 3).trans rfl
    have r0 := (blk_cell HS3.out.res 0).trans rfl
    have zr0 := blk_frozen HS3.out.res 0
    have r1 := (blk_cell HS3.out.res 1).trans rfl
    have zr1 := blk_frozen HS3.out.res 1
    have r2 := (blk_cell HS3.out.res 2).trans rfl
    have zr2 := blk_frozen HS3.out.res 2
    have r3 := (blk_cell HS3.out.res 3).trans rfl
    have zr3 := blk_frozen HS3.out.res 3
    go_wp2
    refine bodyPost_ret (results_token rfl _ _ w.heap.size _ rfl (HS3.out.fin _ _ _ _).1 rfl) rfl ?_
    exact tok_none HTP.out (HS3.out.fin _ _ _ _).2 4 ⟨#[]⟩ 0 rfl
  | some x =>
    rw [blobO_some hbp]
    have hx2 := blobP_ge hbp
    rw [hbp] at HTP
    clear hbp
    obtain ⟨t, n⟩ := x
    have hn0 : 0 < n := by simp only at hx2; omega
    clear hx2
    have HNB : n ≤ 4194304 := by have := (tokP_le HTP.out).2; have := HLN.out; simp only at *; omega
    have b1 := (blk_cell HS2.out.box 1).trans rfl
    have zb1 := blk_frozen HS2.out.box 1
    have HS3 := Asd.mk (HS2.out.set 1 (.string ⟨t.toArray⟩))
    have y0 := (blk_cell HS3.out.box 0).trans rfl
    have y1 := (blk_cell HS3.out.box 1).trans rfl
    have y2 := (blk_cell HS3.out.box 2).trans rfl
    have y3 := (blk_cell HS3.out.box 3).trans rfl
    have r0 := (blk_cell HS3.out.res 0).trans rfl
    have zr0 := blk_frozen HS3.out.res 0
    have r1 := (blk_cell HS3.out.res 1).trans rfl
    have zr1 := blk_frozen HS3.out.res 1
    have r2 := (blk_cell HS3.out.res 2).trans rfl
    have zr2 := blk_frozen HS3.out.res 2
    have r3 := (blk_cell HS3.out.res 3).trans rfl
    have zr3 := blk_frozen HS3.out.res 3
    go_wp2
    refine bodyPost_ret (results_token rfl _ _ w.heap.size _ rfl (HS3.out.fin _ _ _ _).1 rfl) rfl ?_
    exact tok_some HTP.out (HS3.out.fin _ _ _ _).2 rfl
set_option maxRecDepth 100000 in
set_option maxHeartbeats 3200000 in
theorem tok_blob88 (s : ByteArray) (w : World) (h1 : 1 ≤ s.size) (hs : s.size ≤ 1048576) (hw : LexW w) (hc : s[0].toNat = 88) (hp : (s.data.toList.drop 1).head? = some 39) :
    Calls Tryz.prog 52 #[.string s] w fun e w' => TokEnd s.data.toList w e w' := by
  have HW := Asd.mk hw
  clear hw
  have HLN : Asd (s.data.toList.length = s.size) := Asd.mk rfl
  have HL : Asd (s.data.toList = s[0] :: s.data.toList.drop 1) := Asd.mk (by have := drop_cons s 0 h1; simpa using this)
  have HXL : Asd ((s.extract 1 s.size).data.toList = s.data.toList.drop 1) := Asd.mk (by
    rw [ext_list, List.take_of_length_le (Nat.le_of_eq (show s.data.toList.length = s.size from rfl))])
  have hc8 := s[0].toNat_lt
  have HP : Asd (Lib.hasPrefix (s.data.toList.drop 1) [39] = true) := Asd.mk (by rw [pre1]; simpa using hp)
  have HC := Asd.mk (show s[0] = 88 from UInt8.toNat_inj.mp hc)
  have HTP : Asd (tokP s.data.toList = (blobP (s.data.toList.drop 1).tail).map fun x => (⟨4, x.1, 0⟩, x.2 + 1)) := Asd.mk (by rw [HL.out, HC.out]; exact tokP_blob (by decide) hp)
  have HX1 : Asd (1 ≤ (s.extract 1 s.size).size) := Asd.mk (by
    have h3 : (s.extract 1 s.size).data.toList.length = (s.extract 1 s.size).size := rfl
    rw [← h3, HXL.out]
    cases hh : s.data.toList.drop 1 with
    | nil => rw [hh] at hp; cases hp
    | cons a b => simp)
  have HXS : Asd ((s.extract 1 s.size).size ≤ 1048576) := Asd.mk (by rw [ext_size]; omega)
  have HTT : Asd ((s.data.toList.drop 1).tail = (s.extract 1 s.size).data.toList.drop 1) := Asd.mk (by rw [HXL.out]; exact List.drop_one.symm)
  rw [HTT.out] at HTP
  clear hp
  go_enter Tryz.func52, Tryz.ntmps52
  have HS := Asd.mk (TkSt.new w)
  go_upto_region 6 with fail
  generalize (w.alloc (.cells #[.int .i64 0, .string ⟨#[]⟩, .int .i64 0, .int .i64 0] 52)).alloc (.cells #[.int .i64 0, .string ⟨#[]⟩, .int .i64 0, .int .i64 0] 52) = W at HS ⊢
  have HWW := Asd.mk (HW.out.below HS.out.below)
  go_wp2_with fail
  refine (Tryz.strings_HasPrefix (s.extract 1 s.size) ⟨#[39]⟩ _).mono ?_
  rintro e w' ⟨rfl, rfl⟩
  rw [HXL.out, show (⟨#[39]⟩ : ByteArray).data.toList = [39] from rfl, HP.out]
  have a0 := (blk_cell HS.out.box 0).trans rfl
  have za0 := blk_frozen HS.out.box 0
  have HS1 := Asd.mk (HS.out.set 0 (.int .i64 4))
  have HWW1 := Asd.mk (HW.out.below HS1.out.below)
  go_wp2_with fail
  refine (blob_calls (s.extract 1 s.size) _ HX1.out HXS.out HWW1.out).mono ?_
  rintro e w1 ⟨rfl, hb1⟩
  have HS2 := Asd.mk (HS1.out.old hb1)
  clear hb1
  cases hbp : blobP ((s.extract 1 s.size).data.toList.drop 1) with
  | none =>
    rw [blobO_none hbp]
    rw [hbp] at HTP
    clear hbp
    have b1 := (blk_cell HS2.out.box 1).trans rfl
    have zb1 := blk_frozen HS2.out.box 1
    have HS3 := Asd.mk (HS2.out.set 1 (.string ⟨([] : List UInt8).toArray⟩))
    have y0 := (blk_cell HS3.out.box 0).trans rfl
    have y1 := (blk_cell HS3.out.box 1).trans rfl
    have y2 := (blk_cell HS3.out.box 2).trans rfl
    have y3 := (blk_cell HS3.out.box 3).trans rfl
    have r0 := (blk_cell HS3.out.res 0).trans rfl
    have zr0 := blk_frozen HS3.out.res 0
    have r1 := (blk_cell HS3.out.res 1).trans rfl
    have zr1 := blk_frozen HS3.out.res 1
    have r2 := (blk_cell HS3.out.res 2).trans rfl
    have zr2 := blk_frozen HS3.out.res 2
    have r3 := (blk_cell HS3.out.res 3).trans rfl
    have zr3 := blk_frozen HS3.out.res 3
    go_wp2
    refine bodyPost_ret (results_token rfl _ _ w.heap.size _ rfl (HS3.out.fin _ _ _ _).1 rfl) rfl ?_
    exact tok_none HTP.out (HS3.out.fin _ _ _ _).2 4 ⟨#[]⟩ 0 rfl
  | some x =>
    rw [blobO_some hbp]
    have hx2 := blobP_ge hbp
    rw [hbp] at HTP
    clear hbp
    obtain ⟨t, n⟩ := x
    have hn0 : 0 < n := by simp only at hx2; omega
    clear hx2
    have HNB : n ≤ 4194304 := by have := (tokP_le HTP.out).2; have := HLN.out; simp only at *; omega
    have b1 := (blk_cell HS2.out.box 1).trans rfl
    have zb1 := blk_frozen HS2.out.box 1
    have HS3 := Asd.mk (HS2.out.set 1 (.string ⟨t.toArray⟩))
    have y0 := (blk_cell HS3.out.box 0).trans rfl
    have y1 := (blk_cell HS3.out.box 1).trans rfl
    have y2 := (blk_cell HS3.out.box 2).trans rfl
    have y3 := (blk_cell HS3.out.box 3).trans rfl
    have r0 := (blk_cell HS3.out.res 0).trans rfl
    have zr0 := blk_frozen HS3.out.res 0
    have r1 := (blk_cell HS3.out.res 1).trans rfl
    have zr1 := blk_frozen HS3.out.res 1
    have r2 := (blk_cell HS3.out.res 2).trans rfl
    have zr2 := blk_frozen HS3.out.res 2
    have r3 := (blk_cell HS3.out.res 3).trans rfl
    have zr3 := blk_frozen HS3.out.res 3
    go_wp2
    refine bodyPost_ret (results_token rfl _ _ w.heap.size _ rfl (HS3.out.fin _ _ _ _).1 rfl) rfl ?_
    exact tok_some HTP.out (HS3.out.fin _ _ _ _).2 rfl
set_option maxRecDepth 100000 in
set_option maxHeartbeats 3200000 in
theorem tok_word120 (s : ByteArray) (w : World) (h1 : 1 ≤ s.size) (hs : s.size ≤ 1048576) (hw : LexW w) (hc : s[0].toNat = 120) (hp : ¬ (s.data.toList.drop 1).head? = some 39) :
    Calls Tryz.prog 52 #[.string s] w fun e w' => TokEnd s.data.toList w e w' := by
  have HW := Asd.mk hw
  clear hw
  have HLN : Asd (s.data.toList.length = s.size) := Asd.mk rfl
  have HL : Asd (s.data.toList = s[0] :: s.data.toList.drop 1) := Asd.mk (by have := drop_cons s 0 h1; simpa using this)
  have HXL : Asd ((s.extract 1 s.size).data.toList = s.data.toList.drop 1) := Asd.mk (by
    rw [ext_list, List.take_of_length_le (Nat.le_of_eq (show s.data.toList.length = s.size from rfl))])
  have hc8 := s[0].toNat_lt
  have HP : Asd (Lib.hasPrefix (s.data.toList.drop 1) [39] = false) := Asd.mk (by rw [pre1]; simpa using hp)
  have HNX : ¬ ((s[0] = 120 ∨ s[0] = 88) ∧ (s.data.toList.drop 1).head? = some 39) := fun h => hp h.2
  have HLC : isLet s[0] = true := by show letN s[0].toNat = true; rw [hc]; decide
  have HTP : Asd (tokP s.data.toList = some (⟨1, (s.data.toList.take (runP isWrd s.data.toList)).map lowB, 0⟩, runP isWrd s.data.toList)) := Asd.mk (by
    have h := tokP_word (c := s[0]) (r := s.data.toList.drop 1) HNX HLC
    rwa [← HL.out] at h)
  have HN : Asd (runP isWrd s.data.toList ≤ s.size) := Asd.mk (runP_le _ _)
  clear hp HNX HLC
  go_enter Tryz.func52, Tryz.ntmps52
  have HS := Asd.mk (TkSt.new w)
  go_upto_region 6 with fail
  generalize (w.alloc (.cells #[.int .i64 0, .string ⟨#[]⟩, .int .i64 0, .int .i64 0] 52)).alloc (.cells #[.int .i64 0, .string ⟨#[]⟩, .int .i64 0, .int .i64 0] 52) = W at HS ⊢
  have HWW := Asd.mk (HW.out.below HS.out.below)
  go_wp2_with fail
  refine (Tryz.strings_HasPrefix (s.extract 1 s.size) ⟨#[39]⟩ _).mono ?_
  rintro e w' ⟨rfl, rfl⟩
  rw [HXL.out, show (⟨#[39]⟩ : ByteArray).data.toList = [39] from rfl, HP.out]
  go_wp2_with fail
  refine (letter_calls 120 (by first | exact hc8 | decide) _).mono ?_
  rintro e w' ⟨rfl, rfl⟩
  rw [show letN 120 = true from by decide]
  go_wp2_with fail
  refine (run_word s _ hs).mono ?_
  rintro e w' ⟨rfl, rfl⟩
  generalize runP isWrd s.data.toList = n at HTP HN
  have hn := HN.out
  have HEL : Asd ((s.extract 0 n).data.toList = s.data.toList.take n) := Asd.mk (by rw [ext_list]; simp)
  have HES : Asd ((s.extract 0 n).size ≤ 1048576) := Asd.mk (by rw [ext_size]; omega)
  go_wp2_with fail
  refine (lowered_calls (s.extract 0 n) _ HES.out).mono ?_
  rintro e w1 ⟨rfl, hb1⟩
  rw [HEL.out]
  have HS2 := Asd.mk (HS.out.old hb1)
  clear hb1
  generalize (s.data.toList.take n).map lowB = t at HTP ⊢
  have b0 := (blk_cell HS2.out.box 0).trans rfl
  have zb0 := blk_frozen HS2.out.box 0
  have b1 := (blk_cell HS2.out.box 1).trans rfl
  have zb1 := blk_frozen HS2.out.box 1
  have HS3 := Asd.mk ((HS2.out.set 0 (.int .i64 1)).set 1 (.string ⟨t.toArray⟩))
  have y0 := (blk_cell HS3.out.box 0).trans rfl
  have y1 := (blk_cell HS3.out.box 1).trans rfl
  have y2 := (blk_cell HS3.out.box 2).trans rfl
  have y3 := (blk_cell HS3.out.box 3).trans rfl
  have r0 := (blk_cell HS3.out.res 0).trans rfl
  have zr0 := blk_frozen HS3.out.res 0
  have r1 := (blk_cell HS3.out.res 1).trans rfl
  have zr1 := blk_frozen HS3.out.res 1
  have r2 := (blk_cell HS3.out.res 2).trans rfl
  have zr2 := blk_frozen HS3.out.res 2
  have r3 := (blk_cell HS3.out.res 3).trans rfl
  have zr3 := blk_frozen HS3.out.res 3
  go_wp2
  refine bodyPost_ret (results_token rfl _ _ w.heap.size _ rfl (HS3.out.fin _ _ _ _).1 rfl) rfl ?_
  exact tok_some HTP.out (HS3.out.fin _ _ _ _).2 rfl
set_option maxRecDepth 100000 in
set_option maxHeartbeats 3200000 in
theorem tok_word88 (s : ByteArray) (w : World) (h1 : 1 ≤ s.size) (hs : s.size ≤ 1048576) (hw : LexW w) (hc : s[0].toNat = 88) (hp : ¬ (s.data.toList.drop 1).head? = some 39) :
    Calls Tryz.prog 52 #[.string s] w fun e w' => TokEnd s.data.toList w e w' := by
  have HW := Asd.mk hw
  clear hw
  have HLN : Asd (s.data.toList.length = s.size) := Asd.mk rfl
  have HL : Asd (s.data.toList = s[0] :: s.data.toList.drop 1) := Asd.mk (by have := drop_cons s 0 h1; simpa using this)
  have HXL : Asd ((s.extract 1 s.size).data.toList = s.data.toList.drop 1) := Asd.mk (by
    rw [ext_list, List.take_of_length_le (Nat.le_of_eq (show s.data.toList.length = s.size from rfl))])
  have hc8 := s[0].toNat_lt
  have HP : Asd (Lib.hasPrefix (s.data.toList.drop 1) [39] = false) := Asd.mk (by rw [pre1]; simpa using hp)
  have HNX : ¬ ((s[0] = 120 ∨ s[0] = 88) ∧ (s.data.toList.drop 1).head? = some 39) := fun h => hp h.2
  have HLC : isLet s[0] = true := by show letN s[0].toNat = true; rw [hc]; decide
  have HTP : Asd (tokP s.data.toList = some (⟨1, (s.data.toList.take (runP isWrd s.data.toList)).map lowB, 0⟩, runP isWrd s.data.toList)) := Asd.mk (by
    have h := tokP_word (c := s[0]) (r := s.data.toList.drop 1) HNX HLC
    rwa [← HL.out] at h)
  have HN : Asd (runP isWrd s.data.toList ≤ s.size) := Asd.mk (runP_le _ _)
  clear hp HNX HLC
  go_enter Tryz.func52, Tryz.ntmps52
  have HS := Asd.mk (TkSt.new w)
  go_upto_region 6 with fail
  generalize (w.alloc (.cells #[.int .i64 0, .string ⟨#[]⟩, .int .i64 0, .int .i64 0] 52)).alloc (.cells #[.int .i64 0, .string ⟨#[]⟩, .int .i64 0, .int .i64 0] 52) = W at HS ⊢
  have HWW := Asd.mk (HW.out.below HS.out.below)
  go_wp2_with fail
  refine (Tryz.strings_HasPrefix (s.extract 1 s.size) ⟨#[39]⟩ _).mono ?_
  rintro e w' ⟨rfl, rfl⟩
  rw [HXL.out, show (⟨#[39]⟩ : ByteArray).data.toList = [39] from rfl, HP.out]
  go_wp2_with fail
  refine (letter_calls 88 (by first | exact hc8 | decide) _).mono ?_
  rintro e w' ⟨rfl, rfl⟩
  rw [show letN 88 = true from by decide]
  go_wp2_with fail
  refine (run_word s _ hs).mono ?_
  rintro e w' ⟨rfl, rfl⟩
  generalize runP isWrd s.data.toList = n at HTP HN
  have hn := HN.out
  have HEL : Asd ((s.extract 0 n).data.toList = s.data.toList.take n) := Asd.mk (by rw [ext_list]; simp)
  have HES : Asd ((s.extract 0 n).size ≤ 1048576) := Asd.mk (by rw [ext_size]; omega)
  go_wp2_with fail
  refine (lowered_calls (s.extract 0 n) _ HES.out).mono ?_
  rintro e w1 ⟨rfl, hb1⟩
  rw [HEL.out]
  have HS2 := Asd.mk (HS.out.old hb1)
  clear hb1
  generalize (s.data.toList.take n).map lowB = t at HTP ⊢
  have b0 := (blk_cell HS2.out.box 0).trans rfl
  have zb0 := blk_frozen HS2.out.box 0
  have b1 := (blk_cell HS2.out.box 1).trans rfl
  have zb1 := blk_frozen HS2.out.box 1
  have HS3 := Asd.mk ((HS2.out.set 0 (.int .i64 1)).set 1 (.string ⟨t.toArray⟩))
  have y0 := (blk_cell HS3.out.box 0).trans rfl
  have y1 := (blk_cell HS3.out.box 1).trans rfl
  have y2 := (blk_cell HS3.out.box 2).trans rfl
  have y3 := (blk_cell HS3.out.box 3).trans rfl
  have r0 := (blk_cell HS3.out.res 0).trans rfl
  have zr0 := blk_frozen HS3.out.res 0
  have r1 := (blk_cell HS3.out.res 1).trans rfl
  have zr1 := blk_frozen HS3.out.res 1
  have r2 := (blk_cell HS3.out.res 2).trans rfl
  have zr2 := blk_frozen HS3.out.res 2
  have r3 := (blk_cell HS3.out.res 3).trans rfl
  have zr3 := blk_frozen HS3.out.res 3
  go_wp2
  refine bodyPost_ret (results_token rfl _ _ w.heap.size _ rfl (HS3.out.fin _ _ _ _).1 rfl) rfl ?_
  exact tok_some HTP.out (HS3.out.fin _ _ _ _).2 rfl
set_option maxRecDepth 100000 in
set_option maxHeartbeats 3200000 in
theorem tok_word (s : ByteArray) (w : World) (h1 : 1 ≤ s.size) (hs : s.size ≤ 1048576) (hw : LexW w) (hx : ¬ s[0].toNat = 120) (hX : ¬ s[0].toNat = 88) (hl : letN s[0].toNat = true) :
    Calls Tryz.prog 52 #[.string s] w fun e w' => TokEnd s.data.toList w e w' := by
  have HW := Asd.mk hw
  clear hw
  have HLN : Asd (s.data.toList.length = s.size) := Asd.mk rfl
  have HL : Asd (s.data.toList = s[0] :: s.data.toList.drop 1) := Asd.mk (by have := drop_cons s 0 h1; simpa using this)
  have HXL : Asd ((s.extract 1 s.size).data.toList = s.data.toList.drop 1) := Asd.mk (by
    rw [ext_list, List.take_of_length_le (Nat.le_of_eq (show s.data.toList.length = s.size from rfl))])
  have hc8 := s[0].toNat_lt
  have HNX : ¬ ((s[0] = 120 ∨ s[0] = 88) ∧ (s.data.toList.drop 1).head? = some 39) := fun h => by
    rcases h.1 with h | h
    · exact hx (by rw [h]; rfl)
    · exact hX (by rw [h]; rfl)
  have HLC : isLet s[0] = true := hl
  have HTP : Asd (tokP s.data.toList = some (⟨1, (s.data.toList.take (runP isWrd s.data.toList)).map lowB, 0⟩, runP isWrd s.data.toList)) := Asd.mk (by
    have h := tokP_word (c := s[0]) (r := s.data.toList.drop 1) HNX HLC
    rwa [← HL.out] at h)
  have HN : Asd (runP isWrd s.data.toList ≤ s.size) := Asd.mk (runP_le _ _)
  have HLE := Asd.mk hl
  clear HNX HLC hl
  go_enter Tryz.func52, Tryz.ntmps52
  have HS := Asd.mk (TkSt.new w)
  go_upto_region 6 with fail
  generalize (w.alloc (.cells #[.int .i64 0, .string ⟨#[]⟩, .int .i64 0, .int .i64 0] 52)).alloc (.cells #[.int .i64 0, .string ⟨#[]⟩, .int .i64 0, .int .i64 0] 52) = W at HS ⊢
  have HWW := Asd.mk (HW.out.below HS.out.below)
  go_wp2_with fail
  refine (letter_calls s[0].toNat (by first | exact hc8 | decide) _).mono ?_
  rintro e w' ⟨rfl, rfl⟩
  rw [show letN s[0].toNat = true from HLE.out]
  go_wp2_with fail
  refine (run_word s _ hs).mono ?_
  rintro e w' ⟨rfl, rfl⟩
  generalize runP isWrd s.data.toList = n at HTP HN
  have hn := HN.out
  have HEL : Asd ((s.extract 0 n).data.toList = s.data.toList.take n) := Asd.mk (by rw [ext_list]; simp)
  have HES : Asd ((s.extract 0 n).size ≤ 1048576) := Asd.mk (by rw [ext_size]; omega)
  go_wp2_with fail
  refine (lowered_calls (s.extract 0 n) _ HES.out).mono ?_
  rintro e w1 ⟨rfl, hb1⟩
  rw [HEL.out]
  have HS2 := Asd.mk (HS.out.old hb1)
  clear hb1
  generalize (s.data.toList.take n).map lowB = t at HTP ⊢
  have b0 := (blk_cell HS2.out.box 0).trans rfl
  have zb0 := blk_frozen HS2.out.box 0
  have b1 := (blk_cell HS2.out.box 1).trans rfl
  have zb1 := blk_frozen HS2.out.box 1
  have HS3 := Asd.mk ((HS2.out.set 0 (.int .i64 1)).set 1 (.string ⟨t.toArray⟩))
  have y0 := (blk_cell HS3.out.box 0).trans rfl
  have y1 := (blk_cell HS3.out.box 1).trans rfl
  have y2 := (blk_cell HS3.out.box 2).trans rfl
  have y3 := (blk_cell HS3.out.box 3).trans rfl
  have r0 := (blk_cell HS3.out.res 0).trans rfl
  have zr0 := blk_frozen HS3.out.res 0
  have r1 := (blk_cell HS3.out.res 1).trans rfl
  have zr1 := blk_frozen HS3.out.res 1
  have r2 := (blk_cell HS3.out.res 2).trans rfl
  have zr2 := blk_frozen HS3.out.res 2
  have r3 := (blk_cell HS3.out.res 3).trans rfl
  have zr3 := blk_frozen HS3.out.res 3
  go_wp2
  refine bodyPost_ret (results_token rfl _ _ w.heap.size _ rfl (HS3.out.fin _ _ _ _).1 rfl) rfl ?_
  exact tok_some HTP.out (HS3.out.fin _ _ _ _).2 rfl
set_option maxRecDepth 100000 in
set_option maxHeartbeats 3200000 in
theorem tok_sym (s : ByteArray) (w : World) (h1 : 1 ≤ s.size) (hs : s.size ≤ 1048576) (hw : LexW w) (hx : ¬ s[0].toNat = 120) (hX : ¬ s[0].toNat = 88) (hl : letN s[0].toNat = false) (hd : digN s[0].toNat = false) (hq : ¬ s[0].toNat = 39) :
    Calls Tryz.prog 52 #[.string s] w fun e w' => TokEnd s.data.toList w e w' := by
  have HW := Asd.mk hw
  clear hw
  have HLN : Asd (s.data.toList.length = s.size) := Asd.mk rfl
  have HL : Asd (s.data.toList = s[0] :: s.data.toList.drop 1) := Asd.mk (by have := drop_cons s 0 h1; simpa using this)
  have HXL : Asd ((s.extract 1 s.size).data.toList = s.data.toList.drop 1) := Asd.mk (by
    rw [ext_list, List.take_of_length_le (Nat.le_of_eq (show s.data.toList.length = s.size from rfl))])
  have hc8 := s[0].toNat_lt
  have HNX : ¬ ((s[0] = 120 ∨ s[0] = 88) ∧ (s.data.toList.drop 1).head? = some 39) := fun h => by
    rcases h.1 with h | h
    · exact hx (by rw [h]; rfl)
    · exact hX (by rw [h]; rfl)
  have HTP : Asd (tokP s.data.toList = if symP s.data.toList = 0 then none else some (⟨5, s.data.toList.take (symP s.data.toList), 0⟩, symP s.data.toList)) := Asd.mk (by
    have h := tokP_sym (c := s[0]) (r := s.data.toList.drop 1) HNX hl hd (fun h => hq (by rw [h]; rfl))
    rwa [← HL.out] at h)
  have HN : Asd (symP s.data.toList ≤ s.size) := Asd.mk (symP_le _)
  have HLE := Asd.mk hl
  have HDI := Asd.mk hd
  clear HNX hl hd
  go_enter Tryz.func52, Tryz.ntmps52
  have HS := Asd.mk (TkSt.new w)
  go_upto_region 6 with fail
  generalize (w.alloc (.cells #[.int .i64 0, .string ⟨#[]⟩, .int .i64 0, .int .i64 0] 52)).alloc (.cells #[.int .i64 0, .string ⟨#[]⟩, .int .i64 0, .int .i64 0] 52) = W at HS ⊢
  have HWW := Asd.mk (HW.out.below HS.out.below)
  go_wp2_with fail
  refine (letter_calls s[0].toNat (by first | exact hc8 | decide) _).mono ?_
  rintro e w' ⟨rfl, rfl⟩
  rw [show letN s[0].toNat = false from HLE.out]
  go_wp2_with fail
  refine (digit_calls s[0].toNat (by first | exact hc8 | decide) _).mono ?_
  rintro e w' ⟨rfl, rfl⟩
  rw [show digN s[0].toNat = false from HDI.out]
  go_wp2_with fail
  refine (symbol_calls s _ h1 hs).mono ?_
  rintro e w' ⟨rfl, rfl⟩
  generalize symP s.data.toList = n at HTP HN
  have hn := HN.out
  have HEL : Asd ((s.extract 0 n).data.toList = s.data.toList.take n) := Asd.mk (by rw [ext_list]; simp)
  have b0 := (blk_cell HS.out.box 0).trans rfl
  have zb0 := blk_frozen HS.out.box 0
  have b1 := (blk_cell HS.out.box 1).trans rfl
  have zb1 := blk_frozen HS.out.box 1
  go_upto_region 5 with fail
  go_region
  have HS3 := Asd.mk ((HS.out.set 0 (.int .i64 5)).set 1 (.string (s.extract 0 n))).drew
  generalize ((w'.setCell ⟨w.heap.size + 1, 0, none⟩ (.int .i64 5)).setCell ⟨w.heap.size + 1, 1, none⟩ (.string (s.extract 0 n))).drew = W3 at HS3 ⊢
  have y0 := (blk_cell HS3.out.box 0).trans rfl
  have y1 := (blk_cell HS3.out.box 1).trans rfl
  have y2 := (blk_cell HS3.out.box 2).trans rfl
  have y3 := (blk_cell HS3.out.box 3).trans rfl
  have r0 := (blk_cell HS3.out.res 0).trans rfl
  have zr0 := blk_frozen HS3.out.res 0
  have r1 := (blk_cell HS3.out.res 1).trans rfl
  have zr1 := blk_frozen HS3.out.res 1
  have r2 := (blk_cell HS3.out.res 2).trans rfl
  have zr2 := blk_frozen HS3.out.res 2
  have r3 := (blk_cell HS3.out.res 3).trans rfl
  have zr3 := blk_frozen HS3.out.res 3
  by_cases h0 : n = 0
  · subst h0
    have HTN := Asd.mk (HTP.out.trans (if_pos rfl))
    clear HTP hn
    go_wp2
    refine bodyPost_ret (results_token rfl _ _ w.heap.size _ rfl (HS3.out.fin _ _ _ _).1 rfl) rfl ?_
    exact tok_none HTN.out (HS3.out.fin _ _ _ _).2 5 _ 0 rfl
  · have HTN := Asd.mk (HTP.out.trans (if_neg h0))
    have HEX : Asd (s.extract 0 n = ⟨(s.data.toList.take n).toArray⟩) := Asd.mk (by rw [← HEL.out])
    rw [HEX.out] at y1
    go_wp2
    refine bodyPost_ret (results_token rfl _ _ w.heap.size _ rfl (HS3.out.fin _ _ _ _).1 rfl) rfl ?_
    exact tok_some HTN.out (HS3.out.fin _ _ _ _).2 rfl
set_option maxRecDepth 100000 in
set_option maxHeartbeats 3200000 in
theorem tok_text (s : ByteArray) (w : World) (h1 : 1 ≤ s.size) (hs : s.size ≤ 1048576) (hw : LexW w) (hc : s[0].toNat = 39) :
    Calls Tryz.prog 52 #[.string s] w fun e w' => TokEnd s.data.toList w e w' := by
  have HW := Asd.mk hw
  clear hw
  have HLN : Asd (s.data.toList.length = s.size) := Asd.mk rfl
  have HL : Asd (s.data.toList = s[0] :: s.data.toList.drop 1) := Asd.mk (by have := drop_cons s 0 h1; simpa using this)
  have HXL : Asd ((s.extract 1 s.size).data.toList = s.data.toList.drop 1) := Asd.mk (by
    rw [ext_list, List.take_of_length_le (Nat.le_of_eq (show s.data.toList.length = s.size from rfl))])
  have hc8 := s[0].toNat_lt
  have HC := Asd.mk (show s[0] = 39 from UInt8.toNat_inj.mp hc)
  have HTP : Asd (tokP s.data.toList = (textP (s.data.toList.drop 1)).map fun x => (⟨3, x.1, 0⟩, x.2 + 1)) := Asd.mk (by
    have h := tokP_text (r := s.data.toList.drop 1)
    have h2 := HL.out
    rw [HC.out] at h2
    rwa [← h2] at h)
  go_enter Tryz.func52, Tryz.ntmps52
  have HS := Asd.mk (TkSt.new w)
  go_upto_region 6 with fail
  generalize (w.alloc (.cells #[.int .i64 0, .string ⟨#[]⟩, .int .i64 0, .int .i64 0] 52)).alloc (.cells #[.int .i64 0, .string ⟨#[]⟩, .int .i64 0, .int .i64 0] 52) = W at HS ⊢
  have HWW := Asd.mk (HW.out.below HS.out.below)
  go_wp2_with fail
  refine (letter_calls 39 (by first | exact hc8 | decide) _).mono ?_
  rintro e w' ⟨rfl, rfl⟩
  rw [show letN 39 = false from by decide]
  go_wp2_with fail
  refine (digit_calls 39 (by first | exact hc8 | decide) _).mono ?_
  rintro e w' ⟨rfl, rfl⟩
  rw [show digN 39 = false from by decide]
  have a0 := (blk_cell HS.out.box 0).trans rfl
  have za0 := blk_frozen HS.out.box 0
  have HS1 := Asd.mk (HS.out.set 0 (.int .i64 3))
  go_wp2_with fail
  refine (text_calls s _ h1 hs).mono ?_
  rintro e w1 ⟨rfl, hb1⟩
  have HS2 := Asd.mk (HS1.out.old hb1)
  clear hb1
  have b1 := (blk_cell HS2.out.box 1).trans rfl
  have zb1 := blk_frozen HS2.out.box 1
  cases htp : textP (s.data.toList.drop 1) with
  | none =>
    rw [textO_none htp]
    rw [htp] at HTP
    clear htp
    have HS3 := Asd.mk (HS2.out.set 1 (.string ⟨([] : List UInt8).toArray⟩))
    have y0 := (blk_cell HS3.out.box 0).trans rfl
    have y1 := (blk_cell HS3.out.box 1).trans rfl
    have y2 := (blk_cell HS3.out.box 2).trans rfl
    have y3 := (blk_cell HS3.out.box 3).trans rfl
    have r0 := (blk_cell HS3.out.res 0).trans rfl
    have zr0 := blk_frozen HS3.out.res 0
    have r1 := (blk_cell HS3.out.res 1).trans rfl
    have zr1 := blk_frozen HS3.out.res 1
    have r2 := (blk_cell HS3.out.res 2).trans rfl
    have zr2 := blk_frozen HS3.out.res 2
    have r3 := (blk_cell HS3.out.res 3).trans rfl
    have zr3 := blk_frozen HS3.out.res 3
    go_wp2
    refine bodyPost_ret (results_token rfl _ _ w.heap.size _ rfl (HS3.out.fin _ _ _ _).1 rfl) rfl ?_
    exact tok_none HTP.out (HS3.out.fin _ _ _ _).2 3 ⟨#[]⟩ 0 rfl
  | some x =>
    rw [textO_some htp]
    rw [htp] at HTP
    clear htp
    obtain ⟨t, n⟩ := x
    have HS3 := Asd.mk (HS2.out.set 1 (.string ⟨t.toArray⟩))
    have y0 := (blk_cell HS3.out.box 0).trans rfl
    have y1 := (blk_cell HS3.out.box 1).trans rfl
    have y2 := (blk_cell HS3.out.box 2).trans rfl
    have y3 := (blk_cell HS3.out.box 3).trans rfl
    have r0 := (blk_cell HS3.out.res 0).trans rfl
    have zr0 := blk_frozen HS3.out.res 0
    have r1 := (blk_cell HS3.out.res 1).trans rfl
    have zr1 := blk_frozen HS3.out.res 1
    have r2 := (blk_cell HS3.out.res 2).trans rfl
    have zr2 := blk_frozen HS3.out.res 2
    have r3 := (blk_cell HS3.out.res 3).trans rfl
    have zr3 := blk_frozen HS3.out.res 3
    go_wp2
    refine bodyPost_ret (results_token rfl _ _ w.heap.size _ rfl (HS3.out.fin _ _ _ _).1 rfl) rfl ?_
    exact tok_some HTP.out (HS3.out.fin _ _ _ _).2 rfl
set_option maxRecDepth 100000 in
set_option maxHeartbeats 3200000 in
theorem tok_num (s : ByteArray) (w : World) (h1 : 1 ≤ s.size) (hs : s.size ≤ 1048576) (hw : LexW w) (hx : ¬ s[0].toNat = 120) (hX : ¬ s[0].toNat = 88) (hl : letN s[0].toNat = false) (hd : digN s[0].toNat = true) :
    Calls Tryz.prog 52 #[.string s] w fun e w' => TokEnd s.data.toList w e w' := by
  have HW := Asd.mk hw
  clear hw
  have HLN : Asd (s.data.toList.length = s.size) := Asd.mk rfl
  have HL : Asd (s.data.toList = s[0] :: s.data.toList.drop 1) := Asd.mk (by have := drop_cons s 0 h1; simpa using this)
  have HXL : Asd ((s.extract 1 s.size).data.toList = s.data.toList.drop 1) := Asd.mk (by
    rw [ext_list, List.take_of_length_le (Nat.le_of_eq (show s.data.toList.length = s.size from rfl))])
  have hc8 := s[0].toNat_lt
  have HNX : ¬ ((s[0] = 120 ∨ s[0] = 88) ∧ (s.data.toList.drop 1).head? = some 39) := fun h => by
    rcases h.1 with h | h
    · exact hx (by rw [h]; rfl)
    · exact hX (by rw [h]; rfl)
  have HTP : Asd (tokP s.data.toList = (numP (s.data.toList.take (runP isDig s.data.toList))).map fun v => (⟨2, [], v⟩, runP isDig s.data.toList)) := Asd.mk (by
    have h := tokP_num (c := s[0]) (r := s.data.toList.drop 1) HNX hl hd
    rwa [← HL.out] at h)
  have HN : Asd (runP isDig s.data.toList ≤ s.size) := Asd.mk (runP_le _ _)
  have HNP : Asd (s.data.toList.take (runP isDig s.data.toList) ≠ []) := Asd.mk (by
    have h := run_pos isDig (c := s[0]) (r := s.data.toList.drop 1) hd
    rw [← HL.out] at h
    intro h2
    have h3 := congrArg List.length h2
    rw [List.length_take, HLN.out] at h3
    simp only [List.length_nil] at h3
    omega)
  have HAL := Asd.mk (run_all isDig s.data.toList)
  have HLE := Asd.mk hl
  have HDI := Asd.mk hd
  clear HNX hl hd
  go_enter Tryz.func52, Tryz.ntmps52
  have HS := Asd.mk (TkSt.new w)
  go_upto_region 6 with fail
  generalize (w.alloc (.cells #[.int .i64 0, .string ⟨#[]⟩, .int .i64 0, .int .i64 0] 52)).alloc (.cells #[.int .i64 0, .string ⟨#[]⟩, .int .i64 0, .int .i64 0] 52) = W at HS ⊢
  have HWW := Asd.mk (HW.out.below HS.out.below)
  go_wp2_with fail
  refine (letter_calls s[0].toNat (by first | exact hc8 | decide) _).mono ?_
  rintro e w' ⟨rfl, rfl⟩
  rw [show letN s[0].toNat = false from HLE.out]
  go_wp2_with fail
  refine (digit_calls s[0].toNat (by first | exact hc8 | decide) _).mono ?_
  rintro e w' ⟨rfl, rfl⟩
  rw [show digN s[0].toNat = true from HDI.out]
  go_wp2_with fail
  refine (run_digit s _ hs).mono ?_
  rintro e w' ⟨rfl, rfl⟩
  generalize runP isDig s.data.toList = n at HTP HN HNP HAL
  have hn := HN.out
  have HEL : Asd ((s.extract 0 n).data.toList = s.data.toList.take n) := Asd.mk (by rw [ext_list]; simp)
  have HES : Asd ((s.extract 0 n).size ≤ 1048576) := Asd.mk (by rw [ext_size]; omega)
  go_wp2_with fail
  rcases num_dig HNP.out HAL.out with ⟨v, hv⟩ | hv
  · refine (Tryz.strconv_ParseInt_10_at64_ok (s.extract 0 n) (by have := HES.out; omega) v (by rw [HEL.out]; exact hv) _).mono ?_
    rintro e w1 ⟨rfl, hh⟩
    have hb1 : Below w'.heap.size w' w1 := by
      rcases hh with rfl | ⟨t, rfl⟩
      · exact Below.refl _ _
      · exact below_bytes w' t
    have HS2 := Asd.mk (HS.out.old hb1)
    have HTN : Asd (tokP s.data.toList = some (⟨2, [], v⟩, n)) := Asd.mk (by rw [HTP.out, numP, hv]; rfl)
    clear hb1 hh hv HTP
    have b0 := (blk_cell HS2.out.box 0).trans rfl
    have zb0 := blk_frozen HS2.out.box 0
    have b3 := (blk_cell HS2.out.box 3).trans rfl
    have zb3 := blk_frozen HS2.out.box 3
    have HS3 := Asd.mk ((HS2.out.set 0 (.int .i64 2)).set 3 (.int .i64 v))
    have y0 := (blk_cell HS3.out.box 0).trans rfl
    have y1 := (blk_cell HS3.out.box 1).trans rfl
    have y2 := (blk_cell HS3.out.box 2).trans rfl
    have y3 := (blk_cell HS3.out.box 3).trans rfl
    have r0 := (blk_cell HS3.out.res 0).trans rfl
    have zr0 := blk_frozen HS3.out.res 0
    have r1 := (blk_cell HS3.out.res 1).trans rfl
    have zr1 := blk_frozen HS3.out.res 1
    have r2 := (blk_cell HS3.out.res 2).trans rfl
    have zr2 := blk_frozen HS3.out.res 2
    have r3 := (blk_cell HS3.out.res 3).trans rfl
    have zr3 := blk_frozen HS3.out.res 3
    go_wp2
    refine bodyPost_ret (results_token rfl _ _ w.heap.size _ rfl (HS3.out.fin _ _ _ _).1 rfl) rfl ?_
    exact tok_some HTN.out (HS3.out.fin _ _ _ _).2 rfl
  · obtain ⟨tt, pp, hev⟩ := HWW.out.rng
    refine (Tryz.strconv_ParseInt_10_at64_range (s.extract 0 n) (by have := HES.out; omega) (by rw [HEL.out]; exact hv) (.iface tt pp) _ hev (.inr ⟨tt, pp, rfl⟩)).mono ?_
    rintro e w1 ⟨N, rfl, _, _, hb1⟩
    have HS3 := Asd.mk (HS.out.old hb1)
    have HTN : Asd (tokP s.data.toList = none) := Asd.mk (by rw [HTP.out, numP, hv]; rfl)
    clear hb1 hv HTP hev
    have y0 := (blk_cell HS3.out.box 0).trans rfl
    have y1 := (blk_cell HS3.out.box 1).trans rfl
    have y2 := (blk_cell HS3.out.box 2).trans rfl
    have y3 := (blk_cell HS3.out.box 3).trans rfl
    have r0 := (blk_cell HS3.out.res 0).trans rfl
    have zr0 := blk_frozen HS3.out.res 0
    have r1 := (blk_cell HS3.out.res 1).trans rfl
    have zr1 := blk_frozen HS3.out.res 1
    have r2 := (blk_cell HS3.out.res 2).trans rfl
    have zr2 := blk_frozen HS3.out.res 2
    have r3 := (blk_cell HS3.out.res 3).trans rfl
    have zr3 := blk_frozen HS3.out.res 3
    go_wp2
    refine bodyPost_ret (results_token rfl _ _ w.heap.size _ rfl (HS3.out.fin _ _ _ _).1 rfl) rfl ?_
    exact tok_none HTN.out (HS3.out.fin _ _ _ _).2 0 ⟨#[]⟩ 0 rfl

theorem token_calls (s : ByteArray) (w : World) (h1 : 1 ≤ s.size) (hs : s.size ≤ 1048576) (hw : LexW w) :
    Calls Tryz.prog 52 #[.string s] w fun e w' => TokEnd s.data.toList w e w' := by
  by_cases hx : s[0].toNat = 120
  · by_cases hp : (s.data.toList.drop 1).head? = some 39
    · exact tok_blob120 s w h1 hs hw hx hp
    · exact tok_word120 s w h1 hs hw hx hp
  · by_cases hX : s[0].toNat = 88
    · by_cases hp : (s.data.toList.drop 1).head? = some 39
      · exact tok_blob88 s w h1 hs hw hX hp
      · exact tok_word88 s w h1 hs hw hX hp
    · cases hl : letN s[0].toNat with
      | true => exact tok_word s w h1 hs hw hx hX hl
      | false =>
        cases hd : digN s[0].toNat with
        | true => exact tok_num s w h1 hs hw hx hX hl hd
        | false =>
          by_cases hq : s[0].toNat = 39
          · exact tok_text s w h1 hs hw hq
          · exact tok_sym s w h1 hs hw hx hX hl hd hq
end Go.Proofs.YtcefmhofidoloaaGreatDoor.Lex
