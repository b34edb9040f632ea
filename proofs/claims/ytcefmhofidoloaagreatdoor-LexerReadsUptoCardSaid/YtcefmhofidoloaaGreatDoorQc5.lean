/- Texts put together: Rwb, Rwc, Rwd, Rwe, Rwf, Rwg, Rwh, Rwi, Reads12. -/
import Derived.Test.YtcefmhofidoloaaGreatDoorQc4
import Derived.Test.YtcefmhofidoloaaGreatDoorPsamex2
/- quarryref12.one: the walk, by hand: words from X. -/
set_option linter.unusedVariables false
set_option linter.unusedSimpArgs false
namespace Go.Proofs.YtcefmhofidoloaaGreatDoor.Lex
open Go.RowKit Go.Proofs.YtcefmhofidoloaaGreatDoor.Base Go.Proofs.YtcefmhofidoloaaGreatDoor.App Go.Proofs.YtcefmhofidoloaaGreatDoor.Byt

set_option maxRecDepth 100000 in
set_option maxHeartbeats 6400000 in
theorem rone_word3 (s : ByteArray) (i : Nat) (hi : i < s.size) (hs : s.size ≤ 16384) (w : World) (hx : s[i].toNat = 88) (hp : ¬ i + 1 < s.size) (hl : isLet s[i] = true) :
    Calls Tryz.prog 53 #[.string s, .int .i64 (i : Int)] w fun e w' => OneE s i w e w' := by
  have HLN : Asd (s.data.toList.length = s.size) := Asd.mk rfl
  have HL := Asd.mk (drop_cons s i hi)
  have hc8 := s[i].toNat_lt
  have HNX : Asd (¬ ((s[i] = 120 ∨ s[i] = 88) ∧ (s.data.toList.drop (i + 1)).head? = some 39)) := Asd.mk (fun h => by rw [List.drop_of_length_le (by rw [HLN.out]; omega)] at h; simp at h)
  have HTP : Asd (tokP (s.data.toList.drop i) = some (⟨1, ((s.data.toList.drop i).take (runP isWrd (s.data.toList.drop i))).map lowB, 0⟩, runP isWrd (s.data.toList.drop i))) := Asd.mk (by
    have h := tokP_word HNX.out hl
    rwa [← HL.out] at h)
  have HLE := Asd.mk hl
  clear hl HNX
  have HLC : Asd (∀ W, Calls Tryz.prog 116 #[.int .u8 88] W fun e w' => e = .returned (.bool true) ∧ Below W.heap.size W w') := Asd.mk (fun W => rletter_calls 88 W)
  go_enter Tryz.func53, Tryz.ntmps53
  have HS := Asd.mk (TkSt.newAt w i)
  go_upto_region 4 with fail
  generalize (w.alloc (.cells #[.int .i64 0, .string ⟨#[]⟩, .int .i64 0, .int .i64 0] 52)).alloc (.cells #[.int .i64 0, .string ⟨#[]⟩, .int .i64 (i : Int), .int .i64 0] 52) = W at HS ⊢
  go_wp2_with fail
  refine (HLC.out _).mono ?_
  rintro e w1 ⟨rfl, hb1⟩
  have HSL := Asd.mk (HS.out.old hb1)
  clear hb1
  go_wp2
  go_loopw [9] (fun v wr => ∃ k : Nat, k ≤ s.size ∧ v = .int .i64 (k : Int) ∧ Asd (i ≤ k) ∧ Asd (runP isWrd (s.data.toList.drop i) = k - i + runP isWrd (s.data.toList.drop k)) ∧ Asd (TkSt w wr #[.int .i64 0, .string ⟨#[]⟩, .int .i64 (i : Int), .int .i64 0])) (fun v _ => s.size - (intOf v).toNat)
  case atStart => exact ⟨i, by omega, rfl, ⟨Nat.le_refl _⟩, ⟨by simp⟩, HSL⟩
  case round =>
    obtain ⟨k, hk, rfl, HIK, HR, HSR⟩ := hrel
    by_cases hlt : k < s.size
    · have HD := Asd.mk (drop_cons s k hlt)
      have hk8 := s[k].toNat_lt
      cases hp : isLet s[k] with
      | true =>
        have HR2 : Asd (runP isWrd (s.data.toList.drop i) = k + 1 - i + runP isWrd (s.data.toList.drop (k + 1))) := Asd.mk (by
          have := HIK.out
          rw [HR.out, HD.out, runP, if_pos (by unfold isWrd; rw [hp]; rfl)]; omega)
        have HP := Asd.mk hp
        clear hp
        go_wp2_with fail
        refine (rletter_calls s[k] _).mono ?_
        rintro e w2 ⟨rfl, hb1⟩
        rw [HP.out]
        have HSR2 := Asd.mk (HSR.out.old hb1)
        clear hb1
        go_wp2
        go_roundw
        case rel => exact ⟨k + 1, by omega, by go_num, ⟨by have := HIK.out; omega⟩, HR2, HSR2⟩
        case measure => simp [intOf]; omega
      | false =>
        have HP := Asd.mk hp
        cases hd : isDig s[k] with
        | true =>
          have HR2 : Asd (runP isWrd (s.data.toList.drop i) = k + 1 - i + runP isWrd (s.data.toList.drop (k + 1))) := Asd.mk (by
            have := HIK.out
            rw [HR.out, HD.out, runP, if_pos (by unfold isWrd; rw [hp, hd]; rfl)]; omega)
          have HDG := Asd.mk hd
          clear hp hd
          go_wp2_with fail
          refine (rletter_calls s[k] _).mono ?_
          rintro e w2 ⟨rfl, hb1⟩
          rw [HP.out]
          have HSR2 := Asd.mk (HSR.out.old hb1)
          clear hb1
          go_wp2_with fail
          refine (rdigit_calls s[k] _).mono ?_
          rintro e w3 ⟨rfl, hb1⟩
          rw [HDG.out]
          have HSR3 := Asd.mk (HSR2.out.old hb1)
          clear hb1
          go_wp2
          go_roundw
          case rel => exact ⟨k + 1, by omega, by go_num, ⟨by have := HIK.out; omega⟩, HR2, HSR3⟩
          case measure => simp [intOf]; omega
        | false =>
          have HR0 : Asd (runP isWrd (s.data.toList.drop i) = k - i) := Asd.mk (by rw [HR.out, HD.out, runP, if_neg (by unfold isWrd; rw [hp, hd]; decide)]; rfl)
          have HDG := Asd.mk hd
          clear hp hd
          go_wp2_with fail
          refine (rletter_calls s[k] _).mono ?_
          rintro e w2 ⟨rfl, hb1⟩
          rw [HP.out]
          have HSR2 := Asd.mk (HSR.out.old hb1)
          clear hb1
          go_wp2_with fail
          refine (rdigit_calls s[k] _).mono ?_
          rintro e w3 ⟨rfl, hb1⟩
          rw [HDG.out]
          have HSR3 := Asd.mk (HSR2.out.old hb1)
          clear hb1
          rw [HR0.out] at HTP
          have hik := HIK.out
          have HEL : Asd ((s.extract i k).data.toList = (s.data.toList.drop i).take (k - i)) := Asd.mk (by rw [ext_list, List.drop_take])
          have HES : Asd ((s.extract i k).size ≤ 16384) := Asd.mk (by rw [ext_size]; omega)
          have b0 := (blk_cell HSR3.out.box 0).trans rfl
          have zb0 := blk_frozen HSR3.out.box 0
          have HSa := Asd.mk (HSR3.out.set 0 (.int .i64 1))
          go_wp2_with fail
          refine (rsmall_calls (s.extract i k) HES.out _).mono ?_
          rintro e w6 ⟨rfl, hb6⟩
          have HSb := Asd.mk (HSa.out.old hb6)
          clear hb6 b0 zb0
          rw [HEL.out]
          generalize ((s.data.toList.drop i).take (k - i)).map lowB = t at HTP ⊢
          have b1 := (blk_cell HSb.out.box 1).trans rfl
          have zb1 := blk_frozen HSb.out.box 1
          have HSc := Asd.mk (HSb.out.set 1 (.string ⟨t.toArray⟩))
          have y0 := (blk_cell HSc.out.box 0).trans rfl
          have y1 := (blk_cell HSc.out.box 1).trans rfl
          have y2 := (blk_cell HSc.out.box 2).trans rfl
          have y3 := (blk_cell HSc.out.box 3).trans rfl
          have r0 := (blk_cell HSc.out.res 0).trans rfl
          have zr0 := blk_frozen HSc.out.res 0
          have r1 := (blk_cell HSc.out.res 1).trans rfl
          have zr1 := blk_frozen HSc.out.res 1
          have r2 := (blk_cell HSc.out.res 2).trans rfl
          have zr2 := blk_frozen HSc.out.res 2
          have r3 := (blk_cell HSc.out.res 3).trans rfl
          have zr3 := blk_frozen HSc.out.res 3
          go_wp2
          refine bodyPost_ret (results_token3 rfl _ _ w.heap.size _ rfl (HSc.out.fin _ _ _ _).1 rfl) rfl ?_
          exact one_some HTP.out (HSc.out.fin _ _ _ _).2 (by rw [show i + (k - i) = k by omega]; rfl)
    · have HR0 : Asd (runP isWrd (s.data.toList.drop i) = k - i) := Asd.mk (by rw [HR.out, List.drop_of_length_le (by rw [HLN.out]; omega)]; rfl)
      rw [HR0.out] at HTP
      have hik := HIK.out
      have HEL : Asd ((s.extract i k).data.toList = (s.data.toList.drop i).take (k - i)) := Asd.mk (by rw [ext_list, List.drop_take])
      have HES : Asd ((s.extract i k).size ≤ 16384) := Asd.mk (by rw [ext_size]; omega)
      have b0 := (blk_cell HSR.out.box 0).trans rfl
      have zb0 := blk_frozen HSR.out.box 0
      have HSa := Asd.mk (HSR.out.set 0 (.int .i64 1))
      go_wp2_with fail
      refine (rsmall_calls (s.extract i k) HES.out _).mono ?_
      rintro e w6 ⟨rfl, hb6⟩
      have HSb := Asd.mk (HSa.out.old hb6)
      clear hb6 b0 zb0
      rw [HEL.out]
      generalize ((s.data.toList.drop i).take (k - i)).map lowB = t at HTP ⊢
      have b1 := (blk_cell HSb.out.box 1).trans rfl
      have zb1 := blk_frozen HSb.out.box 1
      have HSc := Asd.mk (HSb.out.set 1 (.string ⟨t.toArray⟩))
      have y0 := (blk_cell HSc.out.box 0).trans rfl
      have y1 := (blk_cell HSc.out.box 1).trans rfl
      have y2 := (blk_cell HSc.out.box 2).trans rfl
      have y3 := (blk_cell HSc.out.box 3).trans rfl
      have r0 := (blk_cell HSc.out.res 0).trans rfl
      have zr0 := blk_frozen HSc.out.res 0
      have r1 := (blk_cell HSc.out.res 1).trans rfl
      have zr1 := blk_frozen HSc.out.res 1
      have r2 := (blk_cell HSc.out.res 2).trans rfl
      have zr2 := blk_frozen HSc.out.res 2
      have r3 := (blk_cell HSc.out.res 3).trans rfl
      have zr3 := blk_frozen HSc.out.res 3
      go_wp2
      refine bodyPost_ret (results_token3 rfl _ _ w.heap.size _ rfl (HSc.out.fin _ _ _ _).1 rfl) rfl ?_
      exact one_some HTP.out (HSc.out.fin _ _ _ _).2 (by rw [show i + (k - i) = k by omega]; rfl)
set_option maxRecDepth 100000 in
set_option maxHeartbeats 6400000 in
theorem rone_word4 (s : ByteArray) (i : Nat) (hi : i < s.size) (hs : s.size ≤ 16384) (w : World) (hx : s[i].toNat = 88) (hp : i + 1 < s.size) (hq : ¬ s[i + 1].toNat = 39) (hl : isLet s[i] = true) :
    Calls Tryz.prog 53 #[.string s, .int .i64 (i : Int)] w fun e w' => OneE s i w e w' := by
  have HLN : Asd (s.data.toList.length = s.size) := Asd.mk rfl
  have HL := Asd.mk (drop_cons s i hi)
  have hc8 := s[i].toNat_lt
  have hc9 := s[i + 1].toNat_lt
  have HNX : Asd (¬ ((s[i] = 120 ∨ s[i] = 88) ∧ (s.data.toList.drop (i + 1)).head? = some 39)) := Asd.mk (fun h => by rw [drop_cons s (i + 1) hp] at h; simp only [List.head?_cons, Option.some.injEq] at h; exact hq (by rw [h.2]; rfl))
  have HTP : Asd (tokP (s.data.toList.drop i) = some (⟨1, ((s.data.toList.drop i).take (runP isWrd (s.data.toList.drop i))).map lowB, 0⟩, runP isWrd (s.data.toList.drop i))) := Asd.mk (by
    have h := tokP_word HNX.out hl
    rwa [← HL.out] at h)
  have HLE := Asd.mk hl
  clear hl HNX
  have HLC : Asd (∀ W, Calls Tryz.prog 116 #[.int .u8 88] W fun e w' => e = .returned (.bool true) ∧ Below W.heap.size W w') := Asd.mk (fun W => rletter_calls 88 W)
  go_enter Tryz.func53, Tryz.ntmps53
  have HS := Asd.mk (TkSt.newAt w i)
  go_upto_region 4 with fail
  generalize (w.alloc (.cells #[.int .i64 0, .string ⟨#[]⟩, .int .i64 0, .int .i64 0] 52)).alloc (.cells #[.int .i64 0, .string ⟨#[]⟩, .int .i64 (i : Int), .int .i64 0] 52) = W at HS ⊢
  go_wp2_with fail
  refine (HLC.out _).mono ?_
  rintro e w1 ⟨rfl, hb1⟩
  have HSL := Asd.mk (HS.out.old hb1)
  clear hb1
  go_wp2
  go_loopw [9] (fun v wr => ∃ k : Nat, k ≤ s.size ∧ v = .int .i64 (k : Int) ∧ Asd (i ≤ k) ∧ Asd (runP isWrd (s.data.toList.drop i) = k - i + runP isWrd (s.data.toList.drop k)) ∧ Asd (TkSt w wr #[.int .i64 0, .string ⟨#[]⟩, .int .i64 (i : Int), .int .i64 0])) (fun v _ => s.size - (intOf v).toNat)
  case atStart => exact ⟨i, by omega, rfl, ⟨Nat.le_refl _⟩, ⟨by simp⟩, HSL⟩
  case round =>
    obtain ⟨k, hk, rfl, HIK, HR, HSR⟩ := hrel
    by_cases hlt : k < s.size
    · have HD := Asd.mk (drop_cons s k hlt)
      have hk8 := s[k].toNat_lt
      cases hp : isLet s[k] with
      | true =>
        have HR2 : Asd (runP isWrd (s.data.toList.drop i) = k + 1 - i + runP isWrd (s.data.toList.drop (k + 1))) := Asd.mk (by
          have := HIK.out
          rw [HR.out, HD.out, runP, if_pos (by unfold isWrd; rw [hp]; rfl)]; omega)
        have HP := Asd.mk hp
        clear hp
        go_wp2_with fail
        refine (rletter_calls s[k] _).mono ?_
        rintro e w2 ⟨rfl, hb1⟩
        rw [HP.out]
        have HSR2 := Asd.mk (HSR.out.old hb1)
        clear hb1
        go_wp2
        go_roundw
        case rel => exact ⟨k + 1, by omega, by go_num, ⟨by have := HIK.out; omega⟩, HR2, HSR2⟩
        case measure => simp [intOf]; omega
      | false =>
        have HP := Asd.mk hp
        cases hd : isDig s[k] with
        | true =>
          have HR2 : Asd (runP isWrd (s.data.toList.drop i) = k + 1 - i + runP isWrd (s.data.toList.drop (k + 1))) := Asd.mk (by
            have := HIK.out
            rw [HR.out, HD.out, runP, if_pos (by unfold isWrd; rw [hp, hd]; rfl)]; omega)
          have HDG := Asd.mk hd
          clear hp hd
          go_wp2_with fail
          refine (rletter_calls s[k] _).mono ?_
          rintro e w2 ⟨rfl, hb1⟩
          rw [HP.out]
          have HSR2 := Asd.mk (HSR.out.old hb1)
          clear hb1
          go_wp2_with fail
          refine (rdigit_calls s[k] _).mono ?_
          rintro e w3 ⟨rfl, hb1⟩
          rw [HDG.out]
          have HSR3 := Asd.mk (HSR2.out.old hb1)
          clear hb1
          go_wp2
          go_roundw
          case rel => exact ⟨k + 1, by omega, by go_num, ⟨by have := HIK.out; omega⟩, HR2, HSR3⟩
          case measure => simp [intOf]; omega
        | false =>
          have HR0 : Asd (runP isWrd (s.data.toList.drop i) = k - i) := Asd.mk (by rw [HR.out, HD.out, runP, if_neg (by unfold isWrd; rw [hp, hd]; decide)]; rfl)
          have HDG := Asd.mk hd
          clear hp hd
          go_wp2_with fail
          refine (rletter_calls s[k] _).mono ?_
          rintro e w2 ⟨rfl, hb1⟩
          rw [HP.out]
          have HSR2 := Asd.mk (HSR.out.old hb1)
          clear hb1
          go_wp2_with fail
          refine (rdigit_calls s[k] _).mono ?_
          rintro e w3 ⟨rfl, hb1⟩
          rw [HDG.out]
          have HSR3 := Asd.mk (HSR2.out.old hb1)
          clear hb1
          rw [HR0.out] at HTP
          have hik := HIK.out
          have HEL : Asd ((s.extract i k).data.toList = (s.data.toList.drop i).take (k - i)) := Asd.mk (by rw [ext_list, List.drop_take])
          have HES : Asd ((s.extract i k).size ≤ 16384) := Asd.mk (by rw [ext_size]; omega)
          have b0 := (blk_cell HSR3.out.box 0).trans rfl
          have zb0 := blk_frozen HSR3.out.box 0
          have HSa := Asd.mk (HSR3.out.set 0 (.int .i64 1))
          go_wp2_with fail
          refine (rsmall_calls (s.extract i k) HES.out _).mono ?_
          rintro e w6 ⟨rfl, hb6⟩
          have HSb := Asd.mk (HSa.out.old hb6)
          clear hb6 b0 zb0
          rw [HEL.out]
          generalize ((s.data.toList.drop i).take (k - i)).map lowB = t at HTP ⊢
          have b1 := (blk_cell HSb.out.box 1).trans rfl
          have zb1 := blk_frozen HSb.out.box 1
          have HSc := Asd.mk (HSb.out.set 1 (.string ⟨t.toArray⟩))
          have y0 := (blk_cell HSc.out.box 0).trans rfl
          have y1 := (blk_cell HSc.out.box 1).trans rfl
          have y2 := (blk_cell HSc.out.box 2).trans rfl
          have y3 := (blk_cell HSc.out.box 3).trans rfl
          have r0 := (blk_cell HSc.out.res 0).trans rfl
          have zr0 := blk_frozen HSc.out.res 0
          have r1 := (blk_cell HSc.out.res 1).trans rfl
          have zr1 := blk_frozen HSc.out.res 1
          have r2 := (blk_cell HSc.out.res 2).trans rfl
          have zr2 := blk_frozen HSc.out.res 2
          have r3 := (blk_cell HSc.out.res 3).trans rfl
          have zr3 := blk_frozen HSc.out.res 3
          go_wp2
          refine bodyPost_ret (results_token3 rfl _ _ w.heap.size _ rfl (HSc.out.fin _ _ _ _).1 rfl) rfl ?_
          exact one_some HTP.out (HSc.out.fin _ _ _ _).2 (by rw [show i + (k - i) = k by omega]; rfl)
    · have HR0 : Asd (runP isWrd (s.data.toList.drop i) = k - i) := Asd.mk (by rw [HR.out, List.drop_of_length_le (by rw [HLN.out]; omega)]; rfl)
      rw [HR0.out] at HTP
      have hik := HIK.out
      have HEL : Asd ((s.extract i k).data.toList = (s.data.toList.drop i).take (k - i)) := Asd.mk (by rw [ext_list, List.drop_take])
      have HES : Asd ((s.extract i k).size ≤ 16384) := Asd.mk (by rw [ext_size]; omega)
      have b0 := (blk_cell HSR.out.box 0).trans rfl
      have zb0 := blk_frozen HSR.out.box 0
      have HSa := Asd.mk (HSR.out.set 0 (.int .i64 1))
      go_wp2_with fail
      refine (rsmall_calls (s.extract i k) HES.out _).mono ?_
      rintro e w6 ⟨rfl, hb6⟩
      have HSb := Asd.mk (HSa.out.old hb6)
      clear hb6 b0 zb0
      rw [HEL.out]
      generalize ((s.data.toList.drop i).take (k - i)).map lowB = t at HTP ⊢
      have b1 := (blk_cell HSb.out.box 1).trans rfl
      have zb1 := blk_frozen HSb.out.box 1
      have HSc := Asd.mk (HSb.out.set 1 (.string ⟨t.toArray⟩))
      have y0 := (blk_cell HSc.out.box 0).trans rfl
      have y1 := (blk_cell HSc.out.box 1).trans rfl
      have y2 := (blk_cell HSc.out.box 2).trans rfl
      have y3 := (blk_cell HSc.out.box 3).trans rfl
      have r0 := (blk_cell HSc.out.res 0).trans rfl
      have zr0 := blk_frozen HSc.out.res 0
      have r1 := (blk_cell HSc.out.res 1).trans rfl
      have zr1 := blk_frozen HSc.out.res 1
      have r2 := (blk_cell HSc.out.res 2).trans rfl
      have zr2 := blk_frozen HSc.out.res 2
      have r3 := (blk_cell HSc.out.res 3).trans rfl
      have zr3 := blk_frozen HSc.out.res 3
      go_wp2
      refine bodyPost_ret (results_token3 rfl _ _ w.heap.size _ rfl (HSc.out.fin _ _ _ _).1 rfl) rfl ?_
      exact one_some HTP.out (HSc.out.fin _ _ _ _).2 (by rw [show i + (k - i) = k by omega]; rfl)
end Go.Proofs.YtcefmhofidoloaaGreatDoor.Lex

/- quarryref12.one: the walk, by hand: words, texts. -/
set_option linter.unusedVariables false
set_option linter.unusedSimpArgs false
namespace Go.Proofs.YtcefmhofidoloaaGreatDoor.Lex
open Go.RowKit Go.Proofs.YtcefmhofidoloaaGreatDoor.Base Go.Proofs.YtcefmhofidoloaaGreatDoor.App Go.Proofs.YtcefmhofidoloaaGreatDoor.Byt

set_option maxRecDepth 100000 in
set_option maxHeartbeats 6400000 in
theorem rone_word5 (s : ByteArray) (i : Nat) (hi : i < s.size) (hs : s.size ≤ 16384) (w : World) (hx : ¬ s[i].toNat = 120) (hX : ¬ s[i].toNat = 88) (hl : isLet s[i] = true) :
    Calls Tryz.prog 53 #[.string s, .int .i64 (i : Int)] w fun e w' => OneE s i w e w' := by
  have HLN : Asd (s.data.toList.length = s.size) := Asd.mk rfl
  have HL := Asd.mk (drop_cons s i hi)
  have hc8 := s[i].toNat_lt
  have HNX : Asd (¬ ((s[i] = 120 ∨ s[i] = 88) ∧ (s.data.toList.drop (i + 1)).head? = some 39)) := Asd.mk (fun h => by rcases h.1 with h | h; exact hx (by rw [h]; rfl); exact hX (by rw [h]; rfl))
  have HTP : Asd (tokP (s.data.toList.drop i) = some (⟨1, ((s.data.toList.drop i).take (runP isWrd (s.data.toList.drop i))).map lowB, 0⟩, runP isWrd (s.data.toList.drop i))) := Asd.mk (by
    have h := tokP_word HNX.out hl
    rwa [← HL.out] at h)
  have HLE := Asd.mk hl
  clear hl HNX
  go_enter Tryz.func53, Tryz.ntmps53
  have HS := Asd.mk (TkSt.newAt w i)
  go_upto_region 4 with fail
  generalize (w.alloc (.cells #[.int .i64 0, .string ⟨#[]⟩, .int .i64 0, .int .i64 0] 52)).alloc (.cells #[.int .i64 0, .string ⟨#[]⟩, .int .i64 (i : Int), .int .i64 0] 52) = W at HS ⊢
  go_wp2_with fail
  refine (rletter_calls s[i] _).mono ?_
  rintro e w1 ⟨rfl, hb1⟩
  rw [HLE.out]
  have HSL := Asd.mk (HS.out.old hb1)
  clear hb1
  go_wp2
  go_loopw [9] (fun v wr => ∃ k : Nat, k ≤ s.size ∧ v = .int .i64 (k : Int) ∧ Asd (i ≤ k) ∧ Asd (runP isWrd (s.data.toList.drop i) = k - i + runP isWrd (s.data.toList.drop k)) ∧ Asd (TkSt w wr #[.int .i64 0, .string ⟨#[]⟩, .int .i64 (i : Int), .int .i64 0])) (fun v _ => s.size - (intOf v).toNat)
  case atStart => exact ⟨i, by omega, rfl, ⟨Nat.le_refl _⟩, ⟨by simp⟩, HSL⟩
  case round =>
    obtain ⟨k, hk, rfl, HIK, HR, HSR⟩ := hrel
    by_cases hlt : k < s.size
    · have HD := Asd.mk (drop_cons s k hlt)
      have hk8 := s[k].toNat_lt
      cases hp : isLet s[k] with
      | true =>
        have HR2 : Asd (runP isWrd (s.data.toList.drop i) = k + 1 - i + runP isWrd (s.data.toList.drop (k + 1))) := Asd.mk (by
          have := HIK.out
          rw [HR.out, HD.out, runP, if_pos (by unfold isWrd; rw [hp]; rfl)]; omega)
        have HP := Asd.mk hp
        clear hp
        go_wp2_with fail
        refine (rletter_calls s[k] _).mono ?_
        rintro e w2 ⟨rfl, hb1⟩
        rw [HP.out]
        have HSR2 := Asd.mk (HSR.out.old hb1)
        clear hb1
        go_wp2
        go_roundw
        case rel => exact ⟨k + 1, by omega, by go_num, ⟨by have := HIK.out; omega⟩, HR2, HSR2⟩
        case measure => simp [intOf]; omega
      | false =>
        have HP := Asd.mk hp
        cases hd : isDig s[k] with
        | true =>
          have HR2 : Asd (runP isWrd (s.data.toList.drop i) = k + 1 - i + runP isWrd (s.data.toList.drop (k + 1))) := Asd.mk (by
            have := HIK.out
            rw [HR.out, HD.out, runP, if_pos (by unfold isWrd; rw [hp, hd]; rfl)]; omega)
          have HDG := Asd.mk hd
          clear hp hd
          go_wp2_with fail
          refine (rletter_calls s[k] _).mono ?_
          rintro e w2 ⟨rfl, hb1⟩
          rw [HP.out]
          have HSR2 := Asd.mk (HSR.out.old hb1)
          clear hb1
          go_wp2_with fail
          refine (rdigit_calls s[k] _).mono ?_
          rintro e w3 ⟨rfl, hb1⟩
          rw [HDG.out]
          have HSR3 := Asd.mk (HSR2.out.old hb1)
          clear hb1
          go_wp2
          go_roundw
          case rel => exact ⟨k + 1, by omega, by go_num, ⟨by have := HIK.out; omega⟩, HR2, HSR3⟩
          case measure => simp [intOf]; omega
        | false =>
          have HR0 : Asd (runP isWrd (s.data.toList.drop i) = k - i) := Asd.mk (by rw [HR.out, HD.out, runP, if_neg (by unfold isWrd; rw [hp, hd]; decide)]; rfl)
          have HDG := Asd.mk hd
          clear hp hd
          go_wp2_with fail
          refine (rletter_calls s[k] _).mono ?_
          rintro e w2 ⟨rfl, hb1⟩
          rw [HP.out]
          have HSR2 := Asd.mk (HSR.out.old hb1)
          clear hb1
          go_wp2_with fail
          refine (rdigit_calls s[k] _).mono ?_
          rintro e w3 ⟨rfl, hb1⟩
          rw [HDG.out]
          have HSR3 := Asd.mk (HSR2.out.old hb1)
          clear hb1
          rw [HR0.out] at HTP
          have hik := HIK.out
          have HEL : Asd ((s.extract i k).data.toList = (s.data.toList.drop i).take (k - i)) := Asd.mk (by rw [ext_list, List.drop_take])
          have HES : Asd ((s.extract i k).size ≤ 16384) := Asd.mk (by rw [ext_size]; omega)
          have b0 := (blk_cell HSR3.out.box 0).trans rfl
          have zb0 := blk_frozen HSR3.out.box 0
          have HSa := Asd.mk (HSR3.out.set 0 (.int .i64 1))
          go_wp2_with fail
          refine (rsmall_calls (s.extract i k) HES.out _).mono ?_
          rintro e w6 ⟨rfl, hb6⟩
          have HSb := Asd.mk (HSa.out.old hb6)
          clear hb6 b0 zb0
          rw [HEL.out]
          generalize ((s.data.toList.drop i).take (k - i)).map lowB = t at HTP ⊢
          have b1 := (blk_cell HSb.out.box 1).trans rfl
          have zb1 := blk_frozen HSb.out.box 1
          have HSc := Asd.mk (HSb.out.set 1 (.string ⟨t.toArray⟩))
          have y0 := (blk_cell HSc.out.box 0).trans rfl
          have y1 := (blk_cell HSc.out.box 1).trans rfl
          have y2 := (blk_cell HSc.out.box 2).trans rfl
          have y3 := (blk_cell HSc.out.box 3).trans rfl
          have r0 := (blk_cell HSc.out.res 0).trans rfl
          have zr0 := blk_frozen HSc.out.res 0
          have r1 := (blk_cell HSc.out.res 1).trans rfl
          have zr1 := blk_frozen HSc.out.res 1
          have r2 := (blk_cell HSc.out.res 2).trans rfl
          have zr2 := blk_frozen HSc.out.res 2
          have r3 := (blk_cell HSc.out.res 3).trans rfl
          have zr3 := blk_frozen HSc.out.res 3
          go_wp2
          refine bodyPost_ret (results_token3 rfl _ _ w.heap.size _ rfl (HSc.out.fin _ _ _ _).1 rfl) rfl ?_
          exact one_some HTP.out (HSc.out.fin _ _ _ _).2 (by rw [show i + (k - i) = k by omega]; rfl)
    · have HR0 : Asd (runP isWrd (s.data.toList.drop i) = k - i) := Asd.mk (by rw [HR.out, List.drop_of_length_le (by rw [HLN.out]; omega)]; rfl)
      rw [HR0.out] at HTP
      have hik := HIK.out
      have HEL : Asd ((s.extract i k).data.toList = (s.data.toList.drop i).take (k - i)) := Asd.mk (by rw [ext_list, List.drop_take])
      have HES : Asd ((s.extract i k).size ≤ 16384) := Asd.mk (by rw [ext_size]; omega)
      have b0 := (blk_cell HSR.out.box 0).trans rfl
      have zb0 := blk_frozen HSR.out.box 0
      have HSa := Asd.mk (HSR.out.set 0 (.int .i64 1))
      go_wp2_with fail
      refine (rsmall_calls (s.extract i k) HES.out _).mono ?_
      rintro e w6 ⟨rfl, hb6⟩
      have HSb := Asd.mk (HSa.out.old hb6)
      clear hb6 b0 zb0
      rw [HEL.out]
      generalize ((s.data.toList.drop i).take (k - i)).map lowB = t at HTP ⊢
      have b1 := (blk_cell HSb.out.box 1).trans rfl
      have zb1 := blk_frozen HSb.out.box 1
      have HSc := Asd.mk (HSb.out.set 1 (.string ⟨t.toArray⟩))
      have y0 := (blk_cell HSc.out.box 0).trans rfl
      have y1 := (blk_cell HSc.out.box 1).trans rfl
      have y2 := (blk_cell HSc.out.box 2).trans rfl
      have y3 := (blk_cell HSc.out.box 3).trans rfl
      have r0 := (blk_cell HSc.out.res 0).trans rfl
      have zr0 := blk_frozen HSc.out.res 0
      have r1 := (blk_cell HSc.out.res 1).trans rfl
      have zr1 := blk_frozen HSc.out.res 1
      have r2 := (blk_cell HSc.out.res 2).trans rfl
      have zr2 := blk_frozen HSc.out.res 2
      have r3 := (blk_cell HSc.out.res 3).trans rfl
      have zr3 := blk_frozen HSc.out.res 3
      go_wp2
      refine bodyPost_ret (results_token3 rfl _ _ w.heap.size _ rfl (HSc.out.fin _ _ _ _).1 rfl) rfl ?_
      exact one_some HTP.out (HSc.out.fin _ _ _ _).2 (by rw [show i + (k - i) = k by omega]; rfl)
set_option maxRecDepth 100000 in
set_option maxHeartbeats 6400000 in
theorem rone_text (s : ByteArray) (i : Nat) (hi : i < s.size) (hs : s.size ≤ 16384) (w : World) (hx : ¬ s[i].toNat = 120) (hX : ¬ s[i].toNat = 88) (hc : s[i].toNat = 39) :
    Calls Tryz.prog 53 #[.string s, .int .i64 (i : Int)] w fun e w' => OneE s i w e w' := by
  have HLN : Asd (s.data.toList.length = s.size) := Asd.mk rfl
  have HL := Asd.mk (drop_cons s i hi)
  have hc8 := s[i].toNat_lt
  have HNX : Asd (¬ ((s[i] = 120 ∨ s[i] = 88) ∧ (s.data.toList.drop (i + 1)).head? = some 39)) := Asd.mk (fun h => by rcases h.1 with h | h; exact hx (by rw [h]; rfl); exact hX (by rw [h]; rfl))
  have hC : s[i] = 39 := UInt8.toNat_inj.mp hc
  have HTP : Asd (tokP (s.data.toList.drop i) = (textP (s.data.toList.drop (i + 1))).map fun x => (⟨3, x.1, 0⟩, x.2 + 1)) := Asd.mk (by rw [HL.out, hC]; exact tokP_text)
  have HLE : Asd (isLet s[i] = false) := Asd.mk (by rw [hC]; decide)
  have HDE : Asd (isDig s[i] = false) := Asd.mk (by rw [hC]; decide)
  clear HNX hC
  have HLC : Asd (∀ W, Calls Tryz.prog 116 #[.int .u8 39] W fun e w' => e = .returned (.bool false) ∧ Below W.heap.size W w') := Asd.mk (fun W => rletter_calls 39 W)
  have HDC : Asd (∀ W, Calls Tryz.prog 117 #[.int .u8 39] W fun e w' => e = .returned (.bool false) ∧ Below W.heap.size W w') := Asd.mk (fun W => rdigit_calls 39 W)
  go_enter Tryz.func53, Tryz.ntmps53
  have HS := Asd.mk (TkSt.newAt w i)
  go_upto_region 4 with fail
  generalize (w.alloc (.cells #[.int .i64 0, .string ⟨#[]⟩, .int .i64 0, .int .i64 0] 52)).alloc (.cells #[.int .i64 0, .string ⟨#[]⟩, .int .i64 (i : Int), .int .i64 0] 52) = W at HS ⊢
  go_wp2_with fail
  refine (HLC.out _).mono ?_
  rintro e w1 ⟨rfl, hb1⟩
  have HS1 := Asd.mk (HS.out.old hb1)
  clear hb1
  go_wp2_with fail
  refine (HDC.out _).mono ?_
  rintro e w2 ⟨rfl, hb1⟩
  have HS2 := Asd.mk (HS1.out.old hb1)
  clear hb1
  go_wp2_with fail
  refine (rquoted_calls s hs i hi _).mono ?_
  rintro e w3 ⟨rfl, hb3⟩
  have HS3 := Asd.mk (HS2.out.old hb3)
  clear hb3
  cases ht : textP (s.data.toList.drop (i + 1)) with
  | none =>
    rw [ht] at HTP
    clear ht
    unfold quoE
    have b0 := (blk_cell HS3.out.box 0).trans rfl
    have zb0 := blk_frozen HS3.out.box 0
    have b1 := (blk_cell HS3.out.box 1).trans rfl
    have zb1 := blk_frozen HS3.out.box 1
    have HSc := Asd.mk ((HS3.out.set 0 (.int .i64 3)).set 1 (.string ⟨#[]⟩))
    have y0 := (blk_cell HSc.out.box 0).trans rfl
    have y1 := (blk_cell HSc.out.box 1).trans rfl
    have y2 := (blk_cell HSc.out.box 2).trans rfl
    have y3 := (blk_cell HSc.out.box 3).trans rfl
    have r0 := (blk_cell HSc.out.res 0).trans rfl
    have zr0 := blk_frozen HSc.out.res 0
    have r1 := (blk_cell HSc.out.res 1).trans rfl
    have zr1 := blk_frozen HSc.out.res 1
    have r2 := (blk_cell HSc.out.res 2).trans rfl
    have zr2 := blk_frozen HSc.out.res 2
    have r3 := (blk_cell HSc.out.res 3).trans rfl
    have zr3 := blk_frozen HSc.out.res 3
    go_wp2
    refine bodyPost_ret (results_token3 rfl _ _ w.heap.size _ rfl (HSc.out.fin _ _ _ _).1 rfl) rfl ?_
    exact one_none HTP.out (HSc.out.fin _ _ _ _).2 _ _ _ _ _ rfl
  | some x =>
    rw [ht] at HTP
    clear ht
    obtain ⟨t, n⟩ := x
    simp only [Option.map_some] at HTP
    unfold quoE
    have b0 := (blk_cell HS3.out.box 0).trans rfl
    have zb0 := blk_frozen HS3.out.box 0
    have b1 := (blk_cell HS3.out.box 1).trans rfl
    have zb1 := blk_frozen HS3.out.box 1
    have HSc := Asd.mk ((HS3.out.set 0 (.int .i64 3)).set 1 (.string ⟨t.toArray⟩))
    have y0 := (blk_cell HSc.out.box 0).trans rfl
    have y1 := (blk_cell HSc.out.box 1).trans rfl
    have y2 := (blk_cell HSc.out.box 2).trans rfl
    have y3 := (blk_cell HSc.out.box 3).trans rfl
    have r0 := (blk_cell HSc.out.res 0).trans rfl
    have zr0 := blk_frozen HSc.out.res 0
    have r1 := (blk_cell HSc.out.res 1).trans rfl
    have zr1 := blk_frozen HSc.out.res 1
    have r2 := (blk_cell HSc.out.res 2).trans rfl
    have zr2 := blk_frozen HSc.out.res 2
    have r3 := (blk_cell HSc.out.res 3).trans rfl
    have zr3 := blk_frozen HSc.out.res 3
    go_wp2
    refine bodyPost_ret (results_token3 rfl _ _ w.heap.size _ rfl (HSc.out.fin _ _ _ _).1 rfl) rfl ?_
    exact one_some HTP.out (HSc.out.fin _ _ _ _).2 (by rw [show i + (n + 1) = i + 1 + n by omega]; rfl)
end Go.Proofs.YtcefmhofidoloaaGreatDoor.Lex

/- quarryref12.one: the walk, by hand: numbers. -/
set_option linter.unusedVariables false
set_option linter.unusedSimpArgs false
namespace Go.Proofs.YtcefmhofidoloaaGreatDoor.Lex
open Go.RowKit Go.Proofs.YtcefmhofidoloaaGreatDoor.Base Go.Proofs.YtcefmhofidoloaaGreatDoor.App Go.Proofs.YtcefmhofidoloaaGreatDoor.Byt

set_option maxRecDepth 100000 in
set_option maxHeartbeats 6400000 in
theorem rone_num (s : ByteArray) (i : Nat) (hi : i < s.size) (hs : s.size ≤ 16384) (w : World) (hx : ¬ s[i].toNat = 120) (hX : ¬ s[i].toNat = 88) (hl : isLet s[i] = false) (hd : isDig s[i] = true) :
    Calls Tryz.prog 53 #[.string s, .int .i64 (i : Int)] w fun e w' => OneE s i w e w' := by
  have HLN : Asd (s.data.toList.length = s.size) := Asd.mk rfl
  have HL := Asd.mk (drop_cons s i hi)
  have hc8 := s[i].toNat_lt
  have HNX : Asd (¬ ((s[i] = 120 ∨ s[i] = 88) ∧ (s.data.toList.drop (i + 1)).head? = some 39)) := Asd.mk (fun h => by rcases h.1 with h | h; exact hx (by rw [h]; rfl); exact hX (by rw [h]; rfl))
  have HTP : Asd (tokP (s.data.toList.drop i) = (numP ((s.data.toList.drop i).take (runP isDig (s.data.toList.drop i)))).map fun v => (⟨2, [], v⟩, runP isDig (s.data.toList.drop i))) := Asd.mk (by
    have h := tokP_num HNX.out hl hd
    rwa [← HL.out] at h)
  have HALL : Asd (∀ c ∈ (s.data.toList.drop i).take (runP isDig (s.data.toList.drop i)), isDig c = true) := Asd.mk (run_all isDig _)
  have HNE : Asd ((s.data.toList.drop i).take (runP isDig (s.data.toList.drop i)) ≠ []) := Asd.mk (by
    rw [HL.out]
    intro e
    have h1 := run_pos isDig (r := s.data.toList.drop (i + 1)) hd
    have := congrArg List.length e
    rw [List.length_take] at this
    simp only [List.length_cons, List.length_nil] at this
    omega)
  have HLE := Asd.mk hl
  have HDE := Asd.mk hd
  clear hl hd HNX
  go_enter Tryz.func53, Tryz.ntmps53
  have HS := Asd.mk (TkSt.newAt w i)
  go_upto_region 4 with fail
  generalize (w.alloc (.cells #[.int .i64 0, .string ⟨#[]⟩, .int .i64 0, .int .i64 0] 52)).alloc (.cells #[.int .i64 0, .string ⟨#[]⟩, .int .i64 (i : Int), .int .i64 0] 52) = W at HS ⊢
  go_wp2_with fail
  refine (rletter_calls s[i] _).mono ?_
  rintro e w1 ⟨rfl, hb1⟩
  rw [HLE.out]
  have HS1 := Asd.mk (HS.out.old hb1)
  clear hb1
  go_wp2_with fail
  refine (rdigit_calls s[i] _).mono ?_
  rintro e w2 ⟨rfl, hb1⟩
  rw [HDE.out]
  have HSL := Asd.mk (HS1.out.old hb1)
  clear hb1
  go_wp2
  go_loopw [9] (fun v wr => ∃ k : Nat, k ≤ s.size ∧ v = .int .i64 (k : Int) ∧ Asd (i ≤ k) ∧ Asd (runP isDig (s.data.toList.drop i) = k - i + runP isDig (s.data.toList.drop k)) ∧ Asd (TkSt w wr #[.int .i64 0, .string ⟨#[]⟩, .int .i64 (i : Int), .int .i64 0])) (fun v _ => s.size - (intOf v).toNat)
  case atStart => exact ⟨i, by omega, rfl, ⟨Nat.le_refl _⟩, ⟨by simp⟩, HSL⟩
  case round =>
    obtain ⟨k, hk, rfl, HIK, HR, HSR⟩ := hrel
    by_cases hlt : k < s.size
    · have HD := Asd.mk (drop_cons s k hlt)
      have hk8 := s[k].toNat_lt
      cases hp : isDig s[k] with
      | true =>
        have HR2 : Asd (runP isDig (s.data.toList.drop i) = k + 1 - i + runP isDig (s.data.toList.drop (k + 1))) := Asd.mk (by
          have := HIK.out
          rw [HR.out, HD.out, runP, if_pos (hp)]; omega)
        have HP := Asd.mk hp
        clear hp
        go_wp2_with fail
        refine (rdigit_calls s[k] _).mono ?_
        rintro e w3 ⟨rfl, hb1⟩
        rw [HP.out]
        have HSR2 := Asd.mk (HSR.out.old hb1)
        clear hb1
        go_wp2
        go_roundw
        case rel => exact ⟨k + 1, by omega, by go_num, ⟨by have := HIK.out; omega⟩, HR2, HSR2⟩
        case measure => simp [intOf]; omega
      | false =>
        have HR0 : Asd (runP isDig (s.data.toList.drop i) = k - i) := Asd.mk (by rw [HR.out, HD.out, runP, if_neg (by rw [hp]; decide)]; rfl)
        have HP := Asd.mk hp
        clear hp
        go_wp2_with fail
        refine (rdigit_calls s[k] _).mono ?_
        rintro e w3 ⟨rfl, hb1⟩
        rw [HP.out]
        have HSR2 := Asd.mk (HSR.out.old hb1)
        clear hb1
        rw [HR0.out] at HTP HALL HNE
        have hik := HIK.out
        have HEL : Asd ((s.extract i k).data.toList = (s.data.toList.drop i).take (k - i)) := Asd.mk (by rw [ext_list, List.drop_take])
        have HES : Asd ((s.extract i k).size ≤ 16384) := Asd.mk (by rw [ext_size]; omega)
        go_wp2_with fail
        refine (rnumber_calls (s.extract i k) HES.out (by rw [HEL.out]; exact HNE.out) (by rw [HEL.out]; exact HALL.out) _).mono ?_
        rintro e w6 ⟨rfl, hb6⟩
        have HSa := Asd.mk (HSR2.out.old hb6)
        clear hb6
        rw [HEL.out]
        cases hv : numP ((s.data.toList.drop i).take (k - i)) with
        | none =>
          rw [hv] at HTP
          clear hv
          simp only [Option.getD_none, Option.isSome_none]
          have b0 := (blk_cell HSa.out.box 0).trans rfl
          have zb0 := blk_frozen HSa.out.box 0
          have b3 := (blk_cell HSa.out.box 3).trans rfl
          have zb3 := blk_frozen HSa.out.box 3
          have HSc := Asd.mk ((HSa.out.set 0 (.int .i64 2)).set 3 (.int .i64 0))
          have y0 := (blk_cell HSc.out.box 0).trans rfl
          have y1 := (blk_cell HSc.out.box 1).trans rfl
          have y2 := (blk_cell HSc.out.box 2).trans rfl
          have y3 := (blk_cell HSc.out.box 3).trans rfl
          have r0 := (blk_cell HSc.out.res 0).trans rfl
          have zr0 := blk_frozen HSc.out.res 0
          have r1 := (blk_cell HSc.out.res 1).trans rfl
          have zr1 := blk_frozen HSc.out.res 1
          have r2 := (blk_cell HSc.out.res 2).trans rfl
          have zr2 := blk_frozen HSc.out.res 2
          have r3 := (blk_cell HSc.out.res 3).trans rfl
          have zr3 := blk_frozen HSc.out.res 3
          go_wp2
          refine bodyPost_ret (results_token3 rfl _ _ w.heap.size _ rfl (HSc.out.fin _ _ _ _).1 rfl) rfl ?_
          exact one_none HTP.out (HSc.out.fin _ _ _ _).2 _ _ _ _ _ rfl
        | some v =>
          rw [hv] at HTP
          clear hv
          simp only [Option.getD_some, Option.isSome_some]
          have b0 := (blk_cell HSa.out.box 0).trans rfl
          have zb0 := blk_frozen HSa.out.box 0
          have b3 := (blk_cell HSa.out.box 3).trans rfl
          have zb3 := blk_frozen HSa.out.box 3
          have HSc := Asd.mk ((HSa.out.set 0 (.int .i64 2)).set 3 (.int .i64 v))
          have y0 := (blk_cell HSc.out.box 0).trans rfl
          have y1 := (blk_cell HSc.out.box 1).trans rfl
          have y2 := (blk_cell HSc.out.box 2).trans rfl
          have y3 := (blk_cell HSc.out.box 3).trans rfl
          have r0 := (blk_cell HSc.out.res 0).trans rfl
          have zr0 := blk_frozen HSc.out.res 0
          have r1 := (blk_cell HSc.out.res 1).trans rfl
          have zr1 := blk_frozen HSc.out.res 1
          have r2 := (blk_cell HSc.out.res 2).trans rfl
          have zr2 := blk_frozen HSc.out.res 2
          have r3 := (blk_cell HSc.out.res 3).trans rfl
          have zr3 := blk_frozen HSc.out.res 3
          go_wp2
          refine bodyPost_ret (results_token3 rfl _ _ w.heap.size _ rfl (HSc.out.fin _ _ _ _).1 rfl) rfl ?_
          exact one_some HTP.out (HSc.out.fin _ _ _ _).2 (by rw [show i + (k - i) = k by omega]; rfl)
    · have HR0 : Asd (runP isDig (s.data.toList.drop i) = k - i) := Asd.mk (by rw [HR.out, List.drop_of_length_le (by rw [HLN.out]; omega)]; rfl)
      rw [HR0.out] at HTP HALL HNE
      have hik := HIK.out
      have HEL : Asd ((s.extract i k).data.toList = (s.data.toList.drop i).take (k - i)) := Asd.mk (by rw [ext_list, List.drop_take])
      have HES : Asd ((s.extract i k).size ≤ 16384) := Asd.mk (by rw [ext_size]; omega)
      go_wp2_with fail
      refine (rnumber_calls (s.extract i k) HES.out (by rw [HEL.out]; exact HNE.out) (by rw [HEL.out]; exact HALL.out) _).mono ?_
      rintro e w6 ⟨rfl, hb6⟩
      have HSa := Asd.mk (HSR.out.old hb6)
      clear hb6
      rw [HEL.out]
      cases hv : numP ((s.data.toList.drop i).take (k - i)) with
      | none =>
        rw [hv] at HTP
        clear hv
        simp only [Option.getD_none, Option.isSome_none]
        have b0 := (blk_cell HSa.out.box 0).trans rfl
        have zb0 := blk_frozen HSa.out.box 0
        have b3 := (blk_cell HSa.out.box 3).trans rfl
        have zb3 := blk_frozen HSa.out.box 3
        have HSc := Asd.mk ((HSa.out.set 0 (.int .i64 2)).set 3 (.int .i64 0))
        have y0 := (blk_cell HSc.out.box 0).trans rfl
        have y1 := (blk_cell HSc.out.box 1).trans rfl
        have y2 := (blk_cell HSc.out.box 2).trans rfl
        have y3 := (blk_cell HSc.out.box 3).trans rfl
        have r0 := (blk_cell HSc.out.res 0).trans rfl
        have zr0 := blk_frozen HSc.out.res 0
        have r1 := (blk_cell HSc.out.res 1).trans rfl
        have zr1 := blk_frozen HSc.out.res 1
        have r2 := (blk_cell HSc.out.res 2).trans rfl
        have zr2 := blk_frozen HSc.out.res 2
        have r3 := (blk_cell HSc.out.res 3).trans rfl
        have zr3 := blk_frozen HSc.out.res 3
        go_wp2
        refine bodyPost_ret (results_token3 rfl _ _ w.heap.size _ rfl (HSc.out.fin _ _ _ _).1 rfl) rfl ?_
        exact one_none HTP.out (HSc.out.fin _ _ _ _).2 _ _ _ _ _ rfl
      | some v =>
        rw [hv] at HTP
        clear hv
        simp only [Option.getD_some, Option.isSome_some]
        have b0 := (blk_cell HSa.out.box 0).trans rfl
        have zb0 := blk_frozen HSa.out.box 0
        have b3 := (blk_cell HSa.out.box 3).trans rfl
        have zb3 := blk_frozen HSa.out.box 3
        have HSc := Asd.mk ((HSa.out.set 0 (.int .i64 2)).set 3 (.int .i64 v))
        have y0 := (blk_cell HSc.out.box 0).trans rfl
        have y1 := (blk_cell HSc.out.box 1).trans rfl
        have y2 := (blk_cell HSc.out.box 2).trans rfl
        have y3 := (blk_cell HSc.out.box 3).trans rfl
        have r0 := (blk_cell HSc.out.res 0).trans rfl
        have zr0 := blk_frozen HSc.out.res 0
        have r1 := (blk_cell HSc.out.res 1).trans rfl
        have zr1 := blk_frozen HSc.out.res 1
        have r2 := (blk_cell HSc.out.res 2).trans rfl
        have zr2 := blk_frozen HSc.out.res 2
        have r3 := (blk_cell HSc.out.res 3).trans rfl
        have zr3 := blk_frozen HSc.out.res 3
        go_wp2
        refine bodyPost_ret (results_token3 rfl _ _ w.heap.size _ rfl (HSc.out.fin _ _ _ _).1 rfl) rfl ?_
        exact one_some HTP.out (HSc.out.fin _ _ _ _).2 (by rw [show i + (k - i) = k by omega]; rfl)
end Go.Proofs.YtcefmhofidoloaaGreatDoor.Lex

/- quarryref12.one: the walk, by hand: blobs. -/
set_option linter.unusedVariables false
set_option linter.unusedSimpArgs false
namespace Go.Proofs.YtcefmhofidoloaaGreatDoor.Lex
open Go.RowKit Go.Proofs.YtcefmhofidoloaaGreatDoor.Base Go.Proofs.YtcefmhofidoloaaGreatDoor.App Go.Proofs.YtcefmhofidoloaaGreatDoor.Byt

set_option maxRecDepth 100000 in
set_option maxHeartbeats 6400000 in
theorem rone_blob120 (s : ByteArray) (i : Nat) (hi : i < s.size) (hs : s.size ≤ 16384) (w : World) (hx : s[i].toNat = 120) (hp : i + 1 < s.size) (hq : s[i + 1].toNat = 39) :
    Calls Tryz.prog 53 #[.string s, .int .i64 (i : Int)] w fun e w' => OneE s i w e w' := by
  have HLN : Asd (s.data.toList.length = s.size) := Asd.mk rfl
  have HL := Asd.mk (drop_cons s i hi)
  have hc8 := s[i].toNat_lt
  have hc9 := s[i + 1].toNat_lt
  have hC : s[i] = 120 := UInt8.toNat_inj.mp hx
  have hC1 : s[i + 1] = 39 := UInt8.toNat_inj.mp hq
  have HD1 := Asd.mk (drop_cons s (i + 1) hp)
  have HTP : Asd (tokP (s.data.toList.drop i) = (blobP (s.data.toList.drop (i + 1 + 1))).map fun x => (⟨4, x.1, 0⟩, x.2 + 1)) := Asd.mk (by
    have h := tokP_blob (c := s[i]) (r := s.data.toList.drop (i + 1)) (by rw [hC]; decide) (by rw [HD1.out, hC1]; rfl)
    rw [← HL.out] at h
    rw [h, HD1.out]
    rfl)
  rw [blobP_pairs _ _ (Nat.le_refl _)] at HTP
  clear hC hC1 HD1
  go_enter Tryz.func53, Tryz.ntmps53
  have HS := Asd.mk (TkSt.newAt w i)
  go_upto_region 4 with fail
  generalize (w.alloc (.cells #[.int .i64 0, .string ⟨#[]⟩, .int .i64 0, .int .i64 0] 52)).alloc (.cells #[.int .i64 0, .string ⟨#[]⟩, .int .i64 (i : Int), .int .i64 0] 52) = W at HS ⊢
  have b0 := (blk_cell HS.out.box 0).trans rfl
  have zb0 := blk_frozen HS.out.box 0
  have HS1 := Asd.mk (HS.out.set 0 (.int .i64 4))
  go_wp2_with fail
  refine (rblob_calls s (i + 1) hp hs _).mono ?_
  rintro e w3 ⟨rfl, hb3⟩
  have HS3 := Asd.mk (HS1.out.old hb3)
  clear hb3 b0 zb0
  unfold blE
  generalize hD : s.data.toList.drop (i + 1 + 1) = D at HTP ⊢
  clear hD
  generalize hpp : pairsP D = pp at HTP ⊢
  clear hpp
  obtain ⟨t, n⟩ := pp
  simp only at HTP ⊢
  by_cases h39 : (D.drop n).head? = some 39
  · have HT2 := Asd.mk HTP.out
    rw [if_pos h39] at HT2
    simp only [Option.map_some] at HT2
    rw [decide_eq_true h39]
    clear HTP h39
    have b1 := (blk_cell HS3.out.box 1).trans rfl
    have zb1 := blk_frozen HS3.out.box 1
    have HSc := Asd.mk (HS3.out.set 1 (.string ⟨t.toArray⟩))
    have y0 := (blk_cell HSc.out.box 0).trans rfl
    have y1 := (blk_cell HSc.out.box 1).trans rfl
    have y2 := (blk_cell HSc.out.box 2).trans rfl
    have y3 := (blk_cell HSc.out.box 3).trans rfl
    have r0 := (blk_cell HSc.out.res 0).trans rfl
    have zr0 := blk_frozen HSc.out.res 0
    have r1 := (blk_cell HSc.out.res 1).trans rfl
    have zr1 := blk_frozen HSc.out.res 1
    have r2 := (blk_cell HSc.out.res 2).trans rfl
    have zr2 := blk_frozen HSc.out.res 2
    have r3 := (blk_cell HSc.out.res 3).trans rfl
    have zr3 := blk_frozen HSc.out.res 3
    go_wp2
    refine bodyPost_ret (results_token3 rfl _ _ w.heap.size _ rfl (HSc.out.fin _ _ _ _).1 rfl) rfl ?_
    exact one_some HT2.out (HSc.out.fin _ _ _ _).2 (by rw [show i + (n + 2 + 1) = i + 1 + 1 + n + 1 by omega]; rfl)
  · have HT2 := Asd.mk HTP.out
    rw [if_neg h39] at HT2
    rw [decide_eq_false h39]
    clear HTP h39
    have b1 := (blk_cell HS3.out.box 1).trans rfl
    have zb1 := blk_frozen HS3.out.box 1
    have HSc := Asd.mk (HS3.out.set 1 (.string ⟨t.toArray⟩))
    have y0 := (blk_cell HSc.out.box 0).trans rfl
    have y1 := (blk_cell HSc.out.box 1).trans rfl
    have y2 := (blk_cell HSc.out.box 2).trans rfl
    have y3 := (blk_cell HSc.out.box 3).trans rfl
    have r0 := (blk_cell HSc.out.res 0).trans rfl
    have zr0 := blk_frozen HSc.out.res 0
    have r1 := (blk_cell HSc.out.res 1).trans rfl
    have zr1 := blk_frozen HSc.out.res 1
    have r2 := (blk_cell HSc.out.res 2).trans rfl
    have zr2 := blk_frozen HSc.out.res 2
    have r3 := (blk_cell HSc.out.res 3).trans rfl
    have zr3 := blk_frozen HSc.out.res 3
    go_wp2
    refine bodyPost_ret (results_token3 rfl _ _ w.heap.size _ rfl (HSc.out.fin _ _ _ _).1 rfl) rfl ?_
    exact one_none HT2.out (HSc.out.fin _ _ _ _).2 _ _ _ _ _ rfl
set_option maxRecDepth 100000 in
set_option maxHeartbeats 6400000 in
theorem rone_blob88 (s : ByteArray) (i : Nat) (hi : i < s.size) (hs : s.size ≤ 16384) (w : World) (hx : s[i].toNat = 88) (hp : i + 1 < s.size) (hq : s[i + 1].toNat = 39) :
    Calls Tryz.prog 53 #[.string s, .int .i64 (i : Int)] w fun e w' => OneE s i w e w' := by
  have HLN : Asd (s.data.toList.length = s.size) := Asd.mk rfl
  have HL := Asd.mk (drop_cons s i hi)
  have hc8 := s[i].toNat_lt
  have hc9 := s[i + 1].toNat_lt
  have hC : s[i] = 88 := UInt8.toNat_inj.mp hx
  have hC1 : s[i + 1] = 39 := UInt8.toNat_inj.mp hq
  have HD1 := Asd.mk (drop_cons s (i + 1) hp)
  have HTP : Asd (tokP (s.data.toList.drop i) = (blobP (s.data.toList.drop (i + 1 + 1))).map fun x => (⟨4, x.1, 0⟩, x.2 + 1)) := Asd.mk (by
    have h := tokP_blob (c := s[i]) (r := s.data.toList.drop (i + 1)) (by rw [hC]; decide) (by rw [HD1.out, hC1]; rfl)
    rw [← HL.out] at h
    rw [h, HD1.out]
    rfl)
  rw [blobP_pairs _ _ (Nat.le_refl _)] at HTP
  clear hC hC1 HD1
  go_enter Tryz.func53, Tryz.ntmps53
  have HS := Asd.mk (TkSt.newAt w i)
  go_upto_region 4 with fail
  generalize (w.alloc (.cells #[.int .i64 0, .string ⟨#[]⟩, .int .i64 0, .int .i64 0] 52)).alloc (.cells #[.int .i64 0, .string ⟨#[]⟩, .int .i64 (i : Int), .int .i64 0] 52) = W at HS ⊢
  have b0 := (blk_cell HS.out.box 0).trans rfl
  have zb0 := blk_frozen HS.out.box 0
  have HS1 := Asd.mk (HS.out.set 0 (.int .i64 4))
  go_wp2_with fail
  refine (rblob_calls s (i + 1) hp hs _).mono ?_
  rintro e w3 ⟨rfl, hb3⟩
  have HS3 := Asd.mk (HS1.out.old hb3)
  clear hb3 b0 zb0
  unfold blE
  generalize hD : s.data.toList.drop (i + 1 + 1) = D at HTP ⊢
  clear hD
  generalize hpp : pairsP D = pp at HTP ⊢
  clear hpp
  obtain ⟨t, n⟩ := pp
  simp only at HTP ⊢
  by_cases h39 : (D.drop n).head? = some 39
  · have HT2 := Asd.mk HTP.out
    rw [if_pos h39] at HT2
    simp only [Option.map_some] at HT2
    rw [decide_eq_true h39]
    clear HTP h39
    have b1 := (blk_cell HS3.out.box 1).trans rfl
    have zb1 := blk_frozen HS3.out.box 1
    have HSc := Asd.mk (HS3.out.set 1 (.string ⟨t.toArray⟩))
    have y0 := (blk_cell HSc.out.box 0).trans rfl
    have y1 := (blk_cell HSc.out.box 1).trans rfl
    have y2 := (blk_cell HSc.out.box 2).trans rfl
    have y3 := (blk_cell HSc.out.box 3).trans rfl
    have r0 := (blk_cell HSc.out.res 0).trans rfl
    have zr0 := blk_frozen HSc.out.res 0
    have r1 := (blk_cell HSc.out.res 1).trans rfl
    have zr1 := blk_frozen HSc.out.res 1
    have r2 := (blk_cell HSc.out.res 2).trans rfl
    have zr2 := blk_frozen HSc.out.res 2
    have r3 := (blk_cell HSc.out.res 3).trans rfl
    have zr3 := blk_frozen HSc.out.res 3
    go_wp2
    refine bodyPost_ret (results_token3 rfl _ _ w.heap.size _ rfl (HSc.out.fin _ _ _ _).1 rfl) rfl ?_
    exact one_some HT2.out (HSc.out.fin _ _ _ _).2 (by rw [show i + (n + 2 + 1) = i + 1 + 1 + n + 1 by omega]; rfl)
  · have HT2 := Asd.mk HTP.out
    rw [if_neg h39] at HT2
    rw [decide_eq_false h39]
    clear HTP h39
    have b1 := (blk_cell HS3.out.box 1).trans rfl
    have zb1 := blk_frozen HS3.out.box 1
    have HSc := Asd.mk (HS3.out.set 1 (.string ⟨t.toArray⟩))
    have y0 := (blk_cell HSc.out.box 0).trans rfl
    have y1 := (blk_cell HSc.out.box 1).trans rfl
    have y2 := (blk_cell HSc.out.box 2).trans rfl
    have y3 := (blk_cell HSc.out.box 3).trans rfl
    have r0 := (blk_cell HSc.out.res 0).trans rfl
    have zr0 := blk_frozen HSc.out.res 0
    have r1 := (blk_cell HSc.out.res 1).trans rfl
    have zr1 := blk_frozen HSc.out.res 1
    have r2 := (blk_cell HSc.out.res 2).trans rfl
    have zr2 := blk_frozen HSc.out.res 2
    have r3 := (blk_cell HSc.out.res 3).trans rfl
    have zr3 := blk_frozen HSc.out.res 3
    go_wp2
    refine bodyPost_ret (results_token3 rfl _ _ w.heap.size _ rfl (HSc.out.fin _ _ _ _).1 rfl) rfl ?_
    exact one_none HT2.out (HSc.out.fin _ _ _ _).2 _ _ _ _ _ rfl
end Go.Proofs.YtcefmhofidoloaaGreatDoor.Lex

/- quarryref12.one: the walk, by hand: symbols. -/
set_option linter.unusedVariables false
set_option linter.unusedSimpArgs false
namespace Go.Proofs.YtcefmhofidoloaaGreatDoor.Lex
open Go.RowKit Go.Proofs.YtcefmhofidoloaaGreatDoor.Base Go.Proofs.YtcefmhofidoloaaGreatDoor.App Go.Proofs.YtcefmhofidoloaaGreatDoor.Byt

set_option maxRecDepth 100000 in
set_option maxHeartbeats 6400000 in
theorem rone_sym (s : ByteArray) (i : Nat) (hi : i < s.size) (hs : s.size ≤ 16384) (w : World) (hx : ¬ s[i].toNat = 120) (hX : ¬ s[i].toNat = 88) (hl : isLet s[i] = false) (hd : isDig s[i] = false) (hq : ¬ s[i].toNat = 39) :
    Calls Tryz.prog 53 #[.string s, .int .i64 (i : Int)] w fun e w' => OneE s i w e w' := by
  have HLN : Asd (s.data.toList.length = s.size) := Asd.mk rfl
  have HL := Asd.mk (drop_cons s i hi)
  have hc8 := s[i].toNat_lt
  have HNX : Asd (¬ ((s[i] = 120 ∨ s[i] = 88) ∧ (s.data.toList.drop (i + 1)).head? = some 39)) := Asd.mk (fun h => by rcases h.1 with h | h; exact hx (by rw [h]; rfl); exact hX (by rw [h]; rfl))
  have HTP : Asd (tokP (s.data.toList.drop i) = if symP (s.data.toList.drop i) = 0 then none else some (⟨5, (s.data.toList.drop i).take (symP (s.data.toList.drop i)), 0⟩, symP (s.data.toList.drop i))) := Asd.mk (by
    have h := tokP_sym (c := s[i]) (r := s.data.toList.drop (i + 1)) HNX.out hl hd (fun h => hq (by rw [h]; rfl))
    rwa [← HL.out] at h)
  have HN : Asd (symP (s.data.toList.drop i) ≤ s.size - i) := Asd.mk (by have := symP_le (s.data.toList.drop i); rw [List.length_drop, HLN.out] at this; exact this)
  have HEL : Asd ((s.extract i s.size).data.toList = s.data.toList.drop i) := Asd.mk (by rw [ext_list, List.take_of_length_le (Nat.le_of_eq HLN.out)])
  have HES : Asd (1 ≤ (s.extract i s.size).size) := Asd.mk (by rw [ext_size]; omega)
  have HLE := Asd.mk hl
  have HDE := Asd.mk hd
  clear hl hd HNX
  go_enter Tryz.func53, Tryz.ntmps53
  have HS := Asd.mk (TkSt.newAt w i)
  go_upto_region 4 with fail
  generalize (w.alloc (.cells #[.int .i64 0, .string ⟨#[]⟩, .int .i64 0, .int .i64 0] 52)).alloc (.cells #[.int .i64 0, .string ⟨#[]⟩, .int .i64 (i : Int), .int .i64 0] 52) = W at HS ⊢
  go_wp2_with fail
  refine (rletter_calls s[i] _).mono ?_
  rintro e w1 ⟨rfl, hb1⟩
  rw [HLE.out]
  have HS1 := Asd.mk (HS.out.old hb1)
  clear hb1
  go_wp2_with fail
  refine (rdigit_calls s[i] _).mono ?_
  rintro e w2 ⟨rfl, hb1⟩
  rw [HDE.out]
  have HS2 := Asd.mk (HS1.out.old hb1)
  clear hb1
  have b0 := (blk_cell HS2.out.box 0).trans rfl
  have zb0 := blk_frozen HS2.out.box 0
  have HS3 := Asd.mk (HS2.out.set 0 (.int .i64 5))
  go_wp2_with fail
  refine (rsymbol_calls (s.extract i s.size) HES.out _).mono ?_
  rintro e w3 ⟨rfl, hb3⟩
  have HS4 := Asd.mk (HS3.out.old hb3)
  clear hb3 b0 zb0
  rw [HEL.out]
  have HTL : Asd (((s.data.toList.drop i).take (symP (s.data.toList.drop i))).length = symP (s.data.toList.drop i)) := Asd.mk (by
    have := HN.out
    rw [List.length_take, List.length_drop, HLN.out]; omega)
  generalize (s.data.toList.drop i).take (symP (s.data.toList.drop i)) = t at HTP HTL ⊢
  rw [← HTL.out] at HTP HN
  have HTZ : Asd ((⟨t.toArray⟩ : ByteArray).size = t.length) := Asd.mk (by show t.toArray.size = _; simp)
  have HTE : Asd ((⟨t.toArray⟩ : ByteArray).toList = t) := Asd.mk (by rw [Lib.toList_data])
  have b1 := (blk_cell HS4.out.box 1).trans rfl
  have zb1 := blk_frozen HS4.out.box 1
  have HSc := Asd.mk (HS4.out.set 1 (.string ⟨t.toArray⟩))
  clear HTL HS HS1 HS2 HS3
  go_upto_region 29 with fail
  have y0 := (blk_cell HSc.out.box 0).trans rfl
  have y1 := (blk_cell HSc.out.box 1).trans rfl
  have y2 := (blk_cell HSc.out.box 2).trans rfl
  have y3 := (blk_cell HSc.out.box 3).trans rfl
  have r0 := (blk_cell HSc.out.res 0).trans rfl
  have zr0 := blk_frozen HSc.out.res 0
  have r1 := (blk_cell HSc.out.res 1).trans rfl
  have zr1 := blk_frozen HSc.out.res 1
  have r2 := (blk_cell HSc.out.res 2).trans rfl
  have zr2 := blk_frozen HSc.out.res 2
  have r3 := (blk_cell HSc.out.res 3).trans rfl
  have zr3 := blk_frozen HSc.out.res 3
  have ht16 : t.length ≤ 16384 := by have := HN.out; omega
  by_cases h0 : t.length = 0
  · obtain rfl : t = [] := List.length_eq_zero_iff.mp h0
    have HT2 := Asd.mk (HTP.out.trans (if_pos rfl))
    clear HTP h0
    go_region
    go_wp2
    refine bodyPost_ret (results_token3 rfl _ _ w.heap.size _ rfl (HSc.out.drew.fin _ _ _ _).1 rfl) rfl ?_
    exact one_none HT2.out (HSc.out.drew.fin _ _ _ _).2 _ _ _ _ _ rfl
  · have HT2 := Asd.mk (HTP.out.trans (if_neg h0))
    have hne : ¬ t = [] := by rintro rfl; exact h0 rfl
    clear HTP
    go_region
    go_wp2
    refine bodyPost_ret (results_token3 rfl _ _ w.heap.size _ rfl (HSc.out.drew.fin _ _ _ _).1 rfl) rfl ?_
    have h9 : ((i + t.length : Nat) : Int) = (i : Int) + (t.length : Int) := by omega
    exact one_some HT2.out (HSc.out.drew.fin _ _ _ _).2 (by
      have h8 : (!t.isEmpty) = true := by
        cases t with
        | nil => exact absurd rfl hne
        | cons a b => rfl
      show Ending.returned (.tuple #[.agg #[.int .i64 5, .string ⟨t.toArray⟩, .int .i64 (i : Nat), .int .i64 0], .int .i64 ((i : Int) + (t.length : Int)), .bool (!t.isEmpty)]) = Ending.returned (.tuple #[.agg #[.int .i64 5, .string ⟨t.toArray⟩, .int .i64 (i : Nat), .int .i64 0], .int .i64 ((i + t.length : Nat) : Int), .bool true])
      rw [h8, h9])
end Go.Proofs.YtcefmhofidoloaaGreatDoor.Lex

/- quarryref12.one: the walk, by hand: all cases. -/
set_option linter.unusedVariables false
set_option linter.unusedSimpArgs false
namespace Go.Proofs.YtcefmhofidoloaaGreatDoor.Lex
open Go.RowKit Go.Proofs.YtcefmhofidoloaaGreatDoor.Base Go.Proofs.YtcefmhofidoloaaGreatDoor.App Go.Proofs.YtcefmhofidoloaaGreatDoor.Byt

theorem rone_calls (s : ByteArray) (i : Nat) (hi : i < s.size) (hs : s.size ≤ 16384) (w : World) :
    Calls Tryz.prog 53 #[.string s, .int .i64 (i : Int)] w fun e w' => OneE s i w e w' := by
  by_cases h1 : s[i].toNat = 120
  · have hl : isLet s[i] = true := by rw [show s[i] = 120 from UInt8.toNat_inj.mp h1]; decide
    by_cases hp : i + 1 < s.size
    · by_cases hq : s[i + 1].toNat = 39
      · exact rone_blob120 s i hi hs w h1 hp hq
      · exact rone_word2 s i hi hs w h1 hp hq hl
    · exact rone_word1 s i hi hs w h1 hp hl
  · by_cases h2 : s[i].toNat = 88
    · have hl : isLet s[i] = true := by rw [show s[i] = 88 from UInt8.toNat_inj.mp h2]; decide
      by_cases hp : i + 1 < s.size
      · by_cases hq : s[i + 1].toNat = 39
        · exact rone_blob88 s i hi hs w h2 hp hq
        · exact rone_word4 s i hi hs w h2 hp hq hl
      · exact rone_word3 s i hi hs w h2 hp hl
    · cases hl : isLet s[i] with
      | true => exact rone_word5 s i hi hs w h1 h2 hl
      | false => cases hd : isDig s[i] with
        | true => exact rone_num s i hi hs w h1 h2 hl hd
        | false =>
          by_cases hq : s[i].toNat = 39
          · exact rone_text s i hi hs w h1 h2 hq
          · exact rone_sym s i hi hs w h1 h2 hl hd hq
end Go.Proofs.YtcefmhofidoloaaGreatDoor.Lex

/- quarryref12.Tokens: the walk, by hand. -/
set_option linter.unusedVariables false
set_option linter.unusedSimpArgs false
namespace Go.Proofs.YtcefmhofidoloaaGreatDoor.Lex
open Go.RowKit Go.Proofs.YtcefmhofidoloaaGreatDoor.Base Go.Proofs.YtcefmhofidoloaaGreatDoor.App Go.Proofs.YtcefmhofidoloaaGreatDoor.Byt

theorem load_flt {w : World} {g : Nat} {cs : Array Value} (hg : w.heap[g]? = some (.cells cs 35 (0, 0))) (h2 : cs.size = 2) : (loadVar 35 ⟨g, 0, none⟩).run Tryz.prog w = .ok (.agg cs) w :=
  run_loadVar_row w g 35 35 cs (0, 0) _ hg Tryz.underlying35 rfl (by rw [h2]; kernel_rfl)
theorem results_toks {fn : Func} {p u : Tmp} (h : fn.results = #[.tmp u, .cell p 35]) (tmps : Array Value) (w : World) (g : Nat) (cs : Array Value)
    (hp : tmps.getD p undef = .pointer (some ⟨g, 0, none⟩)) (hg : w.heap[g]? = some (.cells cs 35 (0, 0))) (h2 : cs.size = 2) :
    (results fn tmps).run Tryz.prog w = .ok (.tuple #[tmps.getD u undef, .agg cs]) w := by
  have e : (results fn tmps).run Tryz.prog w = ((asAddr (tmps.getD p undef)).run Tryz.prog w).andThen fun a w₁ => ((loadVar 35 a).run Tryz.prog w₁).andThen fun x w₂ => .ok (.tuple #[tmps.getD u undef, x]) w₂ := by
    simp only [results, h]
    simp [Sem.run_bind, Result.andThen]
  rw [e, hp]
  simp [asAddr, load_flt hg h2, Result.andThen]
theorem own_far {W : World} {B : Nat} {e : TypeId} {sz : Nat} {v : Value} {n : Nat} {xs : List Value} (h : W.ownsRow B e sz v n xs) {p : Addr} (hp : p.block < B) (u : Value) : (W.setCell p u).ownsRow B e sz v n xs := by
  refine ⟨h.1, ?_⟩
  rcases h.2 with h0 | ⟨g, cap, cur, he, hb, hh, r⟩
  · exact .inl h0
  · exact .inr ⟨g, cap, cur, he, hb, blk_far hh (by omega) u, r⟩
theorem own_lower {W : World} {B B' : Nat} {e : TypeId} {sz : Nat} {v : Value} {n : Nat} {xs : List Value} (h : W.ownsRow B e sz v n xs) (hB : B' ≤ B) : W.ownsRow B' e sz v n xs := by
  refine ⟨h.1, ?_⟩
  rcases h.2 with h0 | ⟨g, cap, cur, he, hb, hh, r⟩
  · exact .inl h0
  · exact .inr ⟨g, cap, cur, he, by omega, hh, r⟩
theorem takeW_all : ∀ q : List UInt8, ¬ 10 ∈ q → q.takeWhile (· != 10) = q
  | [], _ => rfl
  | c :: r, h => by
    have h1 : c ≠ 10 := by rintro rfl; exact h (by simp)
    have h2 : ¬ 10 ∈ r := fun h' => h (List.mem_cons_of_mem _ h')
    rw [List.takeWhile_cons, if_pos (by simpa using h1), takeW_all r h2]
/-- Behind a remark. -/
theorem LexSt.rem {l : List UInt8} {done : List (Tk × Nat)} {k : Nat} {c : UInt8} {r : List UInt8} (h : LexSt l done k) (hk : l.drop k = c :: r) (hc : c = 45) (hr : r.head? = some 45) : LexSt l done (k + ((l.drop k).takeWhile (· != 10)).length) := by
  by_cases hm : 10 ∈ l.drop k
  · exact h.note hk hc hr hm
  · have hl := h.last hk hc hr hm
    obtain ⟨h1, h2, h3⟩ := drop_len hk
    have e := takeW_all (l.drop k) hm
    rw [e, List.length_drop, show k + (l.length - k) = l.length by omega]
    refine ⟨0, by omega, ?_⟩
    rw [hl, List.drop_length]
    simp [toksP, addT]
/-- How the reference's Tokens ends. -/
def RefE (l : List UInt8) (w : World) (e : Ending) (w' : World) : Prop :=
  Below w.heap.size w w' ∧ if 16384 < l.length then e = .returned (.tuple #[.slice none 0 0, .agg #[.int .i64 0, .int .i64 8]]) else match lexT l with
  | .ok ts => ∃ A m c, e = .returned (.tuple #[.slice A m c, .agg #[.int .i64 0, .int .i64 0]]) ∧ m = ts.length ∧ w'.ownsRow w.heap.size 52 4 (.slice A m c) m (tkCells ts)
  | .error k => e = .returned (.tuple #[.slice none 0 0, .agg #[.int .i64 (k : Int), .int .i64 20]])
theorem ref_ok {l : List UInt8} {w w' : World} {e : Ending} {ts : List (Tk × Nat)} {A : Option Addr} {m c : Nat} (h : ¬ 16384 < l.length) (hl : lexT l = .ok ts) (hb : Below w.heap.size w w') (he : e = .returned (.tuple #[.slice A m c, .agg #[.int .i64 0, .int .i64 0]])) (hm : m = ts.length) (ho : w'.ownsRow (w.heap.size + 1) 52 4 (.slice A m c) m (tkCells ts)) : RefE l w e w' :=
  ⟨hb, by rw [if_neg h, hl]; exact ⟨A, m, c, he, hm, own_lower ho (Nat.le_succ _)⟩⟩
theorem ref_bad {l : List UInt8} {w w' : World} {e : Ending} {k : Nat} (h : ¬ 16384 < l.length) (hl : lexT l = .error k) (hb : Below w.heap.size w w') (he : e = .returned (.tuple #[.slice none 0 0, .agg #[.int .i64 (k : Int), .int .i64 20]])) : RefE l w e w' :=
  ⟨hb, by rw [if_neg h, hl]; exact he⟩
theorem ref_long {l : List UInt8} {w w' : World} {e : Ending} (h : 16384 < l.length) (hb : Below w.heap.size w w') (he : e = .returned (.tuple #[.slice none 0 0, .agg #[.int .i64 0, .int .i64 8]])) : RefE l w e w' :=
  ⟨hb, by rw [if_pos h]; exact he⟩

set_option maxRecDepth 100000 in
set_option maxHeartbeats 1600000 in
theorem rtokens_long (s : ByteArray) (w : World) (hs : 16384 < s.size) :
    Calls Tryz.prog 15 #[.string s] w fun e w' => RefE s.data.toList w e w' := by
  have HL := Asd.mk (show 16384 < s.data.toList.length from hs)
  have HB := Asd.mk (below_alloc (Below.refl w.heap.size w) (.cells #[.int .i64 0, .int .i64 0] 35))
  have HN := Asd.mk (blk_new w (.cells #[.int .i64 0, .int .i64 0] 35))
  go_enter Tryz.func15, Tryz.ntmps15
  go_upto_region 2 with fail
  generalize w.alloc (.cells #[.int .i64 0, .int .i64 0] 35) = W at HB HN ⊢
  have r0 := (blk_cell HN.out 0).trans rfl
  have r1 := (blk_cell HN.out 1).trans rfl
  have z0 := blk_frozen HN.out 0
  have z1 := blk_frozen HN.out 1
  have HF := Asd.mk ((blk_set (blk_set HN.out 0 (.int .i64 0)) 1 (.int .i64 8)).trans rfl)
  have HB2 := Asd.mk ((HB.out.setCell (p := ⟨w.heap.size, 0, none⟩) (Nat.le_refl _) (.int .i64 0)).setCell (p := ⟨w.heap.size, 1, none⟩) (Nat.le_refl _) (.int .i64 8))
  go_wp2
  refine bodyPost_ret (results_toks rfl _ _ w.heap.size _ rfl HF.out rfl) rfl ?_
  exact ref_long HL.out HB2.out rfl

set_option maxRecDepth 100000 in
set_option maxHeartbeats 12800000 in
theorem rtokens_short (s : ByteArray) (w : World) (hs : ¬ 16384 < s.size) :
    Calls Tryz.prog 15 #[.string s] w fun e w' => RefE s.data.toList w e w' := by
  have hs16 : s.size ≤ 16384 := by omega
  have HNL := Asd.mk (show ¬ 16384 < s.data.toList.length from hs)
  have HLN : Asd (s.data.toList.length = s.size) := Asd.mk rfl
  have HB0 := Asd.mk (below_alloc (Below.refl w.heap.size w) (.cells #[.int .i64 0, .int .i64 0] 35))
  have HF0 := Asd.mk (blk_new w (.cells #[.int .i64 0, .int .i64 0] 35))
  go_enter Tryz.func15, Tryz.ntmps15
  go_upto_region 3 with fail
  generalize w.alloc (.cells #[.int .i64 0, .int .i64 0] 35) = W at HB0 HF0 ⊢
  go_wp2
  go_loopw [4, 5] (fun v4 v5 wr => ∃ (k : Nat) (done : List (Tk × Nat)) (A : Option Addr) (m c : Nat), k ≤ s.size ∧ v4 = .slice A m c ∧ v5 = .int .i64 (k : Int) ∧ Asd (m = done.length) ∧ Asd (done.length ≤ k) ∧ Asd (LexSt s.data.toList done k) ∧ Asd (wr.ownsRow (w.heap.size + 1) 52 4 (.slice A m c) m (tkCells done)) ∧ Asd (Below w.heap.size w wr) ∧ Asd (wr.heap[w.heap.size]? = some (.cells #[.int .i64 0, .int .i64 0] 35 (0, 0)))) (fun _ v5 _ => s.size - (intOf v5).toNat)
  case atStart => exact ⟨0, [], none, 0, 0, by omega, rfl, rfl, ⟨rfl⟩, ⟨Nat.le_refl _⟩, ⟨LexSt.start _⟩, ⟨World.ownsRow_nil _ _ _ _⟩, HB0, HF0⟩
  case round =>
    obtain ⟨k, done, A, m, c, hk, rfl, rfl, HM, HDK, HS, HO, HB, HFL⟩ := hrel
    by_cases hlt : k < s.size
    · have HD := Asd.mk (drop_cons s k hlt)
      have hc8 := s[k].toNat_lt
      by_cases hb32 : s[k].toNat = 32
      · have HS2 := Asd.mk (HS.out.blank HD.out (by unfold isBl; rw [show s[k] = 32 from UInt8.toNat_inj.mp hb32]; decide))
        go_wp2
        go_roundw
        case rel => exact ⟨k + 1, done, A, m, c, by omega, rfl, by go_num, HM, ⟨by have := HDK.out; omega⟩, HS2, HO, HB, HFL⟩
        case measure => simp [intOf]; omega
      · skip
        by_cases hb9 : s[k].toNat = 9
        · have HS2 := Asd.mk (HS.out.blank HD.out (by unfold isBl; rw [show s[k] = 9 from UInt8.toNat_inj.mp hb9]; decide))
          go_wp2
          go_roundw
          case rel => exact ⟨k + 1, done, A, m, c, by omega, rfl, by go_num, HM, ⟨by have := HDK.out; omega⟩, HS2, HO, HB, HFL⟩
          case measure => simp [intOf]; omega
        · skip
          by_cases hb10 : s[k].toNat = 10
          · have HS2 := Asd.mk (HS.out.blank HD.out (by unfold isBl; rw [show s[k] = 10 from UInt8.toNat_inj.mp hb10]; decide))
            go_wp2
            go_roundw
            case rel => exact ⟨k + 1, done, A, m, c, by omega, rfl, by go_num, HM, ⟨by have := HDK.out; omega⟩, HS2, HO, HB, HFL⟩
            case measure => simp [intOf]; omega
          · skip
            by_cases hb13 : s[k].toNat = 13
            · have HS2 := Asd.mk (HS.out.blank HD.out (by unfold isBl; rw [show s[k] = 13 from UInt8.toNat_inj.mp hb13]; decide))
              go_wp2
              go_roundw
              case rel => exact ⟨k + 1, done, A, m, c, by omega, rfl, by go_num, HM, ⟨by have := HDK.out; omega⟩, HS2, HO, HB, HFL⟩
              case measure => simp [intOf]; omega
            · skip
              by_cases hb45 : s[k].toNat = 45
              · by_cases hp : k + 1 < s.size
                · have hc9 := s[k + 1].toNat_lt
                  by_cases hq : s[k + 1].toNat = 45
                  · have HS2 := Asd.mk (HS.out.rem HD.out (UInt8.toNat_inj.mp hb45) (by rw [drop_cons s (k + 1) hp]; exact congrArg some (UInt8.toNat_inj.mp hq)))
                    have HT1 : Asd (1 ≤ ((s.data.toList.drop k).takeWhile (· != 10)).length) := Asd.mk (by rw [HD.out, show s[k] = 45 from UInt8.toNat_inj.mp hb45, List.takeWhile_cons]; simp)
                    go_wp2
                    go_loopw [5] (fun v w2 => ∃ j : Nat, j ≤ s.size ∧ v = .int .i64 (j : Int) ∧ Asd (k ≤ j) ∧ Asd (((s.data.toList.drop k).takeWhile (· != 10)).length = j - k + ((s.data.toList.drop j).takeWhile (· != 10)).length) ∧ w2 = wr) (fun v _ => s.size - (intOf v).toNat)
                    case atStart => exact ⟨k, by omega, rfl, ⟨Nat.le_refl _⟩, ⟨by simp⟩, rfl⟩
                    case round =>
                      obtain ⟨j, hj, rfl, HKJ, HTJ, rfl⟩ := hrel
                      by_cases hlj : j < s.size
                      · have HDJ := Asd.mk (drop_cons s j hlj)
                        have hj8 := s[j].toNat_lt
                        by_cases hj10 : s[j].toNat = 10
                        · have HTE : Asd (((s.data.toList.drop k).takeWhile (· != 10)).length = j - k) := Asd.mk (by rw [HTJ.out, HDJ.out, show s[j] = 10 from UInt8.toNat_inj.mp hj10, List.takeWhile_cons, if_neg (by decide)]; rfl)
                          have HS3 := Asd.mk HS2.out
                          rw [HTE.out] at HS3 HT1
                          have hkj := HKJ.out
                          have hk1 := HT1.out
                          rw [show k + (j - k) = j by omega] at HS3
                          clear HS2 HTJ HTE HT1 HS
                          go_wp2
                          go_roundw
                          case rel => exact ⟨j, done, A, m, c, by omega, rfl, by go_num, HM, ⟨by have := HDK.out; omega⟩, HS3, HO, HB, HFL⟩
                          case measure => simp [intOf]; omega
                        · have HTN : Asd (((s.data.toList.drop k).takeWhile (· != 10)).length = j + 1 - k + ((s.data.toList.drop (j + 1)).takeWhile (· != 10)).length) := Asd.mk (by
                            have := HKJ.out
                            rw [HTJ.out, HDJ.out, List.takeWhile_cons, if_pos (by simp only [bne_iff_ne, ne_eq]; intro h; exact hj10 (by rw [h]; rfl)), List.length_cons]
                            omega)
                          go_wp2
                          go_roundw
                          case rel => exact ⟨j + 1, by omega, by go_num, ⟨by have := HKJ.out; omega⟩, HTN, by first | trivial | rfl⟩
                          case measure => simp [intOf]; omega
                      · have HTE : Asd (((s.data.toList.drop k).takeWhile (· != 10)).length = j - k) := Asd.mk (by rw [HTJ.out, List.drop_of_length_le (by rw [HLN.out]; omega)]; rfl)
                        have HS3 := Asd.mk HS2.out
                        rw [HTE.out] at HS3 HT1
                        have hkj := HKJ.out
                        have hk1 := HT1.out
                        rw [show k + (j - k) = j by omega] at HS3
                        clear HS2 HTJ HTE HT1 HS
                        go_wp2
                        go_roundw
                        case rel => exact ⟨j, done, A, m, c, by omega, rfl, by go_num, HM, ⟨by have := HDK.out; omega⟩, HS3, HO, HB, HFL⟩
                        case measure => simp [intOf]; omega
                  · have HNB : Asd (¬ isBl s[k]) := Asd.mk (by intro h; unfold isBl at h; rcases h with h | h | h | h; exact hb32 (by rw [h]; rfl); exact hb9 (by rw [h]; rfl); exact hb10 (by rw [h]; rfl); exact hb13 (by rw [h]; rfl))
                    have HNN : Asd (¬ (s[k] = 45 ∧ (s.data.toList.drop (k + 1)).head? = some 45)) := Asd.mk (by rintro ⟨_, h⟩; rw [drop_cons s (k + 1) hp] at h; simp only [List.head?_cons, Option.some.injEq] at h; exact hq (by rw [h]; rfl))
                    go_wp2_with fail
                    refine (rone_calls s k hlt (by omega) _).mono ?_
                    rintro e w1 ⟨hb1, he⟩
                    have HB1 : Asd (Below w.heap.size w w1) := Asd.mk (HB.out.trans (hb1.mono HB.out.size))
                    have HO1 := Asd.mk (own_below HO.out hb1)
                    have HF1 := Asd.mk (blk_below hb1 HFL.out)
                    clear hb1
                    cases hx : tokP (s.data.toList.drop k) with
                    | none =>
                      rw [hx] at he
                      obtain ⟨a, b, q, d, z, rfl⟩ := he
                      have HR := Asd.mk (HS.out.bad HD.out HNB.out HNN.out hx)
                      clear hx
                      have HB2 := Asd.mk (below_alloc HB1.out (.cells #[.int .i64 a, .string b, .int .i64 q, .int .i64 d] 52))
                      have HF2 := Asd.mk (blk_alloc HF1.out (.cells #[.int .i64 a, .string b, .int .i64 q, .int .i64 d] 52))
                      go_upto_region 14 with fail
                      generalize w1.alloc (.cells #[.int .i64 a, .string b, .int .i64 q, .int .i64 d] 52) = W2 at HB2 HF2 ⊢
                      have r0 := (blk_cell HF2.out 0).trans rfl
                      have r1 := (blk_cell HF2.out 1).trans rfl
                      have z0 := blk_frozen HF2.out 0
                      have z1 := blk_frozen HF2.out 1
                      have HF3 := Asd.mk ((blk_set (blk_set HF2.out 0 (.int .i64 (k : Int))) 1 (.int .i64 20)).trans rfl)
                      have HB3 := Asd.mk ((HB2.out.setCell (p := ⟨w.heap.size, 0, none⟩) (Nat.le_refl _) (.int .i64 (k : Int))).setCell (p := ⟨w.heap.size, 1, none⟩) (Nat.le_refl _) (.int .i64 20))
                      go_wp2
                      refine bodyPost_ret (results_toks rfl _ _ w.heap.size _ rfl HF3.out rfl) rfl ?_
                      exact ref_bad HNL.out HR.out HB3.out rfl
                    | some x =>
                      rw [hx] at he
                      obtain ⟨t, n⟩ := x
                      obtain rfl := he
                      have HS2 := Asd.mk (HS.out.word HD.out HNB.out HNN.out hx)
                      have hn := tokP_le hx
                      rw [List.length_drop, HLN.out] at hn
                      obtain ⟨hn1, hn2⟩ := hn
                      simp only at hn1 hn2
                      have hnk : k + n ≤ s.size := by omega
                      clear hx
                      have HB2 := Asd.mk (below_alloc HB1.out (.cells #[.int .i64 (t.kind : Int), .string ⟨t.text.toArray⟩, .int .i64 (k : Int), .int .i64 t.num] 52))
                      have HF2 := Asd.mk (blk_alloc HF1.out (.cells #[.int .i64 (t.kind : Int), .string ⟨t.text.toArray⟩, .int .i64 (k : Int), .int .i64 t.num] 52))
                      have HO2 := Asd.mk (HO1.out.alloc (.cells #[.int .i64 (t.kind : Int), .string ⟨t.text.toArray⟩, .int .i64 (k : Int), .int .i64 t.num] 52))
                      have HN2 := Asd.mk (blk_new w1 (.cells #[.int .i64 (t.kind : Int), .string ⟨t.text.toArray⟩, .int .i64 (k : Int), .int .i64 t.num] 52))
                      go_upto_region 15 with fail
                      generalize w1.alloc (.cells #[.int .i64 (t.kind : Int), .string ⟨t.text.toArray⟩, .int .i64 (k : Int), .int .i64 t.num] 52) = W3 at HB2 HF2 HO2 HN2 ⊢
                      have y0 := (blk_cell HN2.out 0).trans rfl
                      have y1 := (blk_cell HN2.out 1).trans rfl
                      have y2 := (blk_cell HN2.out 2).trans rfl
                      have y3 := (blk_cell HN2.out 3).trans rfl
                      have HO4 := Asd.mk (HO2.out.alloc (.cells #[.int .i64 (t.kind : Int), .string ⟨t.text.toArray⟩, .int .i64 (k : Int), .int .i64 t.num] 52))
                      have HSRC := Asd.mk (Feeds.of_block (size := 4) (m := 1) (c := 1) (blk_new W3 (.cells #[.int .i64 (t.kind : Int), .string ⟨t.text.toArray⟩, .int .i64 (k : Int), .int .i64 t.num] 52)) rfl (by simp [Value.oneCell']))
                      have hmm : m ≤ 16384 := by have := HM.out; have := HDK.out; omega
                      have HWS : Asd (w.heap.size + 1 ≤ (W3.alloc (.cells #[.int .i64 (t.kind : Int), .string ⟨t.text.toArray⟩, .int .i64 (k : Int), .int .i64 t.num] 52)).heap.size) := Asd.mk (by have := HB2.out.size; simp; omega)
                      clear HN2
                      go_wp2_with (at_builtin; refine wpList_src rfl (.tmp 76) (.tmp 78) _ rfl rowT _ rfl HO4.out (some ⟨W3.heap.size, 0, none⟩) 1 1 rfl HSRC.out (by unfold maxLen; omega) (by omega) HWS.out ?_)
                      intro A9 c9 w9 ho9 hg9
                      have HB9 : Asd (Below w.heap.size w w9) := Asd.mk (below_own (below_alloc HB2.out _) (own_lower HO4.out (Nat.le_succ _)) hg9 (Nat.le_refl _))
                      have HF9 : Asd (w9.heap[w.heap.size]? = some (.cells #[.int .i64 0, .int .i64 0] 35 (0, 0))) := Asd.mk ((hg9.block w.heap.size (by have := blk_lt HF2.out; simp; omega) (fun e => by have := HO4.out.lt _ e.symm; omega)).trans (blk_alloc HF2.out _))
                      have HO9 : Asd (w9.ownsRow (w.heap.size + 1) 52 4 (.slice A9 (m + 1) c9) (m + 1) (tkCells (done ++ [(t, k)]))) := Asd.mk (by rw [tkCells_snoc]; exact ho9)
                      clear ho9 hg9
                      go_wp2
                      go_roundw
                      case rel => exact ⟨k + n, done ++ [(t, k)], A9, m + 1, c9, hnk, rfl, by go_num, ⟨by have := HM.out; simp; omega⟩, ⟨by have := HDK.out; simp; omega⟩, HS2, HO9, HB9, HF9⟩
                      case measure => simp [intOf]; omega
                · have HNB : Asd (¬ isBl s[k]) := Asd.mk (by intro h; unfold isBl at h; rcases h with h | h | h | h; exact hb32 (by rw [h]; rfl); exact hb9 (by rw [h]; rfl); exact hb10 (by rw [h]; rfl); exact hb13 (by rw [h]; rfl))
                  have HNN : Asd (¬ (s[k] = 45 ∧ (s.data.toList.drop (k + 1)).head? = some 45)) := Asd.mk (by rintro ⟨_, h⟩; rw [List.drop_of_length_le (by rw [HLN.out]; omega)] at h; simp at h)
                  go_wp2_with fail
                  refine (rone_calls s k hlt (by omega) _).mono ?_
                  rintro e w1 ⟨hb1, he⟩
                  have HB1 : Asd (Below w.heap.size w w1) := Asd.mk (HB.out.trans (hb1.mono HB.out.size))
                  have HO1 := Asd.mk (own_below HO.out hb1)
                  have HF1 := Asd.mk (blk_below hb1 HFL.out)
                  clear hb1
                  cases hx : tokP (s.data.toList.drop k) with
                  | none =>
                    rw [hx] at he
                    obtain ⟨a, b, q, d, z, rfl⟩ := he
                    have HR := Asd.mk (HS.out.bad HD.out HNB.out HNN.out hx)
                    clear hx
                    have HB2 := Asd.mk (below_alloc HB1.out (.cells #[.int .i64 a, .string b, .int .i64 q, .int .i64 d] 52))
                    have HF2 := Asd.mk (blk_alloc HF1.out (.cells #[.int .i64 a, .string b, .int .i64 q, .int .i64 d] 52))
                    go_upto_region 14 with fail
                    generalize w1.alloc (.cells #[.int .i64 a, .string b, .int .i64 q, .int .i64 d] 52) = W2 at HB2 HF2 ⊢
                    have r0 := (blk_cell HF2.out 0).trans rfl
                    have r1 := (blk_cell HF2.out 1).trans rfl
                    have z0 := blk_frozen HF2.out 0
                    have z1 := blk_frozen HF2.out 1
                    have HF3 := Asd.mk ((blk_set (blk_set HF2.out 0 (.int .i64 (k : Int))) 1 (.int .i64 20)).trans rfl)
                    have HB3 := Asd.mk ((HB2.out.setCell (p := ⟨w.heap.size, 0, none⟩) (Nat.le_refl _) (.int .i64 (k : Int))).setCell (p := ⟨w.heap.size, 1, none⟩) (Nat.le_refl _) (.int .i64 20))
                    go_wp2
                    refine bodyPost_ret (results_toks rfl _ _ w.heap.size _ rfl HF3.out rfl) rfl ?_
                    exact ref_bad HNL.out HR.out HB3.out rfl
                  | some x =>
                    rw [hx] at he
                    obtain ⟨t, n⟩ := x
                    obtain rfl := he
                    have HS2 := Asd.mk (HS.out.word HD.out HNB.out HNN.out hx)
                    have hn := tokP_le hx
                    rw [List.length_drop, HLN.out] at hn
                    obtain ⟨hn1, hn2⟩ := hn
                    simp only at hn1 hn2
                    have hnk : k + n ≤ s.size := by omega
                    clear hx
                    have HB2 := Asd.mk (below_alloc HB1.out (.cells #[.int .i64 (t.kind : Int), .string ⟨t.text.toArray⟩, .int .i64 (k : Int), .int .i64 t.num] 52))
                    have HF2 := Asd.mk (blk_alloc HF1.out (.cells #[.int .i64 (t.kind : Int), .string ⟨t.text.toArray⟩, .int .i64 (k : Int), .int .i64 t.num] 52))
                    have HO2 := Asd.mk (HO1.out.alloc (.cells #[.int .i64 (t.kind : Int), .string ⟨t.text.toArray⟩, .int .i64 (k : Int), .int .i64 t.num] 52))
                    have HN2 := Asd.mk (blk_new w1 (.cells #[.int .i64 (t.kind : Int), .string ⟨t.text.toArray⟩, .int .i64 (k : Int), .int .i64 t.num] 52))
                    go_upto_region 15 with fail
                    generalize w1.alloc (.cells #[.int .i64 (t.kind : Int), .string ⟨t.text.toArray⟩, .int .i64 (k : Int), .int .i64 t.num] 52) = W3 at HB2 HF2 HO2 HN2 ⊢
                    have y0 := (blk_cell HN2.out 0).trans rfl
                    have y1 := (blk_cell HN2.out 1).trans rfl
                    have y2 := (blk_cell HN2.out 2).trans rfl
                    have y3 := (blk_cell HN2.out 3).trans rfl
                    have HO4 := Asd.mk (HO2.out.alloc (.cells #[.int .i64 (t.kind : Int), .string ⟨t.text.toArray⟩, .int .i64 (k : Int), .int .i64 t.num] 52))
                    have HSRC := Asd.mk (Feeds.of_block (size := 4) (m := 1) (c := 1) (blk_new W3 (.cells #[.int .i64 (t.kind : Int), .string ⟨t.text.toArray⟩, .int .i64 (k : Int), .int .i64 t.num] 52)) rfl (by simp [Value.oneCell']))
                    have hmm : m ≤ 16384 := by have := HM.out; have := HDK.out; omega
                    have HWS : Asd (w.heap.size + 1 ≤ (W3.alloc (.cells #[.int .i64 (t.kind : Int), .string ⟨t.text.toArray⟩, .int .i64 (k : Int), .int .i64 t.num] 52)).heap.size) := Asd.mk (by have := HB2.out.size; simp; omega)
                    clear HN2
                    go_wp2_with (at_builtin; refine wpList_src rfl (.tmp 76) (.tmp 78) _ rfl rowT _ rfl HO4.out (some ⟨W3.heap.size, 0, none⟩) 1 1 rfl HSRC.out (by unfold maxLen; omega) (by omega) HWS.out ?_)
                    intro A9 c9 w9 ho9 hg9
                    have HB9 : Asd (Below w.heap.size w w9) := Asd.mk (below_own (below_alloc HB2.out _) (own_lower HO4.out (Nat.le_succ _)) hg9 (Nat.le_refl _))
                    have HF9 : Asd (w9.heap[w.heap.size]? = some (.cells #[.int .i64 0, .int .i64 0] 35 (0, 0))) := Asd.mk ((hg9.block w.heap.size (by have := blk_lt HF2.out; simp; omega) (fun e => by have := HO4.out.lt _ e.symm; omega)).trans (blk_alloc HF2.out _))
                    have HO9 : Asd (w9.ownsRow (w.heap.size + 1) 52 4 (.slice A9 (m + 1) c9) (m + 1) (tkCells (done ++ [(t, k)]))) := Asd.mk (by rw [tkCells_snoc]; exact ho9)
                    clear ho9 hg9
                    go_wp2
                    go_roundw
                    case rel => exact ⟨k + n, done ++ [(t, k)], A9, m + 1, c9, hnk, rfl, by go_num, ⟨by have := HM.out; simp; omega⟩, ⟨by have := HDK.out; simp; omega⟩, HS2, HO9, HB9, HF9⟩
                    case measure => simp [intOf]; omega
              · have hq32 : ((s[k].toNat : Int) == 32) = false := beq_eq_false_iff_ne.mpr (by omega)
                have hq9 : ((s[k].toNat : Int) == 9) = false := beq_eq_false_iff_ne.mpr (by omega)
                have hq10 : ((s[k].toNat : Int) == 10) = false := beq_eq_false_iff_ne.mpr (by omega)
                have hq13 : ((s[k].toNat : Int) == 13) = false := beq_eq_false_iff_ne.mpr (by omega)
                have hq45 : ((s[k].toNat : Int) == 45) = false := beq_eq_false_iff_ne.mpr (by omega)
                have HNB : Asd (¬ isBl s[k]) := Asd.mk (by intro h; unfold isBl at h; rcases h with h | h | h | h; exact hb32 (by rw [h]; rfl); exact hb9 (by rw [h]; rfl); exact hb10 (by rw [h]; rfl); exact hb13 (by rw [h]; rfl))
                have HNN : Asd (¬ (s[k] = 45 ∧ (s.data.toList.drop (k + 1)).head? = some 45)) := Asd.mk (by rintro ⟨h, _⟩; exact hb45 (by rw [h]; rfl))
                go_wp2_with fail
                refine (rone_calls s k hlt (by omega) _).mono ?_
                rintro e w1 ⟨hb1, he⟩
                have HB1 : Asd (Below w.heap.size w w1) := Asd.mk (HB.out.trans (hb1.mono HB.out.size))
                have HO1 := Asd.mk (own_below HO.out hb1)
                have HF1 := Asd.mk (blk_below hb1 HFL.out)
                clear hb1
                cases hx : tokP (s.data.toList.drop k) with
                | none =>
                  rw [hx] at he
                  obtain ⟨a, b, q, d, z, rfl⟩ := he
                  have HR := Asd.mk (HS.out.bad HD.out HNB.out HNN.out hx)
                  clear hx
                  have HB2 := Asd.mk (below_alloc HB1.out (.cells #[.int .i64 a, .string b, .int .i64 q, .int .i64 d] 52))
                  have HF2 := Asd.mk (blk_alloc HF1.out (.cells #[.int .i64 a, .string b, .int .i64 q, .int .i64 d] 52))
                  go_upto_region 14 with fail
                  generalize w1.alloc (.cells #[.int .i64 a, .string b, .int .i64 q, .int .i64 d] 52) = W2 at HB2 HF2 ⊢
                  have r0 := (blk_cell HF2.out 0).trans rfl
                  have r1 := (blk_cell HF2.out 1).trans rfl
                  have z0 := blk_frozen HF2.out 0
                  have z1 := blk_frozen HF2.out 1
                  have HF3 := Asd.mk ((blk_set (blk_set HF2.out 0 (.int .i64 (k : Int))) 1 (.int .i64 20)).trans rfl)
                  have HB3 := Asd.mk ((HB2.out.setCell (p := ⟨w.heap.size, 0, none⟩) (Nat.le_refl _) (.int .i64 (k : Int))).setCell (p := ⟨w.heap.size, 1, none⟩) (Nat.le_refl _) (.int .i64 20))
                  go_wp2
                  refine bodyPost_ret (results_toks rfl _ _ w.heap.size _ rfl HF3.out rfl) rfl ?_
                  exact ref_bad HNL.out HR.out HB3.out rfl
                | some x =>
                  rw [hx] at he
                  obtain ⟨t, n⟩ := x
                  obtain rfl := he
                  have HS2 := Asd.mk (HS.out.word HD.out HNB.out HNN.out hx)
                  have hn := tokP_le hx
                  rw [List.length_drop, HLN.out] at hn
                  obtain ⟨hn1, hn2⟩ := hn
                  simp only at hn1 hn2
                  have hnk : k + n ≤ s.size := by omega
                  clear hx
                  have HB2 := Asd.mk (below_alloc HB1.out (.cells #[.int .i64 (t.kind : Int), .string ⟨t.text.toArray⟩, .int .i64 (k : Int), .int .i64 t.num] 52))
                  have HF2 := Asd.mk (blk_alloc HF1.out (.cells #[.int .i64 (t.kind : Int), .string ⟨t.text.toArray⟩, .int .i64 (k : Int), .int .i64 t.num] 52))
                  have HO2 := Asd.mk (HO1.out.alloc (.cells #[.int .i64 (t.kind : Int), .string ⟨t.text.toArray⟩, .int .i64 (k : Int), .int .i64 t.num] 52))
                  have HN2 := Asd.mk (blk_new w1 (.cells #[.int .i64 (t.kind : Int), .string ⟨t.text.toArray⟩, .int .i64 (k : Int), .int .i64 t.num] 52))
                  go_upto_region 15 with fail
                  generalize w1.alloc (.cells #[.int .i64 (t.kind : Int), .string ⟨t.text.toArray⟩, .int .i64 (k : Int), .int .i64 t.num] 52) = W3 at HB2 HF2 HO2 HN2 ⊢
                  have y0 := (blk_cell HN2.out 0).trans rfl
                  have y1 := (blk_cell HN2.out 1).trans rfl
                  have y2 := (blk_cell HN2.out 2).trans rfl
                  have y3 := (blk_cell HN2.out 3).trans rfl
                  have HO4 := Asd.mk (HO2.out.alloc (.cells #[.int .i64 (t.kind : Int), .string ⟨t.text.toArray⟩, .int .i64 (k : Int), .int .i64 t.num] 52))
                  have HSRC := Asd.mk (Feeds.of_block (size := 4) (m := 1) (c := 1) (blk_new W3 (.cells #[.int .i64 (t.kind : Int), .string ⟨t.text.toArray⟩, .int .i64 (k : Int), .int .i64 t.num] 52)) rfl (by simp [Value.oneCell']))
                  have hmm : m ≤ 16384 := by have := HM.out; have := HDK.out; omega
                  have HWS : Asd (w.heap.size + 1 ≤ (W3.alloc (.cells #[.int .i64 (t.kind : Int), .string ⟨t.text.toArray⟩, .int .i64 (k : Int), .int .i64 t.num] 52)).heap.size) := Asd.mk (by have := HB2.out.size; simp; omega)
                  clear HN2
                  go_wp2_with (at_builtin; refine wpList_src rfl (.tmp 76) (.tmp 78) _ rfl rowT _ rfl HO4.out (some ⟨W3.heap.size, 0, none⟩) 1 1 rfl HSRC.out (by unfold maxLen; omega) (by omega) HWS.out ?_)
                  intro A9 c9 w9 ho9 hg9
                  have HB9 : Asd (Below w.heap.size w w9) := Asd.mk (below_own (below_alloc HB2.out _) (own_lower HO4.out (Nat.le_succ _)) hg9 (Nat.le_refl _))
                  have HF9 : Asd (w9.heap[w.heap.size]? = some (.cells #[.int .i64 0, .int .i64 0] 35 (0, 0))) := Asd.mk ((hg9.block w.heap.size (by have := blk_lt HF2.out; simp; omega) (fun e => by have := HO4.out.lt _ e.symm; omega)).trans (blk_alloc HF2.out _))
                  have HO9 : Asd (w9.ownsRow (w.heap.size + 1) 52 4 (.slice A9 (m + 1) c9) (m + 1) (tkCells (done ++ [(t, k)]))) := Asd.mk (by rw [tkCells_snoc]; exact ho9)
                  clear ho9 hg9
                  go_wp2
                  go_roundw
                  case rel => exact ⟨k + n, done ++ [(t, k)], A9, m + 1, c9, hnk, rfl, by go_num, ⟨by have := HM.out; simp; omega⟩, ⟨by have := HDK.out; simp; omega⟩, HS2, HO9, HB9, HF9⟩
                  case measure => simp [intOf]; omega
    · have hke : s.size ≤ k := by omega
      have HR := Asd.mk (HS.out.fin (by rw [List.drop_of_length_le (by rw [HLN.out]; exact hke)]))
      have r0 := (blk_cell HFL.out 0).trans rfl
      have r1 := (blk_cell HFL.out 1).trans rfl
      have z0 := blk_frozen HFL.out 0
      have z1 := blk_frozen HFL.out 1
      have HF3 := Asd.mk ((blk_set (blk_set HFL.out 0 (.int .i64 0)) 1 (.int .i64 0)).trans rfl)
      have HB3 := Asd.mk ((HB.out.setCell (p := ⟨w.heap.size, 0, none⟩) (Nat.le_refl _) (.int .i64 0)).setCell (p := ⟨w.heap.size, 1, none⟩) (Nat.le_refl _) (.int .i64 0))
      have HO3 := Asd.mk (own_far (own_far HO.out (p := ⟨w.heap.size, 0, none⟩) (Nat.lt_succ_self _) (.int .i64 0)) (p := ⟨w.heap.size, 1, none⟩) (Nat.lt_succ_self _) (.int .i64 0))
      go_wp2
      refine bodyPost_ret (results_toks rfl _ _ w.heap.size _ rfl HF3.out rfl) rfl ?_
      exact ref_ok HNL.out HR.out HB3.out rfl HM.out HO3.out
theorem rtokens_calls (s : ByteArray) (w : World) :
    Calls Tryz.prog 15 #[.string s] w fun e w' => RefE s.data.toList w e w' := by
  by_cases h : 16384 < s.size
  · exact rtokens_long s w h
  · exact rtokens_short s w h
end Go.Proofs.YtcefmhofidoloaaGreatDoor.Lex

/- same at two like lists; the program's words as the printed functions read them. -/
set_option linter.unusedVariables false
set_option linter.unusedSimpArgs false
namespace Go.Proofs.YtcefmhofidoloaaGreatDoor.Lex
open Go.RowKit Go.Proofs.YtcefmhofidoloaaGreatDoor.Base
open Go.Proofs.YtcefmhofidoloaaGreatDoorW.PrintWords hiding blk_new below_alloc blk_cell below_step blk_below
open Go.Proofs.YtcefmhofidoloaaGreatDoor.Psame

/-- A word as same sees it. -/
def toS (x : Tk × Nat) : S52 := ⟨(x.1.kind : Int), ⟨x.1.text.toArray⟩, (x.2 : Int), x.1.num⟩

theorem same_l0 (l : List S52) (hl : l.length ≤ 1099511627776) : ∀ (n i k : Nat), l.length - i ≤ n → i ≤ l.length → n + 1 ≤ k → quarrylaw12_same.l0 k l l (i : Int) = some true
  | n, i, 0, h1, h2, h3 => by omega
  | n, i, k + 1, h1, h2, h3 => by
    rw [quarrylaw12_same.l0]
    by_cases hi : i < l.length
    · have a1 : (i : Int) < (l.length : Int) := by omega
      have a2 : (0 : Int) ≤ (i : Int) := by omega
      rw [if_pos a1, if_pos a2, if_pos a1, if_neg (by simp), w1 (by omega)]
      cases n with
      | zero => omega
      | succ n => exact same_l0 l hl n (i + 1) k (by omega) (by omega) (by omega)
    · rw [if_neg (by omega)]
theorem same_f (l : List S52) (hl : l.length ≤ 1099511627776) : ∃ k, quarrylaw12_same.f k l l = some true := by
  refine ⟨l.length + 1, ?_⟩
  unfold quarrylaw12_same.f
  rw [if_pos rfl]
  exact same_l0 l hl l.length 0 (l.length + 1) (by omega) (by omega) (by omega)

theorem tkCells_len : ∀ ts : List (Tk × Nat), (tkCells ts).length = ts.length * 4
  | [] => rfl
  | x :: r => by
    have := tkCells_len r
    simp only [tkCells, List.flatMap_cons, List.length_append, List.length_cons] at this ⊢
    simp only [tcells, List.length_cons, List.length_nil]
    omega
theorem reps_toS (W : World) (ts : List (Tk × Nat)) : Reps (k52.K W) 4 (ts.map toS) (tkCells ts) := by
  refine ⟨by rw [tkCells_len]; simp, fun j p hj => ?_⟩
  rw [List.getElem?_map] at hj
  obtain ⟨x, hx, rfl⟩ := Option.map_eq_some_iff.mp hj
  obtain ⟨hlt, hx'⟩ := List.getElem?_eq_some_iff.mp hx
  have he : ((tkCells ts).drop (j * 4)).take 4 = tcells x := by
    apply List.ext_getElem?
    intro i
    by_cases hi : i < 4
    · rw [List.getElem?_take_of_lt hi, List.getElem?_drop, tkCells_at ts j hlt i hi, hx']
    · rw [List.getElem?_take_eq_none (by omega)]
      rw [List.getElem?_eq_none (by simp [tcells]; omega)]
  rw [he]
  exact k52_mk W (toS x)
theorem words_read {W : World} {B : Nat} {A : Option Addr} {m c : Nat} {ts : List (Tk × Nat)} (hm : m = ts.length) (h : W.ownsRow B 52 4 (.slice A m c) m (tkCells ts)) :
    m = (ts.map toS).length ∧ (ts.map toS).length ≤ c ∧ Kd.C k52 W A (ts.map toS).length (ts.map toS) := by
  have hl : m = (ts.map toS).length := by simpa using hm
  refine ⟨hl, ?_, ?_⟩
  · rw [← hl]
    rcases h.2 with ⟨he, h0⟩ | ⟨g, cap, cur, he, _, _, hc, _⟩
    · omega
    · injection he with h1 h2 h3
      omega
  · rw [← hl]
    obtain ⟨A', c', he, hr⟩ := own_reads_row h (reps_toS W ts) hl.symm
    injection he with h1 h2 h3
    subst h1
    exact hr

/-- The error ev is what Seen turns into (r2, r3). -/
def SeenAs (w : World) (ev : Value) (r2 r3 : Int) : Prop :=
  (ev = .nilIface ∧ r2 = 0 ∧ r3 = 0) ∨ ∃ N, ev = .iface 93 (.pointer (some ⟨N, 0, none⟩)) ∧ w.heap[N]? = some (.cells #[.int .i64 r2, .iface 33 (.int .i64 r3)] 95 (0, 0))
theorem SeenAs.below {w w' : World} {ev : Value} {r2 r3 : Int} (h : SeenAs w ev r2 r3) (hb : Below w.heap.size w w') : SeenAs w' ev r2 r3 := by
  rcases h with h | ⟨N, h1, h2⟩
  · exact .inl h
  · exact .inr ⟨N, h1, blk_below hb h2⟩
theorem seen_as {w : World} {ev : Value} {r2 r3 : Int} (h : SeenAs w ev r2 r3) (hg : EtyW w) :
    Calls Tryz.prog 16 #[ev] w fun e w' => e = .returned (.agg #[.int .i64 r2, .int .i64 r3]) ∧ Below w.heap.size w w' := by
  rcases h with ⟨rfl, rfl, rfl⟩ | ⟨N, rfl, h⟩
  · exact seen_nil w
  · exact seen_fault N r2 r3 w hg h
theorem c_nil (w : World) : Kd.C k52 w none ([] : List S52).length [] := ⟨rfl, by decide, fun h => by simp at h⟩
/-- What both lexers answer: the words, the place, the error. -/
def ansL (s : ByteArray) : List S52 × Int × Int := if 16384 < s.size then ([], 0, 8) else match lexT s.data.toList with
  | .ok ts => (ts.map toS, 0, 0)
  | .error p => ([], (p : Int), 20)
/-- The words r1 are read at the slice. -/
def HasW (w : World) (A : Option Addr) (c : Nat) (r1 : List S52) : Prop := r1.length ≤ c ∧ Kd.C k52 w A r1.length r1 ∧ r1.length ≤ 16384
theorem HasW.below {w w' : World} {A : Option Addr} {c : Nat} {r1 : List S52} (h : HasW w A c r1) (hb : Below w.heap.size w w') : HasW w' A c r1 := ⟨h.1, Kd.C_below h.2.1 hb, h.2.2⟩
theorem lexJ_calls (s : ByteArray) (w : World) (hw : LexW w) :
    Calls Tryz.prog 14 #[.string s] w fun e w' => Below w.heap.size w w' ∧ ∃ (A : Option Addr) (c : Nat) (ev : Value), e = .returned (.tuple #[.slice A (ansL s).1.length c, ev]) ∧ HasW w' A c (ansL s).1 ∧ SeenAs w' ev (ansL s).2.1 (ansL s).2.2 := by
  refine (tokens_calls s w hw).mono ?_
  rintro e w' ⟨hb, he⟩
  refine ⟨hb, ?_⟩
  have hsz : s.data.toList.length = s.size := rfl
  unfold ansL
  by_cases h : 16384 < s.size
  · rw [if_pos (by rw [hsz]; exact h)] at he
    rw [if_pos h]
    obtain ⟨N, rfl, _, hN⟩ := he
    exact ⟨none, 0, _, rfl, ⟨Nat.le_refl _, c_nil w', by simp⟩, .inr ⟨N, rfl, hN⟩⟩
  · rw [if_neg (by rw [hsz]; exact h)] at he
    rw [if_neg h]
    cases hl : lexT s.data.toList with
    | ok ts =>
      rw [hl] at he
      obtain ⟨A, m, c, rfl, hm, ho⟩ := he
      obtain ⟨h1, h2, h3⟩ := words_read hm ho
      subst h1
      have hle := lexT_len hl
      rw [hsz] at hle
      exact ⟨A, c, _, rfl, ⟨h2, h3, by simp; omega⟩, .inl ⟨rfl, rfl, rfl⟩⟩
    | error p =>
      rw [hl] at he
      obtain ⟨N, rfl, _, hN⟩ := he
      exact ⟨none, 0, _, rfl, ⟨Nat.le_refl _, c_nil w', by simp⟩, .inr ⟨N, rfl, hN⟩⟩
theorem refJ_calls (s : ByteArray) (w : World) :
    Calls Tryz.prog 15 #[.string s] w fun e w' => Below w.heap.size w w' ∧ ∃ (A : Option Addr) (c : Nat), e = .returned (.tuple #[.slice A (ansL s).1.length c, .agg #[.int .i64 (ansL s).2.1, .int .i64 (ansL s).2.2]]) ∧ HasW w' A c (ansL s).1 := by
  refine (rtokens_calls s w).mono ?_
  rintro e w' ⟨hb, he⟩
  refine ⟨hb, ?_⟩
  have hsz : s.data.toList.length = s.size := rfl
  unfold ansL
  by_cases h : 16384 < s.size
  · rw [if_pos (by rw [hsz]; exact h)] at he
    rw [if_pos h]
    subst he
    exact ⟨none, 0, rfl, ⟨Nat.le_refl _, c_nil w', by simp⟩⟩
  · rw [if_neg (by rw [hsz]; exact h)] at he
    rw [if_neg h]
    cases hl : lexT s.data.toList with
    | ok ts =>
      rw [hl] at he
      obtain ⟨A, m, c, rfl, hm, ho⟩ := he
      obtain ⟨h1, h2, h3⟩ := words_read hm ho
      subst h1
      have hle := lexT_len hl
      rw [hsz] at hle
      exact ⟨A, c, rfl, ⟨h2, h3, by simp; omega⟩⟩
    | error p =>
      rw [hl] at he
      subst he
      exact ⟨none, 0, rfl, ⟨Nat.le_refl _, c_nil w', by simp⟩⟩
theorem csame_calls (r1 : List S52) (A A2 : Option Addr) (c c2 : Nat) (w : World) (h1 : HasW w A c r1) (h2 : HasW w A2 c2 r1) :
    Calls Tryz.prog 17 #[.slice A r1.length c, .slice A2 r1.length c2] w fun e w' => e = .returned (.bool true) ∧ Below w.heap.size w w' := by
  obtain ⟨k2, hk2⟩ := same_f r1 (by have := h1.2.2; omega)
  refine (quarrylaw12_same.calls k2 A c r1 A2 c2 r1 true w h1.2.1 h1.1 h2.2.1 h2.1 hk2).mono ?_
  rintro e w' ⟨rfl, hd⟩
  exact ⟨rfl, hd.below⟩
end Go.Proofs.YtcefmhofidoloaaGreatDoor.Lex

/- LexerReads: the walk. -/
set_option linter.unusedVariables false
set_option linter.unusedSimpArgs false
namespace Go.Proofs.YtcefmhofidoloaaGreatDoor.Lex
open Go.RowKit Go.Proofs.YtcefmhofidoloaaGreatDoor.Base Go.Proofs.YtcefmhofidoloaaGreatDoor.App Go.Proofs.YtcefmhofidoloaaGreatDoor.Byt

set_option maxRecDepth 100000 in
set_option maxHeartbeats 6400000 in
theorem reads12_calls (w : World) (text : ByteArray) (ht : text.size ≤ 1048576) (hw : LexW w) (hg : EtyW w) :
    Calls Tryz.prog 4 #[.string text] w fun e w' => e = .returned (.bool true) ∧ Below w.heap.size w w' := by
  have HW := Asd.mk hw
  have HG := Asd.mk hg
  clear hw hg
  go_enter Tryz.func4, Tryz.ntmps4
  go_wp2_with fail
  refine (lexJ_calls text w HW.out).mono ?_
  rintro e w1 ⟨hb1, A, c, ev, rfl, hC, hs⟩
  have HB1 := Asd.mk hb1
  have HG1 := Asd.mk (HG.out.below hb1)
  have HC1 := Asd.mk hC
  have HS1 := Asd.mk hs
  have HRF := Asd.mk (fun W => refJ_calls text W)
  clear hb1 hC hs
  generalize hr1 : (ansL text).1 = r1 at HC1 HRF ⊢
  generalize hr2 : (ansL text).2.1 = r2 at HS1 HRF
  generalize hr3 : (ansL text).2.2 = r3 at HS1 HRF
  clear hr1 hr2 hr3
  go_wp2_with fail
  refine (HRF.out w1).mono ?_
  rintro e w2 ⟨hb2, A2, c2, rfl, hC2⟩
  have HC2 := Asd.mk hC2
  have HB2 : Asd (Below w.heap.size w w2) := Asd.mk (HB1.out.trans (hb2.mono HB1.out.size))
  have HG2 := Asd.mk (HG1.out.below hb2)
  have HC12 := Asd.mk (HC1.out.below hb2)
  have HS2 := Asd.mk (HS1.out.below hb2)
  clear hb2 hC2 HC1 HS1 HRF
  have HA := Asd.mk (blk_new w2 (.cells #[.int .i64 r2, .int .i64 r3] 35 (0, 0)))
  have HBA : Asd (Below w2.heap.size w2 _) := Asd.mk (below_alloc (Below.refl _ w2) (.cells #[.int .i64 r2, .int .i64 r3] 35 (0, 0)))
  go_upto_region 3 with fail
  generalize w2.alloc (.cells #[.int .i64 r2, .int .i64 r3] 35 (0, 0)) = w3 at HA HBA ⊢
  have HB3 : Asd (Below w.heap.size w w3) := Asd.mk (HB2.out.trans (HBA.out.mono HB2.out.size))
  have HG3 := Asd.mk (HG2.out.below HBA.out)
  have HC13 := Asd.mk (HC12.out.below HBA.out)
  have HC23 := Asd.mk (HC2.out.below HBA.out)
  have HS3 := Asd.mk (HS2.out.below HBA.out)
  have HS : Asd (∀ w', Below w3.heap.size w3 w' → w'.cell? ⟨w2.heap.size, 0, none⟩ = some (.int .i64 r2) ∧ w'.cell? ⟨w2.heap.size, 1, none⟩ = some (.int .i64 r3) ∧ Below w3.heap.size w3 w') := Asd.mk (fun w' hb => ⟨(blk_cell (blk_below hb HA.out) 0).trans rfl, (blk_cell (blk_below hb HA.out) 1).trans rfl, hb⟩)
  have HSN : Asd (∀ W, Below w3.heap.size w3 W → Calls Tryz.prog 16 #[ev] W fun e w' => e = .returned (.agg #[.int .i64 r2, .int .i64 r3]) ∧ Below W.heap.size W w') := Asd.mk (fun W hb => seen_as (HS3.out.below hb) (HG3.out.below hb))
  have HSM : Asd (∀ W, Below w3.heap.size w3 W → Calls Tryz.prog 17 #[.slice A r1.length c, .slice A2 r1.length c2] W fun e w' => e = .returned (.bool true) ∧ Below W.heap.size W w') := Asd.mk (fun W hb => csame_calls r1 A A2 c c2 W (HC13.out.below hb) (HC23.out.below hb))
  have fe : ∀ w, (binOp .eql 35 (.agg #[.int .i64 r2, .int .i64 r3]) (.agg #[.int .i64 r2, .int .i64 r3])).run Tryz.prog w = .ok (.bool true) w := fun w => by rw [flt_eql]; simp
  refine wp_region_held_drew (S := fun w' => w'.cell? ⟨w2.heap.size, 0, none⟩ = some (.int .i64 r2) ∧ w'.cell? ⟨w2.heap.size, 1, none⟩ = some (.int .i64 r3) ∧ Below w3.heap.size w3 w') (by kernel_rfl) (HS.out _ (Below.refl _ _).drew) (fun hHeld => ?_)
  refine wpAnyH_take (i := 0) (oi := ({ dst := some 17, op := Op.move (Operand.tmp 4), type := 42, pos := "law.go:44", after := #[], guard := none } : Oper)) (v := ?v0) rfl (by kernel_rfl) (by kernel_rfl) (by kernel_rfl) (fun _ _ _ h => h) (Or.inl ⟨by rfl, ?h0⟩) (by assumption) ?r0
  case h0 => (intro w hSw; (try dsimp only at hSw); go_simp; try (with_reducible rfl))
  try simp only [Act.put, List.setIfInBounds_toArray, List.set_cons_zero, List.set_cons_succ]
  refine wpAnyH_take (i := 2) (oi := ({ dst := some 19, op := Op.load 35 (Operand.tmp 6), type := 35, pos := "law.go:44", after := #[], guard := none } : Oper)) (v := ?v2) rfl (by kernel_rfl) (by kernel_rfl) (by kernel_rfl) (fun _ _ _ h => h) (Or.inl ⟨by rfl, ?h2⟩) (by assumption) ?r2
  case h2 => (intro w hSw; (try dsimp only at hSw); go_simp; try (with_reducible rfl))
  try simp only [Act.put, List.setIfInBounds_toArray, List.set_cons_zero, List.set_cons_succ]
  refine wpAnyH_ready (rs := [1]) (by kernel_rfl) (by simp) ?_
  refine AllReadyH.cons (o := ({ dst := some 18, op := Op.call { callee := Callee.value (Operand.func 16), args := #[Operand.tmp 17], argTypes := #[42] }, type := 35, pos := "law.go:44", after := #[{ on := 0, ground := Ground.data }], guard := none } : Oper)) rfl (fun K hK => ?_) AllReadyH.nil
  go_simp
  refine (HSN.out _ (Below.refl _ _).drew).mono ?_
  rintro e w4 ⟨rfl, hb4⟩
  go_wp2_with fail
  refine hK.out _ _ (HS.out _ (below_step (Below.refl _ _).drew hb4)) (fun hHeld => ?_)
  clear hK K
  try simp only [Act.put, List.setIfInBounds_toArray, List.set_cons_zero, List.set_cons_succ]
  refine wpAnyH_take (i := 3) (oi := ({ dst := some 20, op := Op.binOp BinOp.eql 35 (Operand.tmp 18) (Operand.tmp 19) 35, type := 4, pos := "law.go:44", after := #[{ on := 1, ground := Ground.data }, { on := 2, ground := Ground.data }], guard := none } : Oper)) (v := ?v3) rfl (by kernel_rfl) (by kernel_rfl) (by kernel_rfl) (fun _ _ _ h => h) (Or.inl ⟨by rfl, ?h3⟩) (by assumption) ?r3
  case h3 => (intro w hSw; (try dsimp only at hSw); go_simp; try (with_reducible rfl))
  try simp only [Act.put, List.setIfInBounds_toArray, List.set_cons_zero, List.set_cons_succ]
  refine wpAnyH_take (i := 4) (oi := ({ dst := some 21, op := Op.move (Operand.tmp 20), type := 4, pos := "law.go:44", after := #[{ on := 3, ground := Ground.data }, { on := 1, ground := Ground.chain }], guard := none } : Oper)) (v := ?v4) rfl (by kernel_rfl) (by kernel_rfl) (by kernel_rfl) (fun _ _ _ h => h) (Or.inl ⟨by rfl, ?h4⟩) (by assumption) ?r4
  case h4 => (intro w hSw; (try dsimp only at hSw); go_simp; try (with_reducible rfl))
  try simp only [Act.put, List.setIfInBounds_toArray, List.set_cons_zero, List.set_cons_succ]
  refine wpAnyH_take (i := 5) (oi := ({ dst := some 22, op := Op.move (Operand.tmp 3), type := 40, pos := "law.go:44", after := #[{ on := 4, ground := Ground.guard }], guard := some (4, true) } : Oper)) (v := ?v5) rfl (by kernel_rfl) (by kernel_rfl) (by kernel_rfl) (fun _ _ _ h => h) (Or.inl ⟨by rfl, ?h5⟩) (by assumption) ?r5
  case h5 => (intro w hSw; (try dsimp only at hSw); go_simp; try (with_reducible rfl))
  try simp only [Act.put, List.setIfInBounds_toArray, List.set_cons_zero, List.set_cons_succ]
  refine wpAnyH_take (i := 6) (oi := ({ dst := some 23, op := Op.move (Operand.tmp 5), type := 40, pos := "law.go:44", after := #[{ on := 4, ground := Ground.guard }], guard := some (4, true) } : Oper)) (v := ?v6) rfl (by kernel_rfl) (by kernel_rfl) (by kernel_rfl) (fun _ _ _ h => h) (Or.inl ⟨by rfl, ?h6⟩) (by assumption) ?r6
  case h6 => (intro w hSw; (try dsimp only at hSw); go_simp; try (with_reducible rfl))
  try simp only [Act.put, List.setIfInBounds_toArray, List.set_cons_zero, List.set_cons_succ]
  refine wpAnyH_ready (rs := [7]) (by kernel_rfl) (by simp) ?_
  refine AllReadyH.cons (o := ({ dst := some 24, op := Op.call { callee := Callee.value (Operand.func 17), args := #[Operand.tmp 22, Operand.tmp 23], argTypes := #[40, 40] }, type := 4, pos := "law.go:44", after := #[{ on := 5, ground := Ground.data }, { on := 6, ground := Ground.data }, { on := 4, ground := Ground.chain }, { on := 4, ground := Ground.guard }], guard := some (4, true) } : Oper)) rfl (fun K hK => ?_) AllReadyH.nil
  go_simp
  refine (HSM.out _ hHeld.2.2).mono ?_
  rintro e w5 ⟨rfl, hb5⟩
  go_wp2_with fail
  refine hK.out _ _ (HS.out _ (below_step hHeld.2.2 hb5)) (fun hHeld => ?_)
  clear hK K
  try simp only [Act.put, List.setIfInBounds_toArray, List.set_cons_zero, List.set_cons_succ]
  refine wpAnyH_take (i := 8) (oi := ({ dst := some 25, op := Op.pick (Operand.tmp 21) (Operand.tmp 24) (Operand.const (Value.bool false)), type := 4, pos := "law.go:44", after := #[{ on := 4, ground := Ground.data }, { on := 7, ground := Ground.data }], guard := none } : Oper)) (v := ?v8) rfl (by kernel_rfl) (by kernel_rfl) (by kernel_rfl) (fun _ _ _ h => h) (Or.inl ⟨by rfl, ?h8⟩) (by assumption) ?r8
  case h8 => (intro w hSw; (try dsimp only at hSw); go_simp; try (with_reducible rfl))
  try simp only [Act.put, List.setIfInBounds_toArray, List.set_cons_zero, List.set_cons_succ]
  refine wpAnyH_take (i := 9) (oi := ({ dst := some 2, op := Op.assign (Operand.tmp 25), type := 4, pos := "law.go:44", after := #[{ on := 8, ground := Ground.data }, { on := 7, ground := Ground.chain }, { on := 0, ground := Ground.phase }, { on := 1, ground := Ground.phase }, { on := 2, ground := Ground.phase }, { on := 3, ground := Ground.phase }, { on := 4, ground := Ground.phase }, { on := 5, ground := Ground.phase }, { on := 6, ground := Ground.phase }, { on := 7, ground := Ground.phase }, { on := 8, ground := Ground.phase }], guard := none } : Oper)) (v := ?v9) rfl (by kernel_rfl) (by kernel_rfl) (by kernel_rfl) (fun _ _ _ h => h) (Or.inl ⟨by rfl, ?h9⟩) (by assumption) ?r9
  case h9 => (intro w hSw; (try dsimp only at hSw); go_simp; try (with_reducible rfl))
  try simp only [Act.put, List.setIfInBounds_toArray, List.set_cons_zero, List.set_cons_succ]
  refine wpAnyH_done (by kernel_rfl) ?_ _
  have HBE := Asd.mk hHeld.2.2
  go_wp2
  go_ret
  exact ⟨ret_eq rfl, HB3.out.trans (HBE.out.mono HB3.out.size)⟩
end Go.Proofs.YtcefmhofidoloaaGreatDoor.Lex
