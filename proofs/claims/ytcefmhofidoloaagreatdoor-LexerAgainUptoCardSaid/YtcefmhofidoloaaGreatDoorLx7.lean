/- The inner package's ParseUint at two hexadecimal digits. -/
import Derived.Test.YtcefmhofidoloaaGreatDoorLx6
import Derived.Test.YtcefmhofidoloaaGreatDoorKw
set_option linter.unusedVariables false
set_option linter.unusedSimpArgs false
namespace Go.Proofs.YtcefmhofidoloaaGreatDoor.Lex
open Go.RowKit Go.Proofs.YtcefmhofidoloaaGreatDoor.Base Go.Proofs.YtcefmhofidoloaaGreatDoor.App Go.Proofs.YtcefmhofidoloaaGreatDoor.Byt

theorem getD_at (s : ByteArray) (k : Nat) (h : k < s.size) : lowF s.data.toList 0 k = s[k] := by
  show (if k < 0 then _ else s.data.toList.getD k 0) = _
  rw [if_neg (by omega), List.getD_eq_getElem?_getD, List.getElem?_eq_getElem (by simpa using h)]
  rfl
set_option maxRecDepth 100000 in
set_option maxHeartbeats 6400000 in
theorem hex_calls (s : ByteArray) (w : World) (h2 : s.size = 2) :
    Calls Tryz.prog 224 #[.string s, .int .i64 16, .int .i64 8] w fun e w' => Hexed s.data.toList w e w' := by
  have hcv := Lib.run_convert_string_bytes (P := Tryz.prog) w 9 120 5 s Tryz.underlying9 Tryz.underlying120 Tryz.underlying5
  have HS0 := Asd.mk (LowSt.new w s)
  have HB0 := Asd.mk (below_bytes w s)
  have HL : Asd (s.data.toList.length = s.size) := Asd.mk rfl
  have hne : s.toList.isEmpty = false := by
    have := nonempty s (by omega)
    cases h : s.toList with
    | nil => exact absurd h this
    | cons a b => rfl
  generalize hb : w.heap.size = b at hcv HS0
  have HBB := Asd.mk hb
  clear hb
  generalize grownCap w s.size 0 5 = cap at hcv
  generalize Lib.bytesWorld w 5 s = W1 at hcv HS0 HB0
  rw [h2] at hcv
  go_enter Tryz.func224, Tryz.ntmps224
  go_wp2
  generalize hK : (1152921504606846976 : Int) = K
  have HK : Asd ((16 : Int) ≤ K) := Asd.mk (by rw [← hK]; decide)
  clear hK
  go_loopw [12, 13, 101] (fun v12 v13 v wr => ∃ (k n : Nat), k ≤ 2 ∧ v12 = .bool false ∧ v13 = .int .u64 (n : Int) ∧ v = .int .i64 (k : Int) ∧ Asd (hexT (s.data.toList.take k) = some n) ∧ Asd (n < 16 ^ k) ∧ Asd (LowSt wr b s.data.toList 0) ∧ Asd (Below b w wr)) (fun _ _ v _ => 2 - (intOf v).toNat)
  case atStart => exact ⟨0, 0, by omega, rfl, rfl, rfl, ⟨rfl⟩, ⟨by decide⟩, HS0, by rw [← HBB.out]; exact HB0⟩
  case round =>
    obtain ⟨k, n, hk, rfl, rfl, rfl, HX, HLT, HS, HB⟩ := hrel
    by_cases hlt : k < 2
    · have hks : k < s.size := by omega
      obtain ⟨q0, z0⟩ := HS.out.cell k (by rw [HL.out]; exact hks)
      have HD := Asd.mk (drop_cons s k hks)
      have HE : Asd (lowF s.data.toList 0 k = s[k]) := Asd.mk (getD_at s k hks)
      rw [HE.out] at q0
      generalize s[k] = c at q0 HD
      have hc := c.toNat_lt
      simp only [bcell] at q0
      have HLO := Asd.mk (low_up c.toNat hc)
      have h32 := or32 c.toNat hc
      have HLTN : Asd (n < 16) := Asd.mk (by
        have := HLT.out
        obtain rfl | rfl : k = 0 ∨ k = 1 := by omega
        · omega
        · simpa using this)
      have HPW : Asd (∀ v, v < 16 → 16 * n + v < 16 ^ (k + 1)) := Asd.mk fun v hv => by
        have := HLT.out
        rw [Nat.pow_succ]
        omega
      have hn16 := HLTN.out
      have hcut : (n : Int) < K := by have := HK.out; omega
      by_cases hdig : 48 ≤ c.toNat ∧ c.toNat ≤ 57
      · obtain ⟨d1, d2⟩ := hdig
        have HV := hexV_dig ⟨d1, d2⟩
        have HGO := Asd.mk (hexT_go HX.out HD.out HV)
        have HLT2 := Asd.mk (HPW.out (c.toNat - 48) (by omega))
        have e1 : ((c.toNat : Int) - 48) = ((c.toNat - 48 : Nat) : Int) := by omega
        have hd16 : c.toNat - 48 < 16 := by omega
        clear HV h32 HLO
        go_wp2
        go_roundw
        case rel => exact ⟨k + 1, _, by omega, rfl, by first | rfl | go_num | (go_num; omega), by first | rfl | go_num, HGO, HLT2, HS, HB⟩
        case measure => simp [intOf]; omega
      · generalize hm : c.toNat ||| 32 = m at HLO h32
        have HVL : Asd (97 ≤ m ∧ m ≤ 102 → hexV c = some (m - 87)) := Asd.mk (hexV_let hdig hm)
        have HNO : Asd (¬ (97 ≤ m ∧ m ≤ 102) → hexT s.data.toList = none) := Asd.mk fun h => hexT_stop HX.out HD.out (hexV_no hdig hm h)
        have h48 : c.toNat < 48 → m < 97 := fun h => by
          have := h32.1
          rw [← hm]
          have : c.toNat ||| 32 < 64 := Nat.or_lt_two_pow (n := 6) (by omega) (by omega)
          omega
        have hm256 := h32.1
        clear h32
        by_cases hlo : c.toNat < 48
        · have hm97 := h48 hlo
          have HNO := Asd.mk (HNO.out (by omega))
          clear hdig h48 HVL hm
          go_wp2_with fail
          refine (Tryz.internal_strconv_lower (c.toNat : Int) _).mono ?_
          rintro e w' ⟨rfl, rfl⟩
          rw [HLO.out]
          go_wp2
          refine bodyPost_ret (results_tmp2 rfl _ _ _) rfl ?_
          exact hexed_none HNO.out rfl (by rw [HBB.out]; exact HB.out)
        · have hhi : 57 < c.toNat := by omega
          clear hdig h48 hlo
          by_cases h95 : c.toNat = 95
          · obtain rfl : m = 127 := by rw [← hm, h95]; rfl
            have HNO := Asd.mk (HNO.out (by omega))
            clear hm HVL
            go_wp2_with fail
            refine (Tryz.internal_strconv_lower 95 _).mono ?_
            rintro e w' ⟨rfl, rfl⟩
            rw [show bits .or .u8 95 32 = 127 by decide]
            go_wp2_with fail
            refine (Tryz.internal_strconv_lower 95 _).mono ?_
            rintro e w' ⟨rfl, rfl⟩
            rw [show bits .or .u8 95 32 = 127 by decide]
            go_wp2
            refine bodyPost_ret (results_tmp2 rfl _ _ _) rfl ?_
            exact hexed_none HNO.out rfl (by rw [HBB.out]; exact HB.out)
          · clear hm
            by_cases ha : m < 97
            · have HNO := Asd.mk (HNO.out (by omega))
              clear HVL
              go_wp2_with fail
              refine (Tryz.internal_strconv_lower (c.toNat : Int) _).mono ?_
              rintro e w' ⟨rfl, rfl⟩
              rw [HLO.out]
              go_wp2
              refine bodyPost_ret (results_tmp2 rfl _ _ _) rfl ?_
              exact hexed_none HNO.out rfl (by rw [HBB.out]; exact HB.out)
            · have ha' : 97 ≤ m := by omega
              clear ha
              by_cases hb : m ≤ 122
              · by_cases hc6 : m ≤ 102
                · have HGO := Asd.mk (hexT_go HX.out HD.out (HVL.out ⟨ha', hc6⟩))
                  have HLT2 := Asd.mk (HPW.out (m - 87) (by omega))
                  have e1 : ((m : Int) - 97 + 10) = ((m - 87 : Nat) : Int) := by omega
                  have hd16 : m - 87 < 16 := by omega
                  clear HVL HNO
                  go_wp2_with fail
                  refine (Tryz.internal_strconv_lower (c.toNat : Int) _).mono ?_
                  rintro e w' ⟨rfl, rfl⟩
                  rw [HLO.out]
                  go_wp2_with fail
                  refine (Tryz.internal_strconv_lower (c.toNat : Int) _).mono ?_
                  rintro e w' ⟨rfl, rfl⟩
                  rw [HLO.out]
                  go_wp2_with fail
                  refine (Tryz.internal_strconv_lower (c.toNat : Int) _).mono ?_
                  rintro e w' ⟨rfl, rfl⟩
                  rw [HLO.out]
                  go_wp2
                  go_roundw
                  case rel => exact ⟨k + 1, _, by omega, rfl, by first | rfl | go_num | (go_num; omega), by first | rfl | go_num, HGO, HLT2, HS, HB⟩
                  case measure => simp [intOf]; omega
                · have hc6' : 102 < m := by omega
                  have HNO := Asd.mk (HNO.out (by omega))
                  clear HVL hc6
                  go_wp2_with fail
                  refine (Tryz.internal_strconv_lower (c.toNat : Int) _).mono ?_
                  rintro e w' ⟨rfl, rfl⟩
                  rw [HLO.out]
                  go_wp2_with fail
                  refine (Tryz.internal_strconv_lower (c.toNat : Int) _).mono ?_
                  rintro e w' ⟨rfl, rfl⟩
                  rw [HLO.out]
                  go_wp2_with fail
                  refine (Tryz.internal_strconv_lower (c.toNat : Int) _).mono ?_
                  rintro e w' ⟨rfl, rfl⟩
                  rw [HLO.out]
                  go_wp2
                  refine bodyPost_ret (results_tmp2 rfl _ _ _) rfl ?_
                  exact hexed_none HNO.out rfl (by rw [HBB.out]; exact HB.out)
              · have hb' : 122 < m := by omega
                have HNO := Asd.mk (HNO.out (by omega))
                clear HVL hb
                go_wp2_with fail
                refine (Tryz.internal_strconv_lower (c.toNat : Int) _).mono ?_
                rintro e w' ⟨rfl, rfl⟩
                rw [HLO.out]
                go_wp2_with fail
                refine (Tryz.internal_strconv_lower (c.toNat : Int) _).mono ?_
                rintro e w' ⟨rfl, rfl⟩
                rw [HLO.out]
                go_wp2
                refine bodyPost_ret (results_tmp2 rfl _ _ _) rfl ?_
                exact hexed_none HNO.out rfl (by rw [HBB.out]; exact HB.out)
    · obtain rfl : k = 2 := by omega
      have HX2 : Asd (hexT s.data.toList = some n) := Asd.mk (by
        have := HX.out
        rwa [List.take_of_length_le (by rw [HL.out, h2]; exact Nat.le_refl _)] at this)
      clear hlt
      go_wp2
      refine bodyPost_ret (results_tmp2 rfl _ _ _) rfl ?_
      exact hexed_some HX2.out rfl (by rw [HBB.out]; exact HB.out)
end Go.Proofs.YtcefmhofidoloaaGreatDoor.Lex
