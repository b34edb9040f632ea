/- run, lowered. -/
import Derived.Test.YtcefmhofidoloaaGreatDoorLx1
set_option linter.unusedVariables false
set_option linter.unusedSimpArgs false
namespace Go.Proofs.YtcefmhofidoloaaGreatDoor.Lex
open Go.RowKit Go.Proofs.YtcefmhofidoloaaGreatDoor.Base Go.Proofs.YtcefmhofidoloaaGreatDoor.App Go.Proofs.YtcefmhofidoloaaGreatDoor.Byt

set_option maxRecDepth 100000 in
set_option maxHeartbeats 1600000 in
theorem run_word (s : ByteArray) (w : World) (hs : s.size ≤ 1048576) :
    Calls Tryz.prog 108 #[.string s, .func (.func 109) #[] #[]] w fun e w' => e = .returned (.int .i64 (runP isWrd s.data.toList : Nat)) ∧ w' = w := by
  go_enter Tryz.func108, Tryz.ntmps108
  go_wp2
  go_loopw [5] (fun v wr => ∃ k : Nat, k ≤ s.size ∧ v = .int .i64 (k : Int) ∧ Asd (runP isWrd s.data.toList = k + runP isWrd (s.data.toList.drop k)) ∧ wr = w) (fun v _ => s.size - (intOf v).toNat)
  case atStart => exact ⟨0, by omega, rfl, ⟨by simp⟩, rfl⟩
  case round =>
    obtain ⟨k, hk, rfl, HR, rfl⟩ := hrel
    by_cases hlt : k < s.size
    · have HD := Asd.mk (drop_cons s k hlt)
      have hc := s[k].toNat_lt
      cases hp : isWrd s[k] with
      | true =>
        have HR2 : Asd (runP isWrd s.data.toList = (k + 1) + runP isWrd (s.data.toList.drop (k + 1))) := Asd.mk (by
          rw [HR.out, HD.out, runP, if_pos hp]; omega)
        have HP := Asd.mk hp
        clear hp
        go_wp2_with fail
        refine (word_calls s[k].toNat hc _).mono ?_
        rintro e w' ⟨rfl, rfl⟩
        rw [show (letN s[k].toNat || digN s[k].toNat) = true from HP.out]
        go_wp2
        go_roundw
        case rel => exact ⟨k + 1, by omega, by go_num, HR2, by first | trivial | rfl⟩
        case measure => simp [intOf]; omega
      | false =>
        have HR2 : Asd (runP isWrd s.data.toList = k) := Asd.mk (by
          rw [HR.out, HD.out, runP, hp]; rfl)
        have HP := Asd.mk hp
        clear hp
        go_wp2_with fail
        refine (word_calls s[k].toNat hc _).mono ?_
        rintro e w' ⟨rfl, rfl⟩
        rw [show (letN s[k].toNat || digN s[k].toNat) = false from HP.out]
        go_wp2
        go_ret
        exact ⟨ret_eq (by rw [HR2.out]; rfl), rfl⟩
    · obtain rfl : k = s.size := by omega
      have HR2 : Asd (runP isWrd s.data.toList = s.size) := Asd.mk (by
        rw [HR.out, List.drop_of_length_le (Nat.le_of_eq (show s.data.toList.length = s.size from rfl))]; rfl)
      clear hlt
      go_wp2
      go_ret
      exact ⟨ret_eq (by rw [HR2.out]; rfl), rfl⟩

set_option maxRecDepth 100000 in
set_option maxHeartbeats 1600000 in
theorem run_digit (s : ByteArray) (w : World) (hs : s.size ≤ 1048576) :
    Calls Tryz.prog 108 #[.string s, .func (.func 110) #[] #[]] w fun e w' => e = .returned (.int .i64 (runP isDig s.data.toList : Nat)) ∧ w' = w := by
  go_enter Tryz.func108, Tryz.ntmps108
  go_wp2
  go_loopw [5] (fun v wr => ∃ k : Nat, k ≤ s.size ∧ v = .int .i64 (k : Int) ∧ Asd (runP isDig s.data.toList = k + runP isDig (s.data.toList.drop k)) ∧ wr = w) (fun v _ => s.size - (intOf v).toNat)
  case atStart => exact ⟨0, by omega, rfl, ⟨by simp⟩, rfl⟩
  case round =>
    obtain ⟨k, hk, rfl, HR, rfl⟩ := hrel
    by_cases hlt : k < s.size
    · have HD := Asd.mk (drop_cons s k hlt)
      have hc := s[k].toNat_lt
      cases hp : isDig s[k] with
      | true =>
        have HR2 : Asd (runP isDig s.data.toList = (k + 1) + runP isDig (s.data.toList.drop (k + 1))) := Asd.mk (by
          rw [HR.out, HD.out, runP, if_pos hp]; omega)
        have HP := Asd.mk hp
        clear hp
        go_wp2_with fail
        refine (digit_calls s[k].toNat hc _).mono ?_
        rintro e w' ⟨rfl, rfl⟩
        rw [show (digN s[k].toNat) = true from HP.out]
        go_wp2
        go_roundw
        case rel => exact ⟨k + 1, by omega, by go_num, HR2, by first | trivial | rfl⟩
        case measure => simp [intOf]; omega
      | false =>
        have HR2 : Asd (runP isDig s.data.toList = k) := Asd.mk (by
          rw [HR.out, HD.out, runP, hp]; rfl)
        have HP := Asd.mk hp
        clear hp
        go_wp2_with fail
        refine (digit_calls s[k].toNat hc _).mono ?_
        rintro e w' ⟨rfl, rfl⟩
        rw [show (digN s[k].toNat) = false from HP.out]
        go_wp2
        go_ret
        exact ⟨ret_eq (by rw [HR2.out]; rfl), rfl⟩
    · obtain rfl : k = s.size := by omega
      have HR2 : Asd (runP isDig s.data.toList = s.size) := Asd.mk (by
        rw [HR.out, List.drop_of_length_le (Nat.le_of_eq (show s.data.toList.length = s.size from rfl))]; rfl)
      clear hlt
      go_wp2
      go_ret
      exact ⟨ret_eq (by rw [HR2.out]; rfl), rfl⟩

end Go.Proofs.YtcefmhofidoloaaGreatDoor.Lex
