/- letter, digit, run, lowered. -/
import Derived.Test.YtcefmhofidoloaaGreatDoorTok
import Derived.Test.YtcefmhofidoloaaGreatDoorLitp
import Derived.Test.YtcefmhofidoloaaGreatDoorLit
import Derived.Test.YtcefmhofidoloaaGreatDoorBytes
import Derived.Test.YtcefmhofidoloaaGreatDoorApp
set_option linter.unusedVariables false
set_option linter.unusedSimpArgs false
namespace Go.Proofs.YtcefmhofidoloaaGreatDoor.Lex
open Go.RowKit Go.Proofs.YtcefmhofidoloaaGreatDoor.Base Go.Proofs.YtcefmhofidoloaaGreatDoor.App Go.Proofs.YtcefmhofidoloaaGreatDoor.Byt

theorem letN_t {n : Nat} (h : (97 ≤ n ∧ n ≤ 122) ∨ (65 ≤ n ∧ n ≤ 90) ∨ n = 95) : letN n = true := by simp [letN]; omega
theorem letN_f {n : Nat} (h : ¬ ((97 ≤ n ∧ n ≤ 122) ∨ (65 ≤ n ∧ n ≤ 90) ∨ n = 95)) : letN n = false := by simp [letN]; omega
set_option maxRecDepth 100000 in
theorem letter_calls (n : Nat) (hn : n < 256) (w : World) : Calls Tryz.prog 107 #[.int .u8 (n : Int)] w fun e w' => e = .returned (.bool (letN n)) ∧ w' = w := by
  rcases (show n < 65 ∨ (65 ≤ n ∧ n ≤ 90) ∨ (90 < n ∧ n < 95) ∨ n = 95 ∨ n = 96 ∨ (97 ≤ n ∧ n ≤ 122) ∨ 122 < n by omega) with h | h | h | rfl | rfl | h | h
  · have HR := Asd.mk (letN_f (n := n) (by omega))
    go_enter Tryz.func107, Tryz.ntmps107
    go_wp2
    go_ret
    exact ⟨ret_eq (by rw [HR.out]; first | rfl | (simp; done) | (simp; omega)), rfl⟩
  · have HR := Asd.mk (letN_t (n := n) (by omega))
    go_enter Tryz.func107, Tryz.ntmps107
    go_wp2
    go_ret
    exact ⟨ret_eq (by rw [HR.out]; first | rfl | (simp; done) | (simp; omega)), rfl⟩
  · have HR := Asd.mk (letN_f (n := n) (by omega))
    go_enter Tryz.func107, Tryz.ntmps107
    go_wp2
    go_ret
    exact ⟨ret_eq (by rw [HR.out]; first | rfl | (simp; done) | (simp; omega)), rfl⟩
  · go_enter Tryz.func107, Tryz.ntmps107
    go_wp2
    go_ret
    exact ⟨ret_eq rfl, rfl⟩
  · go_enter Tryz.func107, Tryz.ntmps107
    go_wp2
    go_ret
    exact ⟨ret_eq rfl, rfl⟩
  · have HR := Asd.mk (letN_t (n := n) (by omega))
    go_enter Tryz.func107, Tryz.ntmps107
    go_wp2
    go_ret
    exact ⟨ret_eq (by rw [HR.out]; first | rfl | (simp; done) | (simp; omega)), rfl⟩
  · have HR := Asd.mk (letN_f (n := n) (by omega))
    go_enter Tryz.func107, Tryz.ntmps107
    go_wp2
    go_ret
    exact ⟨ret_eq (by rw [HR.out]; first | rfl | (simp; done) | (simp; omega)), rfl⟩
theorem digit_calls (n : Nat) (hn : n < 256) (w : World) : Calls Tryz.prog 110 #[.int .u8 (n : Int)] w fun e w' => e = .returned (.bool (digN n)) ∧ w' = w := by
  rcases (show n < 48 ∨ (48 ≤ n ∧ n ≤ 57) ∨ 57 < n by omega) with h | h | h
  · have HR : Asd (digN n = false) := Asd.mk (by simp [digN]; omega)
    go_enter Tryz.func110, Tryz.ntmps110
    go_wp2
    go_ret
    exact ⟨ret_eq (by rw [HR.out]; first | rfl | (simp; done) | (simp; omega)), rfl⟩
  · have HR : Asd (digN n = true) := Asd.mk (by simp [digN]; omega)
    go_enter Tryz.func110, Tryz.ntmps110
    go_wp2
    go_ret
    exact ⟨ret_eq (by rw [HR.out]; first | rfl | (simp; done) | (simp; omega)), rfl⟩
  · have HR : Asd (digN n = false) := Asd.mk (by simp [digN]; omega)
    go_enter Tryz.func110, Tryz.ntmps110
    go_wp2
    go_ret
    exact ⟨ret_eq (by rw [HR.out]; first | rfl | (simp; done) | (simp; omega)), rfl⟩
theorem word_calls (n : Nat) (hn : n < 256) (w : World) : Calls Tryz.prog 109 #[.int .u8 (n : Int)] w fun e w' => e = .returned (.bool (letN n || digN n)) ∧ w' = w := by
  go_enter Tryz.func109, Tryz.ntmps109
  go_wp2_with fail
  refine (letter_calls n hn _).mono ?_
  rintro e w' ⟨rfl, rfl⟩
  cases hp : letN n with
  | true =>
    have HP := Asd.mk hp
    clear hp
    go_wp2
    go_ret
    exact ⟨ret_eq (by rw [HP.out]; rfl), rfl⟩
  | false =>
    go_wp2_with fail
    refine (digit_calls n hn _).mono ?_
    rintro e w' ⟨rfl, rfl⟩
    have HP := Asd.mk hp
    clear hp
    go_wp2
    go_ret
    exact ⟨ret_eq (by rw [HP.out]; rfl), rfl⟩
theorem drop_cons (s : ByteArray) (k : Nat) (h : k < s.size) : s.data.toList.drop k = s[k] :: s.data.toList.drop (k + 1) := by
  rw [List.drop_eq_getElem_cons (by simpa using h)]; rfl
end Go.Proofs.YtcefmhofidoloaaGreatDoor.Lex
