/- How the reference writes a number. -/
import Derived.Test.YtcefmhofidoloaaGreatDoorVal
import Derived.Test.YtcefmhofidoloaaGreatDoorLitp
import Derived.Test.YtcefmhofidoloaaGreatDoorBytes
import Derived.Test.YtcefmhofidoloaaGreatDoorApp
import Derived.Lib.ItoaNum
set_option linter.unusedVariables false
set_option linter.unusedSimpArgs false
namespace Go.Proofs.YtcefmhofidoloaaGreatDoor.Lex
open Go.RowKit Go.Proofs.YtcefmhofidoloaaGreatDoor.Base Go.Proofs.YtcefmhofidoloaaGreatDoor.App Go.Proofs.YtcefmhofidoloaaGreatDoor.Byt

theorem nDigits_le : ∀ (k u : Nat), u < 10 ^ (k + 1) → Lib.nDigits u ≤ k + 1
  | 0, u, h => by rw [Lib.nDigits, dif_pos (by omega)]; exact Nat.le_refl _
  | k + 1, u, h => by
    rw [Lib.nDigits]
    split
    · omega
    · have := nDigits_le k (u / 10) (by rw [Nat.div_lt_iff_lt_mul (by omega)]; rw [Nat.pow_succ] at h; exact h)
      omega
theorem digits_small {u : Nat} (h : u < 18446744073709551616) : (Lib.decDigits u).length ≤ 20 := by
  rw [Lib.decDigits_length]
  exact nDigits_le 19 u (by omega)
/-- A number's last digit. -/
def dgt (n : Nat) : UInt8 := UInt8.ofNat (48 + n % 10)
theorem decDigits_step (n : Nat) : Lib.decDigits n = (if n / 10 = 0 then [] else Lib.decDigits (n / 10)) ++ [dgt n] := by
  by_cases h : n < 10
  · rw [Lib.decDigits, dif_pos h, if_pos (by omega), dgt, Nat.mod_eq_of_lt h]
    rfl
  · rw [Lib.decDigits, dif_neg h, if_neg (by omega)]
    rfl

theorem conv_digit (n : Nat) (W : World) : (convert 120 9 (.slice (some ⟨W.heap.size, 0, none⟩) 1 1)).run Tryz.prog (W.alloc (.cells #[.int .u8 (48 + (n : Int) % 10)] 5)) = .ok (.string ⟨#[dgt n]⟩) (W.alloc (.cells #[.int .u8 (48 + (n : Int) % 10)] 5)) := by
  have h := IsBytes.new W [dgt n] 5 (by simp)
  have e : bcells [dgt n] = [.int .u8 (48 + (n : Int) % 10)] := by
    have h2 : (dgt n).toNat = 48 + n % 10 := by
      unfold dgt
      rw [UInt8.toNat_ofNat']
      omega
    simp only [bcells, List.map_cons, List.map_nil, bcell, h2]
    congr 2
  rw [e] at h
  exact run_string 120 9 5 Tryz.underlying120 Tryz.underlying5 Tryz.underlying9 1 h

set_option maxRecDepth 100000 in
set_option maxHeartbeats 1600000 in
theorem digits_calls (u : Nat) (hu : u < 18446744073709551616) (w : World) :
    Calls Tryz.prog 222 #[.int .u64 (u : Int)] w fun e w' => e = .returned (.string ⟨(Lib.decDigits u).toArray⟩) ∧ Below w.heap.size w w' := by
  have hcv := conv_digit u
  have HLN := Asd.mk (digits_small hu)
  have HST := Asd.mk (decDigits_step u)
  go_enter Tryz.func222, Tryz.ntmps222
  go_wp2
  have hcv2 := hcv
  clear hcv
  go_loopw [0, 3] (fun v0 v3 wr => ∃ (n : Nat) (s : List UInt8), n < 18446744073709551616 ∧ v0 = .int .u64 (n : Int) ∧ v3 = .string ⟨s.toArray⟩ ∧ Asd ((if n = 0 then [] else Lib.decDigits n) ++ s = Lib.decDigits u) ∧ Asd (Below w.heap.size w wr)) (fun v0 _ _ => (intOf v0).toNat)
  case atStart => exact ⟨u / 10, [dgt u], by omega, by first | rfl | go_num | simp, by rfl, ⟨HST.out.symm⟩, ⟨below_alloc (Below.refl _ _) _⟩⟩
  case round =>
    obtain ⟨n, s, hn, rfl, rfl, HR, HB⟩ := hrel
    by_cases h0 : 0 < n
    · have hcv := conv_digit n
      have hsl : (⟨s.toArray⟩ : ByteArray).size ≤ 20 := by
        have h1 := HLN.out
        rw [← HR.out, List.length_append] at h1
        have h3 : (⟨s.toArray⟩ : ByteArray).size = s.length := by simp [ByteArray.size]
        rw [h3]
        omega
      have HE : Asd ((⟨#[dgt n]⟩ : ByteArray) ++ ⟨s.toArray⟩ = ⟨(dgt n :: s).toArray⟩) := Asd.mk (by
        rw [show (⟨#[dgt n]⟩ : ByteArray) = ⟨[dgt n].toArray⟩ from rfl, str_cat]
        rfl)
      have HR2 : Asd ((if n / 10 = 0 then [] else Lib.decDigits (n / 10)) ++ (dgt n :: s) = Lib.decDigits u) := Asd.mk (by
        have h1 := HR.out
        rw [if_neg (by omega), decDigits_step n, List.append_assoc] at h1
        exact h1)
      generalize (⟨s.toArray⟩ : ByteArray) = sb at hsl HE ⊢
      go_wp2
      go_roundw
      case rel => exact ⟨n / 10, _, by omega, by first | rfl | go_num | simp, by first | rw [← HE.out] | (rw [← HE.out]; rfl), HR2, ⟨below_alloc HB.out _⟩⟩
      case measure => simp [intOf]; omega
    · obtain rfl : n = 0 := by omega
      have HE : Asd (s = Lib.decDigits u) := Asd.mk (by have := HR.out; simpa using this)
      generalize hsb : (⟨s.toArray⟩ : ByteArray) = sb
      have HSB := Asd.mk hsb
      clear hsb
      go_wp2
      go_ret
      exact ⟨ret_eq (by rw [← HE.out, HSB.out]; rfl), HB.out⟩

theorem wrap_abs {n : Int} (h0 : -9223372036854775808 ≤ n) (h : n < 0) : IntKind.u64.wrap (-(IntKind.u64.wrap n)) = (n.natAbs : Int) := by
  simp [IntKind.wrap, IntKind.signed, IntKind.bits]
  omega
theorem wrap_pos {n : Int} (h1 : n ≤ 9223372036854775807) (h : 0 ≤ n) : IntKind.u64.wrap n = (n.toNat : Int) := by
  simp [IntKind.wrap, IntKind.signed, IntKind.bits]
  omega
set_option maxRecDepth 100000 in
set_option maxHeartbeats 1600000 in
theorem number_calls (n : Int) (h0 : -9223372036854775808 ≤ n) (h1 : n ≤ 9223372036854775807) (w : World) :
    Calls Tryz.prog 167 #[.int .i64 n] w fun e w' => e = .returned (.string ⟨(Lib.itoa n).toArray⟩) ∧ Below w.heap.size w w' := by
  by_cases h : n < 0
  · have HE := Asd.mk (wrap_abs h0 h)
    have hl := digits_small (u := n.natAbs) (by omega)
    have HI : Asd ((⟨#[45]⟩ : ByteArray) ++ ⟨(Lib.decDigits n.natAbs).toArray⟩ = ⟨(Lib.itoa n).toArray⟩) := Asd.mk (by
      rw [show (⟨#[45]⟩ : ByteArray) = ⟨[45].toArray⟩ from rfl, str_cat, Lib.itoa, if_pos h]
      rfl)
    have hsz : (⟨(Lib.decDigits n.natAbs).toArray⟩ : ByteArray).size ≤ 20 := by
      have h3 : (⟨(Lib.decDigits n.natAbs).toArray⟩ : ByteArray).size = (Lib.decDigits n.natAbs).length := by simp [ByteArray.size]
      omega
    have HD := Asd.mk (fun w => digits_calls n.natAbs (by omega) w)
    generalize (⟨(Lib.decDigits n.natAbs).toArray⟩ : ByteArray) = ds at hsz HI HD
    clear hl
    go_enter Tryz.func167, Tryz.ntmps167
    go_wp2_with fail
    rw [HE.out]
    refine (HD.out _).mono ?_
    rintro e w1 ⟨rfl, hb⟩
    have HB := Asd.mk hb
    clear hb
    go_wp2
    go_ret
    exact ⟨ret_eq (by rw [← HI.out]; rfl), HB.out⟩
  · obtain ⟨m, rfl⟩ := Int.eq_ofNat_of_zero_le (show 0 ≤ n by omega)
    have HI : Asd ((⟨(Lib.decDigits m).toArray⟩ : ByteArray) = ⟨(Lib.itoa (m : Int)).toArray⟩) := Asd.mk (by rw [Lib.itoa, if_neg h]; rfl)
    have HD := Asd.mk (fun w => digits_calls m (by omega) w)
    generalize (⟨(Lib.decDigits m).toArray⟩ : ByteArray) = ds at HI HD
    go_enter Tryz.func167, Tryz.ntmps167
    go_wp2_with fail
    refine (HD.out _).mono ?_
    rintro e w1 ⟨rfl, hb⟩
    have HB := Asd.mk hb
    clear hb
    go_wp2
    go_ret
    exact ⟨ret_eq (by rw [← HI.out]; rfl), HB.out⟩
end Go.Proofs.YtcefmhofidoloaaGreatDoor.Lex
