/- Texts put together: Ck5, Ck6, Ck7, Ck8, Ck9, Cka, Ckb, Evb. -/
import Derived.Test.YtbeeaikilcnpgaaGreatDoorQc6
import Derived.Laws.Bits64
/- calc.sum: sums, differences, quotients, rests. -/
set_option linter.unusedVariables false
set_option linter.unusedSimpArgs false
namespace Go.Proofs.YtbeeaikilcnpgaaGreatDoor.Exp
open Go.RowKit Go.Proofs.YtbeeaikilcnpgaaGreatDoor.Base Go.Proofs.YtbeeaikilcnpgaaGreatDoor.App Go.Proofs.YtbeeaikilcnpgaaGreatDoor.Byt

theorem wrap_i64 (n : Int) : IntKind.i64.wrap n = (n + 9223372036854775808) % 18446744073709551616 - 9223372036854775808 := by simp [IntKind.wrap, IntKind.bits, IntKind.signed]; omega
theorem wrap_neg (v : BitVec 64) : decide (IntKind.i64.wrap (v.toNat : Int) < 0) = v.msb := by
  rw [BitVec.msb_eq_decide, wrap_i64]
  have := v.isLt
  simp only [decide_eq_decide]
  omega
theorem msb_of (a : Int) (h : -9223372036854775808 ≤ a) (h' : a ≤ 9223372036854775807) : (BitVec.ofInt 64 a).msb = decide (a < 0) := by
  rw [BitVec.msb_eq_toInt, BitVec.toInt_ofInt, Int.bmod_eq_of_le (by omega) (by omega)]
theorem wrap_in (n : Int) : -9223372036854775808 ≤ IntKind.i64.wrap n ∧ IntKind.i64.wrap n ≤ 9223372036854775807 := by rw [wrap_i64]; omega
theorem xor_neg (a b : Int) (h : -9223372036854775808 ≤ a) (h' : a ≤ 9223372036854775807) (k : -9223372036854775808 ≤ b) (k' : b ≤ 9223372036854775807) : decide (bits .xor .i64 a b < 0) = (decide (a < 0) ^^ decide (b < 0)) := by
  show decide (IntKind.i64.wrap (((BitVec.ofInt 64 a ^^^ BitVec.ofInt 64 b).toNat : Nat) : Int) < 0) = _
  rw [wrap_neg, BitVec.msb_xor, msb_of a h h', msb_of b k k']
theorem and_neg (a b : Int) (h : -9223372036854775808 ≤ a) (h' : a ≤ 9223372036854775807) (k : -9223372036854775808 ≤ b) (k' : b ≤ 9223372036854775807) : decide (bits .and .i64 a b < 0) = (decide (a < 0) && decide (b < 0)) := by
  show decide (IntKind.i64.wrap (((BitVec.ofInt 64 a &&& BitVec.ofInt 64 b).toNat : Nat) : Int) < 0) = _
  rw [wrap_neg, BitVec.msb_and, msb_of a h h', msb_of b k k']
theorem bits_in (o : BinOp) (a b : Int) : -9223372036854775808 ≤ bits o .i64 a b ∧ bits o .i64 a b ≤ 9223372036854775807 := wrap_in _
/-- The test of a sum, or a difference, on its signs. -/
theorem signs (a b c d : Int) (ha : -9223372036854775808 ≤ a ∧ a ≤ 9223372036854775807) (hb : -9223372036854775808 ≤ b ∧ b ≤ 9223372036854775807) (hc : -9223372036854775808 ≤ c ∧ c ≤ 9223372036854775807) (hd : -9223372036854775808 ≤ d ∧ d ≤ 9223372036854775807) :
    (0 ≤ bits .and .i64 (bits .xor .i64 a b) (bits .xor .i64 c d)) ↔ ¬ ((a < 0 ↔ ¬ b < 0) ∧ (c < 0 ↔ ¬ d < 0)) := by
  have h := and_neg (bits .xor .i64 a b) (bits .xor .i64 c d) (bits_in _ _ _).1 (bits_in _ _ _).2 (bits_in _ _ _).1 (bits_in _ _ _).2
  rw [xor_neg a b ha.1 ha.2 hb.1 hb.2, xor_neg c d hc.1 hc.2 hd.1 hd.2] at h
  generalize bits .and .i64 (bits .xor .i64 a b) (bits .xor .i64 c d) = x at *
  by_cases h1 : a < 0 <;> by_cases h2 : b < 0 <;> by_cases h3 : c < 0 <;> by_cases h4 : d < 0 <;> simp [h1, h2, h3, h4] at h ⊢ <;> omega
theorem add_fits (a b : Int) (ha : -9223372036854775808 ≤ a ∧ a ≤ 9223372036854775807) (hb : -9223372036854775808 ≤ b ∧ b ≤ 9223372036854775807) :
    (0 ≤ bits .and .i64 (bits .xor .i64 a (IntKind.i64.wrap (a + b))) (bits .xor .i64 b (IntKind.i64.wrap (a + b)))) ↔ (-9223372036854775808 ≤ a + b ∧ a + b ≤ 9223372036854775807) := by
  rw [signs a _ b _ ha (wrap_in _) hb (wrap_in _), wrap_i64]
  omega
theorem sub_fits (a b : Int) (ha : -9223372036854775808 ≤ a ∧ a ≤ 9223372036854775807) (hb : -9223372036854775808 ≤ b ∧ b ≤ 9223372036854775807) :
    (0 ≤ bits .and .i64 (bits .xor .i64 a b) (bits .xor .i64 a (IntKind.i64.wrap (a - b)))) ↔ (-9223372036854775808 ≤ a - b ∧ a - b ≤ 9223372036854775807) := by
  rw [signs a b a _ ha hb ha (wrap_in _), wrap_i64]
  omega
/-- How a sum of numbers ends. -/
def SumR (r : Except Int Int) (w : World) (e : Ending) (w' : World) : Prop := w' = w ∧ match r with
  | .ok n => e = .returned (.int .i64 n)
  | .error n => e = errP n
set_option maxRecDepth 100000 in
set_option maxHeartbeats 1600000 in
theorem sum_add_ok (a b s : Int) (hs : wrap64 (a + b) = s) (hg : decide (0 ≤ bits .and .i64 (bits .xor .i64 a s) (bits .xor .i64 b s)) = true) (w : World) : Calls Tryz.prog 47 #[.int .i64 11, .int .i64 a, .int .i64 b] w fun e w' => e = .returned (.int .i64 s) ∧ w' = w := by
  go_enter Tryz.func47, Tryz.ntmps47
  go_wp2_with fail
  refine (check_ok 40 _).mono ?_
  rintro e w' ⟨rfl, rfl⟩
  go_wp2
  go_ret
  exact ⟨rfl, rfl⟩
set_option maxRecDepth 100000 in
set_option maxHeartbeats 1600000 in
theorem sum_add_no (a b s : Int) (hs : wrap64 (a + b) = s) (hg : decide (0 ≤ bits .and .i64 (bits .xor .i64 a s) (bits .xor .i64 b s)) = false) (w : World) : Calls Tryz.prog 47 #[.int .i64 11, .int .i64 a, .int .i64 b] w fun e w' => e = errP 40 ∧ w' = w := by
  go_enter Tryz.func47, Tryz.ntmps47
  go_wp2_with fail
  refine (check_no 40 _).mono ?_
  rintro e w' ⟨rfl, rfl⟩
  go_wp2
  exact ⟨rfl, rfl, rfl⟩
set_option maxRecDepth 100000 in
set_option maxHeartbeats 1600000 in
theorem sum_sub_ok (a b s : Int) (hs : wrap64 (a - b) = s) (hg : decide (0 ≤ bits .and .i64 (bits .xor .i64 a b) (bits .xor .i64 a s)) = true) (w : World) : Calls Tryz.prog 47 #[.int .i64 12, .int .i64 a, .int .i64 b] w fun e w' => e = .returned (.int .i64 s) ∧ w' = w := by
  go_enter Tryz.func47, Tryz.ntmps47
  go_wp2_with fail
  refine (check_ok 40 _).mono ?_
  rintro e w' ⟨rfl, rfl⟩
  go_wp2
  go_ret
  exact ⟨rfl, rfl⟩
set_option maxRecDepth 100000 in
set_option maxHeartbeats 1600000 in
theorem sum_sub_no (a b s : Int) (hs : wrap64 (a - b) = s) (hg : decide (0 ≤ bits .and .i64 (bits .xor .i64 a b) (bits .xor .i64 a s)) = false) (w : World) : Calls Tryz.prog 47 #[.int .i64 12, .int .i64 a, .int .i64 b] w fun e w' => e = errP 40 ∧ w' = w := by
  go_enter Tryz.func47, Tryz.ntmps47
  go_wp2_with fail
  refine (check_no 40 _).mono ?_
  rintro e w' ⟨rfl, rfl⟩
  go_wp2
  exact ⟨rfl, rfl, rfl⟩
set_option maxRecDepth 100000 in
set_option maxHeartbeats 1600000 in
theorem sum_14_zero (a : Int) (w : World) : Calls Tryz.prog 47 #[.int .i64 14, .int .i64 a, .int .i64 0] w fun e w' => e = errP 41 ∧ w' = w := by
  go_enter Tryz.func47, Tryz.ntmps47
  go_wp2_with fail
  refine (check_no 41 _).mono ?_
  rintro e w' ⟨rfl, rfl⟩
  go_wp2
  exact ⟨rfl, rfl, rfl⟩
set_option maxRecDepth 100000 in
set_option maxHeartbeats 1600000 in
theorem sum_15_zero (a : Int) (w : World) : Calls Tryz.prog 47 #[.int .i64 15, .int .i64 a, .int .i64 0] w fun e w' => e = errP 41 ∧ w' = w := by
  go_enter Tryz.func47, Tryz.ntmps47
  go_wp2_with fail
  refine (check_no 41 _).mono ?_
  rintro e w' ⟨rfl, rfl⟩
  go_wp2
  exact ⟨rfl, rfl, rfl⟩
set_option maxRecDepth 100000 in
set_option maxHeartbeats 1600000 in
theorem sum_rem_one (a : Int) (w : World) : Calls Tryz.prog 47 #[.int .i64 15, .int .i64 a, .int .i64 (-1)] w fun e w' => e = .returned (.int .i64 0) ∧ w' = w := by
  go_enter Tryz.func47, Tryz.ntmps47
  go_wp2_with fail
  refine (check_ok 41 _).mono ?_
  rintro e w' ⟨rfl, rfl⟩
  go_wp2
  go_ret
  exact ⟨rfl, rfl⟩
set_option maxRecDepth 100000 in
set_option maxHeartbeats 1600000 in
theorem sum_rem (a b : Int) (hb0 : ¬ b = 0) (h0 : (b != 0) = true) (h1 : (b == -1) = false) (ha : inI a) (hb : inI b) (w : World) : Calls Tryz.prog 47 #[.int .i64 15, .int .i64 a, .int .i64 b] w fun e w' => e = .returned (.int .i64 (a.tmod b)) ∧ w' = w := by
  go_enter Tryz.func47, Tryz.ntmps47
  go_wp2_with fail
  refine (check_ok 41 _).mono ?_
  rintro e w' ⟨rfl, rfl⟩
  go_wp2
  go_ret
  exact ⟨rfl, rfl⟩
set_option maxRecDepth 100000 in
set_option maxHeartbeats 1600000 in
theorem sum_div_least (w : World) : Calls Tryz.prog 47 #[.int .i64 14, .int .i64 (-9223372036854775808), .int .i64 (-1)] w fun e w' => e = errP 40 ∧ w' = w := by
  go_enter Tryz.func47, Tryz.ntmps47
  go_wp2_with fail
  refine (check_ok 41 _).mono ?_
  rintro e w' ⟨rfl, rfl⟩
  go_wp2_with fail
  refine (check_no 40 _).mono ?_
  rintro e w' ⟨rfl, rfl⟩
  go_wp2
  exact ⟨rfl, rfl, rfl⟩
set_option maxRecDepth 100000 in
set_option maxHeartbeats 1600000 in
theorem sum_div (a b q : Int) (hq : wrap64 (a.tdiv b) = q) (hb0 : ¬ b = 0) (h0 : (b != 0) = true) (h1 : (a != -9223372036854775808) = true) (ha : inI a) (hb : inI b) (w : World) : Calls Tryz.prog 47 #[.int .i64 14, .int .i64 a, .int .i64 b] w fun e w' => e = .returned (.int .i64 q) ∧ w' = w := by
  go_enter Tryz.func47, Tryz.ntmps47
  go_wp2_with fail
  refine (check_ok 41 _).mono ?_
  rintro e w' ⟨rfl, rfl⟩
  go_wp2_with fail
  refine (check_ok 40 _).mono ?_
  rintro e w' ⟨rfl, rfl⟩
  go_wp2
  go_ret
  exact ⟨ret_eq (congrArg (Value.int .i64) hq), rfl⟩
set_option maxRecDepth 100000 in
set_option maxHeartbeats 1600000 in
theorem sum_div2 (b q : Int) (hq : wrap64 (-Int.tdiv 9223372036854775808 b) = q) (hb0 : ¬ b = 0) (h0 : (b != 0) = true) (h1 : (b != -1) = true) (w : World) : Calls Tryz.prog 47 #[.int .i64 14, .int .i64 (-9223372036854775808), .int .i64 b] w fun e w' => e = .returned (.int .i64 q) ∧ w' = w := by
  go_enter Tryz.func47, Tryz.ntmps47
  go_wp2_with fail
  refine (check_ok 41 _).mono ?_
  rintro e w' ⟨rfl, rfl⟩
  go_wp2_with fail
  refine (check_ok 40 _).mono ?_
  rintro e w' ⟨rfl, rfl⟩
  go_wp2
  go_ret
  exact ⟨ret_eq (congrArg (Value.int .i64) hq), rfl⟩
theorem wrap64_id (n : Int) (h : inI n) : wrap64 n = n := IntWalk.wrap64_in n h
theorem tdiv_abs (a b : Int) : (a.tdiv b).natAbs ≤ a.natAbs := by
  rw [Int.natAbs_tdiv]; exact Nat.div_le_self _ _
theorem tdiv_in (a b : Int) (ha : inI a) (h : ¬ (a = -9223372036854775808 ∧ b = -1)) : inI (a.tdiv b) := by
  have h1 := tdiv_abs a b
  obtain ⟨h2, h3⟩ := ha
  by_cases hl : a = -9223372036854775808
  · by_cases hb : b.natAbs ≤ 1
    · have hb : b = 0 ∨ b = 1 := by
        have : ¬ b = -1 := fun e => h ⟨hl, e⟩
        omega
      rcases hb with rfl | rfl
      · rw [Int.tdiv_zero]; exact ⟨by omega, by omega⟩
      · rw [Int.tdiv_one]; exact ⟨by omega, by omega⟩
    · have : (a.tdiv b).natAbs ≤ 9223372036854775808 / 2 := by
        rw [Int.natAbs_tdiv, hl]
        exact Nat.div_le_div_left (by omega) (by omega)
      exact ⟨by omega, by omega⟩
  · exact ⟨by omega, by omega⟩
end Go.Proofs.YtbeeaikilcnpgaaGreatDoor.Exp

/- calc.sum: products; calc.sum whole. -/
set_option linter.unusedVariables false
set_option linter.unusedSimpArgs false
namespace Go.Proofs.YtbeeaikilcnpgaaGreatDoor.Exp
open Go.RowKit Go.Proofs.YtbeeaikilcnpgaaGreatDoor.Base Go.Proofs.YtbeeaikilcnpgaaGreatDoor.App Go.Proofs.YtbeeaikilcnpgaaGreatDoor.Byt

set_option maxRecDepth 100000 in
set_option maxHeartbeats 1600000 in
theorem size_neg (n : Int) (x : Int) (h : n < 0) (hx : IntKind.u64.wrap (-IntKind.u64.wrap n) = x) (w : World) : Calls Tryz.prog 90 #[.int .i64 n] w fun e w' => e = .returned (.int .u64 x) ∧ w' = w := by
  go_enter Tryz.func90, Tryz.ntmps90
  go_wp2
  go_ret
  exact ⟨rfl, rfl⟩
theorem size_pos (n : Int) (x : Int) (h : ¬ n < 0) (hx : IntKind.u64.wrap n = x) (w : World) : Calls Tryz.prog 90 #[.int .i64 n] w fun e w' => e = .returned (.int .u64 x) ∧ w' = w := by
  go_enter Tryz.func90, Tryz.ntmps90
  go_wp2
  go_ret
  exact ⟨rfl, rfl⟩
theorem size_calls (n : Int) (h : inI n) (w : World) : Calls Tryz.prog 90 #[.int .i64 n] w fun e w' => e = .returned (.int .u64 (n.natAbs : Int)) ∧ w' = w := by
  obtain ⟨h1, h2⟩ := h
  by_cases hn : n < 0
  · exact size_neg n _ hn (by rw [IntKind.wrap_u64, IntKind.wrap_u64]; omega) w
  · exact size_pos n _ hn (by rw [IntKind.wrap_u64]; omega) w
set_option maxRecDepth 100000 in
set_option maxHeartbeats 1600000 in
theorem prod_00_ok (a b : Int) (h1 : decide (a < 0) = false) (h2 : decide (b < 0) = false) (L : Nat) (hL : (L : Int) ≤ 9223372036854775807) (z : Int) (hz : IntKind.i64.wrap (L : Int) = z) (x y : Nat) (hS : ∀ w, Calls Tryz.prog 90 #[.int .i64 a] w fun e w' => e = .returned (.int .u64 (x : Int)) ∧ w' = w) (hT : ∀ w, Calls Tryz.prog 90 #[.int .i64 b] w fun e w' => e = .returned (.int .u64 (y : Int)) ∧ w' = w) (hM : ∀ w, Calls Tryz.prog 89 #[.int .u64 x, .int .u64 y] w fun e w' => e = .returned (.tuple #[.int .u64 (0 : Int), .int .u64 (L : Int)]) ∧ w' = w) (w : World) : Calls Tryz.prog 66 #[.int .i64 a, .int .i64 b] w fun e w' => e = .returned (.int .i64 z) ∧ w' = w := by
  have HS := Asd.mk hS
  have HT := Asd.mk hT
  have HM := Asd.mk hM
  clear hS hT hM
  go_enter Tryz.func66, Tryz.ntmps66
  go_wp2_with fail
  refine (HS.out _).mono ?_
  rintro e w' ⟨rfl, rfl⟩
  go_wp2_with fail
  refine (HT.out _).mono ?_
  rintro e w' ⟨rfl, rfl⟩
  go_wp2_with fail
  refine (HM.out _).mono ?_
  rintro e w' ⟨rfl, rfl⟩
  go_wp2_with fail
  refine (check_ok 40 _).mono ?_
  rintro e w' ⟨rfl, rfl⟩
  go_wp2
  go_ret
  exact ⟨rfl, rfl⟩
set_option maxRecDepth 100000 in
set_option maxHeartbeats 1600000 in
theorem prod_00_no (a b : Int) (h1 : decide (a < 0) = false) (h2 : decide (b < 0) = false) (L : Nat) (hL : decide ((L : Int) ≤ 9223372036854775807) = false) (x y : Nat) (hS : ∀ w, Calls Tryz.prog 90 #[.int .i64 a] w fun e w' => e = .returned (.int .u64 (x : Int)) ∧ w' = w) (hT : ∀ w, Calls Tryz.prog 90 #[.int .i64 b] w fun e w' => e = .returned (.int .u64 (y : Int)) ∧ w' = w) (hM : ∀ w, Calls Tryz.prog 89 #[.int .u64 x, .int .u64 y] w fun e w' => e = .returned (.tuple #[.int .u64 (0 : Int), .int .u64 (L : Int)]) ∧ w' = w) (w : World) : Calls Tryz.prog 66 #[.int .i64 a, .int .i64 b] w fun e w' => e = errP 40 ∧ w' = w := by
  have HS := Asd.mk hS
  have HT := Asd.mk hT
  have HM := Asd.mk hM
  clear hS hT hM
  go_enter Tryz.func66, Tryz.ntmps66
  go_wp2_with fail
  refine (HS.out _).mono ?_
  rintro e w' ⟨rfl, rfl⟩
  go_wp2_with fail
  refine (HT.out _).mono ?_
  rintro e w' ⟨rfl, rfl⟩
  go_wp2_with fail
  refine (HM.out _).mono ?_
  rintro e w' ⟨rfl, rfl⟩
  go_wp2_with fail
  refine (check_no 40 _).mono ?_
  rintro e w' ⟨rfl, rfl⟩
  go_wp2
  exact ⟨rfl, rfl, rfl⟩
set_option maxRecDepth 100000 in
set_option maxHeartbeats 1600000 in
theorem prod_00_hi (a b : Int) (h1 : decide (a < 0) = false) (h2 : decide (b < 0) = false) (L : Nat) (H : Int) (hH : (H == 0) = false) (x y : Nat) (hS : ∀ w, Calls Tryz.prog 90 #[.int .i64 a] w fun e w' => e = .returned (.int .u64 (x : Int)) ∧ w' = w) (hT : ∀ w, Calls Tryz.prog 90 #[.int .i64 b] w fun e w' => e = .returned (.int .u64 (y : Int)) ∧ w' = w) (hM : ∀ w, Calls Tryz.prog 89 #[.int .u64 x, .int .u64 y] w fun e w' => e = .returned (.tuple #[.int .u64 H, .int .u64 (L : Int)]) ∧ w' = w) (w : World) : Calls Tryz.prog 66 #[.int .i64 a, .int .i64 b] w fun e w' => e = errP 40 ∧ w' = w := by
  have HS := Asd.mk hS
  have HT := Asd.mk hT
  have HM := Asd.mk hM
  clear hS hT hM
  go_enter Tryz.func66, Tryz.ntmps66
  go_wp2_with fail
  refine (HS.out _).mono ?_
  rintro e w' ⟨rfl, rfl⟩
  go_wp2_with fail
  refine (HT.out _).mono ?_
  rintro e w' ⟨rfl, rfl⟩
  go_wp2_with fail
  refine (HM.out _).mono ?_
  rintro e w' ⟨rfl, rfl⟩
  go_wp2_with fail
  refine (check_no 40 _).mono ?_
  rintro e w' ⟨rfl, rfl⟩
  go_wp2
  exact ⟨rfl, rfl, rfl⟩
set_option maxRecDepth 100000 in
set_option maxHeartbeats 1600000 in
theorem prod_01_ok (a b : Int) (h1 : decide (a < 0) = false) (h2 : decide (b < 0) = true) (L : Nat) (hL : (L : Int) ≤ 9223372036854775808) (z : Int) (hz : IntKind.i64.wrap (IntKind.u64.wrap (-(L : Int))) = z) (x y : Nat) (hS : ∀ w, Calls Tryz.prog 90 #[.int .i64 a] w fun e w' => e = .returned (.int .u64 (x : Int)) ∧ w' = w) (hT : ∀ w, Calls Tryz.prog 90 #[.int .i64 b] w fun e w' => e = .returned (.int .u64 (y : Int)) ∧ w' = w) (hM : ∀ w, Calls Tryz.prog 89 #[.int .u64 x, .int .u64 y] w fun e w' => e = .returned (.tuple #[.int .u64 (0 : Int), .int .u64 (L : Int)]) ∧ w' = w) (w : World) : Calls Tryz.prog 66 #[.int .i64 a, .int .i64 b] w fun e w' => e = .returned (.int .i64 z) ∧ w' = w := by
  have HS := Asd.mk hS
  have HT := Asd.mk hT
  have HM := Asd.mk hM
  clear hS hT hM
  go_enter Tryz.func66, Tryz.ntmps66
  go_wp2_with fail
  refine (HS.out _).mono ?_
  rintro e w' ⟨rfl, rfl⟩
  go_wp2_with fail
  refine (HT.out _).mono ?_
  rintro e w' ⟨rfl, rfl⟩
  go_wp2_with fail
  refine (HM.out _).mono ?_
  rintro e w' ⟨rfl, rfl⟩
  go_wp2_with fail
  refine (check_ok 40 _).mono ?_
  rintro e w' ⟨rfl, rfl⟩
  go_wp2
  go_ret
  exact ⟨rfl, rfl⟩
set_option maxRecDepth 100000 in
set_option maxHeartbeats 1600000 in
theorem prod_01_no (a b : Int) (h1 : decide (a < 0) = false) (h2 : decide (b < 0) = true) (L : Nat) (hL : decide ((L : Int) ≤ 9223372036854775808) = false) (x y : Nat) (hS : ∀ w, Calls Tryz.prog 90 #[.int .i64 a] w fun e w' => e = .returned (.int .u64 (x : Int)) ∧ w' = w) (hT : ∀ w, Calls Tryz.prog 90 #[.int .i64 b] w fun e w' => e = .returned (.int .u64 (y : Int)) ∧ w' = w) (hM : ∀ w, Calls Tryz.prog 89 #[.int .u64 x, .int .u64 y] w fun e w' => e = .returned (.tuple #[.int .u64 (0 : Int), .int .u64 (L : Int)]) ∧ w' = w) (w : World) : Calls Tryz.prog 66 #[.int .i64 a, .int .i64 b] w fun e w' => e = errP 40 ∧ w' = w := by
  have HS := Asd.mk hS
  have HT := Asd.mk hT
  have HM := Asd.mk hM
  clear hS hT hM
  go_enter Tryz.func66, Tryz.ntmps66
  go_wp2_with fail
  refine (HS.out _).mono ?_
  rintro e w' ⟨rfl, rfl⟩
  go_wp2_with fail
  refine (HT.out _).mono ?_
  rintro e w' ⟨rfl, rfl⟩
  go_wp2_with fail
  refine (HM.out _).mono ?_
  rintro e w' ⟨rfl, rfl⟩
  go_wp2_with fail
  refine (check_no 40 _).mono ?_
  rintro e w' ⟨rfl, rfl⟩
  go_wp2
  exact ⟨rfl, rfl, rfl⟩
set_option maxRecDepth 100000 in
set_option maxHeartbeats 1600000 in
theorem prod_01_hi (a b : Int) (h1 : decide (a < 0) = false) (h2 : decide (b < 0) = true) (L : Nat) (H : Int) (hH : (H == 0) = false) (x y : Nat) (hS : ∀ w, Calls Tryz.prog 90 #[.int .i64 a] w fun e w' => e = .returned (.int .u64 (x : Int)) ∧ w' = w) (hT : ∀ w, Calls Tryz.prog 90 #[.int .i64 b] w fun e w' => e = .returned (.int .u64 (y : Int)) ∧ w' = w) (hM : ∀ w, Calls Tryz.prog 89 #[.int .u64 x, .int .u64 y] w fun e w' => e = .returned (.tuple #[.int .u64 H, .int .u64 (L : Int)]) ∧ w' = w) (w : World) : Calls Tryz.prog 66 #[.int .i64 a, .int .i64 b] w fun e w' => e = errP 40 ∧ w' = w := by
  have HS := Asd.mk hS
  have HT := Asd.mk hT
  have HM := Asd.mk hM
  clear hS hT hM
  go_enter Tryz.func66, Tryz.ntmps66
  go_wp2_with fail
  refine (HS.out _).mono ?_
  rintro e w' ⟨rfl, rfl⟩
  go_wp2_with fail
  refine (HT.out _).mono ?_
  rintro e w' ⟨rfl, rfl⟩
  go_wp2_with fail
  refine (HM.out _).mono ?_
  rintro e w' ⟨rfl, rfl⟩
  go_wp2_with fail
  refine (check_no 40 _).mono ?_
  rintro e w' ⟨rfl, rfl⟩
  go_wp2
  exact ⟨rfl, rfl, rfl⟩
set_option maxRecDepth 100000 in
set_option maxHeartbeats 1600000 in
theorem prod_10_ok (a b : Int) (h1 : decide (a < 0) = true) (h2 : decide (b < 0) = false) (L : Nat) (hL : (L : Int) ≤ 9223372036854775808) (z : Int) (hz : IntKind.i64.wrap (IntKind.u64.wrap (-(L : Int))) = z) (x y : Nat) (hS : ∀ w, Calls Tryz.prog 90 #[.int .i64 a] w fun e w' => e = .returned (.int .u64 (x : Int)) ∧ w' = w) (hT : ∀ w, Calls Tryz.prog 90 #[.int .i64 b] w fun e w' => e = .returned (.int .u64 (y : Int)) ∧ w' = w) (hM : ∀ w, Calls Tryz.prog 89 #[.int .u64 x, .int .u64 y] w fun e w' => e = .returned (.tuple #[.int .u64 (0 : Int), .int .u64 (L : Int)]) ∧ w' = w) (w : World) : Calls Tryz.prog 66 #[.int .i64 a, .int .i64 b] w fun e w' => e = .returned (.int .i64 z) ∧ w' = w := by
  have HS := Asd.mk hS
  have HT := Asd.mk hT
  have HM := Asd.mk hM
  clear hS hT hM
  go_enter Tryz.func66, Tryz.ntmps66
  go_wp2_with fail
  refine (HS.out _).mono ?_
  rintro e w' ⟨rfl, rfl⟩
  go_wp2_with fail
  refine (HT.out _).mono ?_
  rintro e w' ⟨rfl, rfl⟩
  go_wp2_with fail
  refine (HM.out _).mono ?_
  rintro e w' ⟨rfl, rfl⟩
  go_wp2_with fail
  refine (check_ok 40 _).mono ?_
  rintro e w' ⟨rfl, rfl⟩
  go_wp2
  go_ret
  exact ⟨rfl, rfl⟩
set_option maxRecDepth 100000 in
set_option maxHeartbeats 1600000 in
theorem prod_10_no (a b : Int) (h1 : decide (a < 0) = true) (h2 : decide (b < 0) = false) (L : Nat) (hL : decide ((L : Int) ≤ 9223372036854775808) = false) (x y : Nat) (hS : ∀ w, Calls Tryz.prog 90 #[.int .i64 a] w fun e w' => e = .returned (.int .u64 (x : Int)) ∧ w' = w) (hT : ∀ w, Calls Tryz.prog 90 #[.int .i64 b] w fun e w' => e = .returned (.int .u64 (y : Int)) ∧ w' = w) (hM : ∀ w, Calls Tryz.prog 89 #[.int .u64 x, .int .u64 y] w fun e w' => e = .returned (.tuple #[.int .u64 (0 : Int), .int .u64 (L : Int)]) ∧ w' = w) (w : World) : Calls Tryz.prog 66 #[.int .i64 a, .int .i64 b] w fun e w' => e = errP 40 ∧ w' = w := by
  have HS := Asd.mk hS
  have HT := Asd.mk hT
  have HM := Asd.mk hM
  clear hS hT hM
  go_enter Tryz.func66, Tryz.ntmps66
  go_wp2_with fail
  refine (HS.out _).mono ?_
  rintro e w' ⟨rfl, rfl⟩
  go_wp2_with fail
  refine (HT.out _).mono ?_
  rintro e w' ⟨rfl, rfl⟩
  go_wp2_with fail
  refine (HM.out _).mono ?_
  rintro e w' ⟨rfl, rfl⟩
  go_wp2_with fail
  refine (check_no 40 _).mono ?_
  rintro e w' ⟨rfl, rfl⟩
  go_wp2
  exact ⟨rfl, rfl, rfl⟩
set_option maxRecDepth 100000 in
set_option maxHeartbeats 1600000 in
theorem prod_10_hi (a b : Int) (h1 : decide (a < 0) = true) (h2 : decide (b < 0) = false) (L : Nat) (H : Int) (hH : (H == 0) = false) (x y : Nat) (hS : ∀ w, Calls Tryz.prog 90 #[.int .i64 a] w fun e w' => e = .returned (.int .u64 (x : Int)) ∧ w' = w) (hT : ∀ w, Calls Tryz.prog 90 #[.int .i64 b] w fun e w' => e = .returned (.int .u64 (y : Int)) ∧ w' = w) (hM : ∀ w, Calls Tryz.prog 89 #[.int .u64 x, .int .u64 y] w fun e w' => e = .returned (.tuple #[.int .u64 H, .int .u64 (L : Int)]) ∧ w' = w) (w : World) : Calls Tryz.prog 66 #[.int .i64 a, .int .i64 b] w fun e w' => e = errP 40 ∧ w' = w := by
  have HS := Asd.mk hS
  have HT := Asd.mk hT
  have HM := Asd.mk hM
  clear hS hT hM
  go_enter Tryz.func66, Tryz.ntmps66
  go_wp2_with fail
  refine (HS.out _).mono ?_
  rintro e w' ⟨rfl, rfl⟩
  go_wp2_with fail
  refine (HT.out _).mono ?_
  rintro e w' ⟨rfl, rfl⟩
  go_wp2_with fail
  refine (HM.out _).mono ?_
  rintro e w' ⟨rfl, rfl⟩
  go_wp2_with fail
  refine (check_no 40 _).mono ?_
  rintro e w' ⟨rfl, rfl⟩
  go_wp2
  exact ⟨rfl, rfl, rfl⟩
set_option maxRecDepth 100000 in
set_option maxHeartbeats 1600000 in
theorem prod_11_ok (a b : Int) (h1 : decide (a < 0) = true) (h2 : decide (b < 0) = true) (L : Nat) (hL : (L : Int) ≤ 9223372036854775807) (z : Int) (hz : IntKind.i64.wrap (L : Int) = z) (x y : Nat) (hS : ∀ w, Calls Tryz.prog 90 #[.int .i64 a] w fun e w' => e = .returned (.int .u64 (x : Int)) ∧ w' = w) (hT : ∀ w, Calls Tryz.prog 90 #[.int .i64 b] w fun e w' => e = .returned (.int .u64 (y : Int)) ∧ w' = w) (hM : ∀ w, Calls Tryz.prog 89 #[.int .u64 x, .int .u64 y] w fun e w' => e = .returned (.tuple #[.int .u64 (0 : Int), .int .u64 (L : Int)]) ∧ w' = w) (w : World) : Calls Tryz.prog 66 #[.int .i64 a, .int .i64 b] w fun e w' => e = .returned (.int .i64 z) ∧ w' = w := by
  have HS := Asd.mk hS
  have HT := Asd.mk hT
  have HM := Asd.mk hM
  clear hS hT hM
  go_enter Tryz.func66, Tryz.ntmps66
  go_wp2_with fail
  refine (HS.out _).mono ?_
  rintro e w' ⟨rfl, rfl⟩
  go_wp2_with fail
  refine (HT.out _).mono ?_
  rintro e w' ⟨rfl, rfl⟩
  go_wp2_with fail
  refine (HM.out _).mono ?_
  rintro e w' ⟨rfl, rfl⟩
  go_wp2_with fail
  refine (check_ok 40 _).mono ?_
  rintro e w' ⟨rfl, rfl⟩
  go_wp2
  go_ret
  exact ⟨rfl, rfl⟩
set_option maxRecDepth 100000 in
set_option maxHeartbeats 1600000 in
theorem prod_11_no (a b : Int) (h1 : decide (a < 0) = true) (h2 : decide (b < 0) = true) (L : Nat) (hL : decide ((L : Int) ≤ 9223372036854775807) = false) (x y : Nat) (hS : ∀ w, Calls Tryz.prog 90 #[.int .i64 a] w fun e w' => e = .returned (.int .u64 (x : Int)) ∧ w' = w) (hT : ∀ w, Calls Tryz.prog 90 #[.int .i64 b] w fun e w' => e = .returned (.int .u64 (y : Int)) ∧ w' = w) (hM : ∀ w, Calls Tryz.prog 89 #[.int .u64 x, .int .u64 y] w fun e w' => e = .returned (.tuple #[.int .u64 (0 : Int), .int .u64 (L : Int)]) ∧ w' = w) (w : World) : Calls Tryz.prog 66 #[.int .i64 a, .int .i64 b] w fun e w' => e = errP 40 ∧ w' = w := by
  have HS := Asd.mk hS
  have HT := Asd.mk hT
  have HM := Asd.mk hM
  clear hS hT hM
  go_enter Tryz.func66, Tryz.ntmps66
  go_wp2_with fail
  refine (HS.out _).mono ?_
  rintro e w' ⟨rfl, rfl⟩
  go_wp2_with fail
  refine (HT.out _).mono ?_
  rintro e w' ⟨rfl, rfl⟩
  go_wp2_with fail
  refine (HM.out _).mono ?_
  rintro e w' ⟨rfl, rfl⟩
  go_wp2_with fail
  refine (check_no 40 _).mono ?_
  rintro e w' ⟨rfl, rfl⟩
  go_wp2
  exact ⟨rfl, rfl, rfl⟩
set_option maxRecDepth 100000 in
set_option maxHeartbeats 1600000 in
theorem prod_11_hi (a b : Int) (h1 : decide (a < 0) = true) (h2 : decide (b < 0) = true) (L : Nat) (H : Int) (hH : (H == 0) = false) (x y : Nat) (hS : ∀ w, Calls Tryz.prog 90 #[.int .i64 a] w fun e w' => e = .returned (.int .u64 (x : Int)) ∧ w' = w) (hT : ∀ w, Calls Tryz.prog 90 #[.int .i64 b] w fun e w' => e = .returned (.int .u64 (y : Int)) ∧ w' = w) (hM : ∀ w, Calls Tryz.prog 89 #[.int .u64 x, .int .u64 y] w fun e w' => e = .returned (.tuple #[.int .u64 H, .int .u64 (L : Int)]) ∧ w' = w) (w : World) : Calls Tryz.prog 66 #[.int .i64 a, .int .i64 b] w fun e w' => e = errP 40 ∧ w' = w := by
  have HS := Asd.mk hS
  have HT := Asd.mk hT
  have HM := Asd.mk hM
  clear hS hT hM
  go_enter Tryz.func66, Tryz.ntmps66
  go_wp2_with fail
  refine (HS.out _).mono ?_
  rintro e w' ⟨rfl, rfl⟩
  go_wp2_with fail
  refine (HT.out _).mono ?_
  rintro e w' ⟨rfl, rfl⟩
  go_wp2_with fail
  refine (HM.out _).mono ?_
  rintro e w' ⟨rfl, rfl⟩
  go_wp2_with fail
  refine (check_no 40 _).mono ?_
  rintro e w' ⟨rfl, rfl⟩
  go_wp2
  exact ⟨rfl, rfl, rfl⟩
theorem i64_left' (n : Int) : IntKind.i64.wrap n = (n + 9223372036854775808) % 18446744073709551616 - 9223372036854775808 := IntKind.wrap_i64 n
theorem prod_calls (a b : Int) (ha : inI a) (hb : inI b) (w : World) : Calls Tryz.prog 66 #[.int .i64 a, .int .i64 b] w (SumR (numN (a * b)) w) := by
  have hx : a.natAbs < 18446744073709551616 := by have := ha.1; have := ha.2; omega
  have hy : b.natAbs < 18446744073709551616 := by have := hb.1; have := hb.2; omega
  have hM := fun w => Tryz.bits_Mul64 a.natAbs b.natAbs hx hy w
  have hP := Int.natAbs_mul a b
  generalize a.natAbs * b.natAbs = P at hM hP
  by_cases h1 : a < 0
  · by_cases h2 : b < 0
    · have hs : 0 ≤ a * b := Int.mul_nonneg_of_nonpos_of_nonpos (by omega) (by omega)
      generalize a * b = ab at *
      by_cases hH : P / 18446744073709551616 = 0
      · rw [hH] at hM
        have hPL : P % 18446744073709551616 = P := by omega
        rw [hPL] at hM
        by_cases hL : (P : Int) ≤ 9223372036854775807
        · rw [show numN ab = .ok ab from if_pos ⟨by omega, by omega⟩]
          exact (prod_11_ok a b (decide_eq_true h1) (decide_eq_true h2) P hL ab (by rw [i64_left']; omega) _ _ (size_calls a ha) (size_calls b hb) hM w).mono fun e w' h => ⟨h.2, h.1⟩
        · rw [show numN ab = .error 40 from if_neg (by unfold inI; omega)]
          exact (prod_11_no a b (decide_eq_true h1) (decide_eq_true h2) P (decide_eq_false hL) _ _ (size_calls a ha) (size_calls b hb) hM w).mono fun e w' h => ⟨h.2, h.1⟩
      · rw [show numN ab = .error 40 from if_neg (by unfold inI; omega)]
        exact (prod_11_hi a b (decide_eq_true h1) (decide_eq_true h2) _ _ (by rw [beq_eq_false_iff_ne]; omega) _ _ (size_calls a ha) (size_calls b hb) hM w).mono fun e w' h => ⟨h.2, h.1⟩
    · have hs : a * b ≤ 0 := Int.mul_nonpos_of_nonpos_of_nonneg (by omega) (by omega)
      generalize a * b = ab at *
      by_cases hH : P / 18446744073709551616 = 0
      · rw [hH] at hM
        have hPL : P % 18446744073709551616 = P := by omega
        rw [hPL] at hM
        by_cases hL : (P : Int) ≤ 9223372036854775808
        · rw [show numN ab = .ok ab from if_pos ⟨by omega, by omega⟩]
          exact (prod_10_ok a b (decide_eq_true h1) (decide_eq_false h2) P hL ab (by rw [i64_left', IntKind.wrap_u64]; omega) _ _ (size_calls a ha) (size_calls b hb) hM w).mono fun e w' h => ⟨h.2, h.1⟩
        · rw [show numN ab = .error 40 from if_neg (by unfold inI; omega)]
          exact (prod_10_no a b (decide_eq_true h1) (decide_eq_false h2) P (decide_eq_false hL) _ _ (size_calls a ha) (size_calls b hb) hM w).mono fun e w' h => ⟨h.2, h.1⟩
      · rw [show numN ab = .error 40 from if_neg (by unfold inI; omega)]
        exact (prod_10_hi a b (decide_eq_true h1) (decide_eq_false h2) _ _ (by rw [beq_eq_false_iff_ne]; omega) _ _ (size_calls a ha) (size_calls b hb) hM w).mono fun e w' h => ⟨h.2, h.1⟩
  · by_cases h2 : b < 0
    · have hs : a * b ≤ 0 := Int.mul_nonpos_of_nonneg_of_nonpos (by omega) (by omega)
      generalize a * b = ab at *
      by_cases hH : P / 18446744073709551616 = 0
      · rw [hH] at hM
        have hPL : P % 18446744073709551616 = P := by omega
        rw [hPL] at hM
        by_cases hL : (P : Int) ≤ 9223372036854775808
        · rw [show numN ab = .ok ab from if_pos ⟨by omega, by omega⟩]
          exact (prod_01_ok a b (decide_eq_false h1) (decide_eq_true h2) P hL ab (by rw [i64_left', IntKind.wrap_u64]; omega) _ _ (size_calls a ha) (size_calls b hb) hM w).mono fun e w' h => ⟨h.2, h.1⟩
        · rw [show numN ab = .error 40 from if_neg (by unfold inI; omega)]
          exact (prod_01_no a b (decide_eq_false h1) (decide_eq_true h2) P (decide_eq_false hL) _ _ (size_calls a ha) (size_calls b hb) hM w).mono fun e w' h => ⟨h.2, h.1⟩
      · rw [show numN ab = .error 40 from if_neg (by unfold inI; omega)]
        exact (prod_01_hi a b (decide_eq_false h1) (decide_eq_true h2) _ _ (by rw [beq_eq_false_iff_ne]; omega) _ _ (size_calls a ha) (size_calls b hb) hM w).mono fun e w' h => ⟨h.2, h.1⟩
    · have hs : 0 ≤ a * b := Int.mul_nonneg (by omega) (by omega)
      generalize a * b = ab at *
      by_cases hH : P / 18446744073709551616 = 0
      · rw [hH] at hM
        have hPL : P % 18446744073709551616 = P := by omega
        rw [hPL] at hM
        by_cases hL : (P : Int) ≤ 9223372036854775807
        · rw [show numN ab = .ok ab from if_pos ⟨by omega, by omega⟩]
          exact (prod_00_ok a b (decide_eq_false h1) (decide_eq_false h2) P hL ab (by rw [i64_left']; omega) _ _ (size_calls a ha) (size_calls b hb) hM w).mono fun e w' h => ⟨h.2, h.1⟩
        · rw [show numN ab = .error 40 from if_neg (by unfold inI; omega)]
          exact (prod_00_no a b (decide_eq_false h1) (decide_eq_false h2) P (decide_eq_false hL) _ _ (size_calls a ha) (size_calls b hb) hM w).mono fun e w' h => ⟨h.2, h.1⟩
      · rw [show numN ab = .error 40 from if_neg (by unfold inI; omega)]
        exact (prod_00_hi a b (decide_eq_false h1) (decide_eq_false h2) _ _ (by rw [beq_eq_false_iff_ne]; omega) _ _ (size_calls a ha) (size_calls b hb) hM w).mono fun e w' h => ⟨h.2, h.1⟩
set_option maxRecDepth 100000 in
set_option maxHeartbeats 1600000 in
theorem sum_mul_ok (a b z : Int) (h : ∀ w, Calls Tryz.prog 66 #[.int .i64 a, .int .i64 b] w fun e w' => e = .returned (.int .i64 z) ∧ w' = w) (w : World) : Calls Tryz.prog 47 #[.int .i64 13, .int .i64 a, .int .i64 b] w fun e w' => e = .returned (.int .i64 z) ∧ w' = w := by
  have H := Asd.mk h
  clear h
  go_enter Tryz.func47, Tryz.ntmps47
  go_wp2_with fail
  refine (H.out _).mono ?_
  rintro e w' ⟨rfl, rfl⟩
  go_wp2
  go_ret
  exact ⟨rfl, rfl⟩
set_option maxRecDepth 100000 in
set_option maxHeartbeats 1600000 in
theorem sum_mul_no (a b : Int) (h : ∀ w, Calls Tryz.prog 66 #[.int .i64 a, .int .i64 b] w fun e w' => e = errP 40 ∧ w' = w) (w : World) : Calls Tryz.prog 47 #[.int .i64 13, .int .i64 a, .int .i64 b] w fun e w' => e = errP 40 ∧ w' = w := by
  have H := Asd.mk h
  clear h
  go_enter Tryz.func47, Tryz.ntmps47
  go_wp2_with fail
  refine (H.out _).mono ?_
  rintro e w' ⟨rfl, rfl⟩
  go_wp2
  exact ⟨rfl, rfl, rfl⟩
/-- calc.sum. -/
theorem sum_calls (op a b : Int) (h : 11 ≤ op) (h' : op ≤ 15) (ha : inI a) (hb : inI b) (w : World) : Calls Tryz.prog 47 #[.int .i64 op, .int .i64 a, .int .i64 b] w (SumR (sumN op a b) w) := by
  have hc : op = 11 ∨ op = 12 ∨ op = 13 ∨ op = 14 ∨ op = 15 := by omega
  have hw1 := fun n => IntWalk.i64_left n
  rcases hc with rfl | rfl | rfl | rfl | rfl
  · have hg := add_fits a b ha hb
    rw [show sumN 11 a b = numN (a + b) from rfl]
    unfold numN
    rw [hw1] at hg
    by_cases hi : inI (a + b)
    · rw [if_pos hi]
      rw [wrap64_id _ hi] at hg
      exact (sum_add_ok a b (a + b) (wrap64_id _ hi) (decide_eq_true (hg.2 hi)) w).mono fun e w' h => ⟨h.2, h.1⟩
    · rw [if_neg hi]
      exact (sum_add_no a b _ rfl (decide_eq_false fun h => hi (hg.1 h)) w).mono fun e w' h => ⟨h.2, h.1⟩
  · have hg := sub_fits a b ha hb
    rw [show sumN 12 a b = numN (a - b) from rfl]
    unfold numN
    rw [hw1] at hg
    by_cases hi : inI (a - b)
    · rw [if_pos hi]
      rw [wrap64_id _ hi] at hg
      exact (sum_sub_ok a b (a - b) (wrap64_id _ hi) (decide_eq_true (hg.2 hi)) w).mono fun e w' h => ⟨h.2, h.1⟩
    · rw [if_neg hi]
      exact (sum_sub_no a b _ rfl (decide_eq_false fun h => hi (hg.1 h)) w).mono fun e w' h => ⟨h.2, h.1⟩
  · rw [show sumN 13 a b = numN (a * b) from rfl]
    have hp := prod_calls a b ha hb
    unfold numN at hp ⊢
    by_cases hi : inI (a * b)
    · rw [if_pos hi] at hp ⊢
      exact (sum_mul_ok a b _ (fun w => (hp w).mono fun e w' h => ⟨h.2, h.1⟩) w).mono fun e w' h => ⟨h.2, h.1⟩
    · rw [if_neg hi] at hp ⊢
      exact (sum_mul_no a b (fun w => (hp w).mono fun e w' h => ⟨h.2, h.1⟩) w).mono fun e w' h => ⟨h.2, h.1⟩
  · by_cases hz : b = 0
    · subst hz
      exact (sum_14_zero a w).mono fun e w' h => ⟨h.2, h.1⟩
    · rw [show sumN 14 a b = numN (a.tdiv b) by simp [sumN, hz]]
      unfold numN
      by_cases hl : a = -9223372036854775808
      · subst hl
        by_cases hb1 : b = -1
        · subst hb1
          rw [if_neg (by decide)]
          exact (sum_div_least w).mono fun e w' h => ⟨h.2, h.1⟩
        · have hi := tdiv_in _ b ha (fun h => hb1 h.2)
          rw [if_pos hi]
          exact (sum_div2 b _ (by rw [← Int.neg_tdiv]; exact wrap64_id _ hi) hz (by simpa using hz) (by simpa using hb1) w).mono fun e w' h => ⟨h.2, h.1⟩
      · have hi := tdiv_in a b ha (fun h => hl h.1)
        rw [if_pos hi]
        exact (sum_div a b _ (wrap64_id _ hi) hz (by simpa using hz) (by simpa using hl) ha hb w).mono fun e w' h => ⟨h.2, h.1⟩
  · by_cases hz : b = 0
    · subst hz
      exact (sum_15_zero a w).mono fun e w' h => ⟨h.2, h.1⟩
    · rw [show sumN 15 a b = .ok (a.tmod b) by simp [sumN, hz]]
      by_cases hb1 : b = -1
      · subst hb1
        rw [show a.tmod (-1) = 0 by simp]
        exact (sum_rem_one a w).mono fun e w' h => ⟨h.2, h.1⟩
      · exact (sum_rem a b hz (by simpa using hz) (by simpa using hb1) ha hb w).mono fun e w' h => ⟨h.2, h.1⟩
end Go.Proofs.YtbeeaikilcnpgaaGreatDoor.Exp

/- value.Compare at two values of one kind. -/
set_option linter.unusedVariables false
set_option linter.unusedSimpArgs false
namespace Go.Proofs.YtbeeaikilcnpgaaGreatDoor.Exp
open Go.RowKit Go.Proofs.YtbeeaikilcnpgaaGreatDoor.Base Go.Proofs.YtbeeaikilcnpgaaGreatDoor.App Go.Proofs.YtbeeaikilcnpgaaGreatDoor.Byt

theorem nan64 (x : Int) (w : World) : Calls Tryz.prog 87 #[.int .i64 x] w fun e w' => e = .returned (.bool false) ∧ w' = w := by
  go_enter Tryz.func87, Tryz.ntmps87
  go_wp2
  go_ret
  exact ⟨rfl, rfl⟩
theorem cmp64_lt (x y : Int) (h : x < y) (w : World) : Calls Tryz.prog 64 #[.int .i64 x, .int .i64 y] w fun e w' => e = .returned (.int .i64 (-1)) ∧ w' = w := by
  go_enter Tryz.func64, Tryz.ntmps64
  go_wp2_with fail
  refine (nan64 x _).mono ?_
  rintro e w' ⟨rfl, rfl⟩
  go_wp2_with fail
  refine (nan64 y _).mono ?_
  rintro e w' ⟨rfl, rfl⟩
  go_wp2
  go_ret
  exact ⟨rfl, rfl⟩
theorem cmp64_gt (x y : Int) (h : ¬ x < y) (h' : y < x) (w : World) : Calls Tryz.prog 64 #[.int .i64 x, .int .i64 y] w fun e w' => e = .returned (.int .i64 1) ∧ w' = w := by
  go_enter Tryz.func64, Tryz.ntmps64
  go_wp2_with fail
  refine (nan64 x _).mono ?_
  rintro e w' ⟨rfl, rfl⟩
  go_wp2_with fail
  refine (nan64 y _).mono ?_
  rintro e w' ⟨rfl, rfl⟩
  go_wp2
  go_ret
  exact ⟨rfl, rfl⟩
theorem cmp64_eq (x y : Int) (h : ¬ x < y) (h' : ¬ y < x) (w : World) : Calls Tryz.prog 64 #[.int .i64 x, .int .i64 y] w fun e w' => e = .returned (.int .i64 0) ∧ w' = w := by
  go_enter Tryz.func64, Tryz.ntmps64
  go_wp2_with fail
  refine (nan64 x _).mono ?_
  rintro e w' ⟨rfl, rfl⟩
  go_wp2_with fail
  refine (nan64 y _).mono ?_
  rintro e w' ⟨rfl, rfl⟩
  go_wp2
  go_ret
  exact ⟨rfl, rfl⟩
theorem cmp64_calls (x y : Int) (w : World) : Calls Tryz.prog 64 #[.int .i64 x, .int .i64 y] w fun e w' => e = .returned (.int .i64 (if x < y then -1 else if y < x then 1 else 0)) ∧ w' = w := by
  by_cases h : x < y
  · rw [if_pos h]; exact cmp64_lt x y h w
  · rw [if_neg h]
    by_cases h' : y < x
    · rw [if_pos h']; exact cmp64_gt x y h h' w
    · rw [if_neg h']; exact cmp64_eq x y h h' w
set_option maxRecDepth 100000 in
set_option maxHeartbeats 1600000 in
theorem compare_num (k x y : Int) (hk : k = 1 ∨ k = 2) (z : Int) (s t : List UInt8) (H : Asd (∀ w, Calls Tryz.prog 64 #[.int .i64 x, .int .i64 y] w fun e w' => e = .returned (.int .i64 z) ∧ w' = w)) (w : World) :
    Calls Tryz.prog 45 #[vC ⟨k, x, s⟩, vC ⟨k, y, t⟩] w fun e w' => e = .returned (.int .i64 z) ∧ Below w.heap.size w w' := by
  unfold vC
  rcases hk with rfl | rfl
  all_goals
    go_enter Tryz.func45, Tryz.ntmps45
    go_wp2_with fail
    refine (H.out _).mono ?_
    rintro e w' ⟨rfl, rfl⟩
    go_wp2
    go_ret
    exact ⟨rfl, below_alloc (below_alloc (Below.refl _ _) _) _⟩
set_option maxRecDepth 100000 in
set_option maxHeartbeats 1600000 in
theorem compare_text (k x y : Int) (hk : k = 3 ∨ k = 4) (s t : List UInt8) (w : World) :
    Calls Tryz.prog 45 #[vC ⟨k, x, s⟩, vC ⟨k, y, t⟩] w fun e w' => e = .returned (.int .i64 (Lib.compareBytes s t)) ∧ Below w.heap.size w w' := by
  have H := Asd.mk (fun w => Tryz.strings_Compare ⟨s.toArray⟩ ⟨t.toArray⟩ w)
  unfold vC
  rcases hk with rfl | rfl
  all_goals
    go_enter Tryz.func45, Tryz.ntmps45
    go_wp2_with fail
    refine (H.out _).mono ?_
    rintro e w' ⟨rfl, rfl⟩
    go_wp2
    go_ret
    exact ⟨rfl, below_alloc (below_alloc (Below.refl _ _) _) _⟩
theorem compare_calls (a b : Vl) (ha : RV a) (hb : RV b) (hk : a.kind = b.kind) (h0 : ¬ a.kind = 0) (w : World) :
    Calls Tryz.prog 45 #[vC a, vC b] w fun e w' => e = .returned (.int .i64 (cmpV a b)) ∧ Below w.heap.size w w' := by
  cases ha with
  | null => exact absurd rfl h0
  | bool p => cases hb with
    | bool q => exact compare_num 1 _ _ (.inl rfl) _ _ _ ⟨cmp64_calls _ _⟩ w
    | null => cases hk
    | num n h => cases hk
    | text s h => cases hk
    | blob s h => cases hk
  | num n h => cases hb with
    | num m h => exact compare_num 2 _ _ (.inr rfl) _ _ _ ⟨cmp64_calls _ _⟩ w
    | null => cases hk
    | bool p => cases hk
    | text s h => cases hk
    | blob s h => cases hk
  | text s h => cases hb with
    | text t h => exact compare_text 3 _ _ (.inl rfl) _ _ w
    | null => cases hk
    | bool p => cases hk
    | num n h => cases hk
    | blob s h => cases hk
  | blob s h => cases hb with
    | blob t h => exact compare_text 4 _ _ (.inr rfl) _ _ w
    | null => cases hk
    | bool p => cases hk
    | num n h => cases hk
    | text s h => cases hk
end Go.Proofs.YtbeeaikilcnpgaaGreatDoor.Exp

/- calc.Binary. -/
set_option linter.unusedVariables false
set_option linter.unusedSimpArgs false
namespace Go.Proofs.YtbeeaikilcnpgaaGreatDoor.Exp
open Go.RowKit Go.Proofs.YtbeeaikilcnpgaaGreatDoor.Base Go.Proofs.YtbeeaikilcnpgaaGreatDoor.App Go.Proofs.YtbeeaikilcnpgaaGreatDoor.Byt

/-- The blocks of Binary's operands. -/
structure BinW (W : World) (po pa pb : Nat) (op : Int) (a b : Vl) : Prop where
  o : W.heap[po]? = some (.cells #[.int .i64 op] 3 (0, 0))
  a : W.heap[pa]? = some (vK a)
  b : W.heap[pb]? = some (vK b)
theorem BinW.below {W W' : World} {po pa pb : Nat} {op : Int} {a b : Vl} (h : BinW W po pa pb op a b) (hb : Below W.heap.size W W') : BinW W' po pa pb op a b := ⟨blk_below hb h.o, blk_below hb h.a, blk_below hb h.b⟩
theorem drewb {W : World} {g : Nat} {o : Obj} (h : W.heap[g]? = some o) : W.drew.heap[g]? = some o := h
theorem bcat (a b : List UInt8) : (⟨a.toArray⟩ : ByteArray) ++ ⟨b.toArray⟩ = ⟨(a ++ b).toArray⟩ := by
  apply ByteArray.ext
  simp
set_option maxRecDepth 100000 in
set_option maxHeartbeats 6400000 in
theorem bin_L3_a (ka kb : Int) (h1 : (ka == 1) = false) (h0 : (ka == 0) = false) (i j : Int) (s t : List UInt8) (po pa pb : Nat) (w : World) (h : BinW w po pa pb 3 ⟨ka, i, s⟩ ⟨kb, j, t⟩) :
    Calls Tryz.prog 41 #[.pointer (some ⟨po, 0, none⟩), .pointer (some ⟨pa, 0, none⟩), .pointer (some ⟨pb, 0, none⟩)] w (EvR (.error 35) w) := by
  have HW := Asd.mk h
  have HX := Asd.mk (blk_new w zeroV)
  have HB : Asd (Below w.heap.size w (w.alloc zeroV)) := Asd.mk (below_alloc (Below.refl _ _) _)
  clear h
  go_enter Tryz.func41, Tryz.ntmps41
  go_upto_region 1 with fail
  generalize w.alloc _ = w1 at HX HB ⊢
  have HW1 := Asd.mk (HW.out.below HB.out)
  have o0 := (blk_cell HW1.out.o 0).trans rfl
  obtain ⟨a0, a1, a2⟩ := val_cells HW1.out.a
  obtain ⟨b0, b1, b2⟩ := val_cells HW1.out.b
  obtain ⟨⟨x0, x1, x2⟩, y0, y1, y2⟩ := zero_cells HX.out
  simp only at a0 a1 a2 b0 b1 b2
  go_wp2_with fail
  refine (check_ok 5 _).mono ?_
  rintro e w' ⟨rfl, rfl⟩
  go_wp2_with fail
  refine (wants_bool 3 (by decide) _).mono ?_
  rintro e w' ⟨rfl, rfl⟩
  go_wp2_with fail
  refine (check_no 35 _).mono ?_
  rintro e w' ⟨rfl, rfl⟩
  go_wp2
  exact ⟨rfl, HB.out, rfl⟩
set_option maxRecDepth 100000 in
set_option maxHeartbeats 6400000 in
theorem bin_L3_b0 (kb : Int) (h1 : (kb == 1) = false) (h0 : (kb == 0) = false) (i j : Int) (s t : List UInt8) (po pa pb : Nat) (w : World) (h : BinW w po pa pb 3 ⟨0, i, s⟩ ⟨kb, j, t⟩) :
    Calls Tryz.prog 41 #[.pointer (some ⟨po, 0, none⟩), .pointer (some ⟨pa, 0, none⟩), .pointer (some ⟨pb, 0, none⟩)] w (EvR (.error 35) w) := by
  have HW := Asd.mk h
  have HX := Asd.mk (blk_new w zeroV)
  have HB : Asd (Below w.heap.size w (w.alloc zeroV)) := Asd.mk (below_alloc (Below.refl _ _) _)
  clear h
  go_enter Tryz.func41, Tryz.ntmps41
  go_upto_region 1 with fail
  generalize w.alloc _ = w1 at HX HB ⊢
  have HW1 := Asd.mk (HW.out.below HB.out)
  have o0 := (blk_cell HW1.out.o 0).trans rfl
  obtain ⟨a0, a1, a2⟩ := val_cells HW1.out.a
  obtain ⟨b0, b1, b2⟩ := val_cells HW1.out.b
  obtain ⟨⟨x0, x1, x2⟩, y0, y1, y2⟩ := zero_cells HX.out
  simp only at a0 a1 a2 b0 b1 b2
  go_wp2_with fail
  refine (check_ok 5 _).mono ?_
  rintro e w' ⟨rfl, rfl⟩
  go_wp2_with fail
  refine (wants_bool 3 (by decide) _).mono ?_
  rintro e w' ⟨rfl, rfl⟩
  go_wp2_with fail
  refine (check_ok 35 _).mono ?_
  rintro e w' ⟨rfl, rfl⟩
  go_wp2_with fail
  refine (check_no 35 _).mono ?_
  rintro e w' ⟨rfl, rfl⟩
  go_wp2
  exact ⟨rfl, HB.out, rfl⟩
set_option maxRecDepth 100000 in
set_option maxHeartbeats 6400000 in
theorem bin_L3_00 (i j : Int) (s t : List UInt8) (po pa pb : Nat) (w : World) (h : BinW w po pa pb 3 ⟨0, i, s⟩ ⟨0, j, t⟩) :
    Calls Tryz.prog 41 #[.pointer (some ⟨po, 0, none⟩), .pointer (some ⟨pa, 0, none⟩), .pointer (some ⟨pb, 0, none⟩)] w (EvR (.ok (logicP true ⟨0, i, s⟩ ⟨0, j, t⟩)) w) := by
  have HW := Asd.mk h
  have HX := Asd.mk (blk_new w zeroV)
  have HB : Asd (Below w.heap.size w (w.alloc zeroV)) := Asd.mk (below_alloc (Below.refl _ _) _)
  clear h
  go_enter Tryz.func41, Tryz.ntmps41
  go_upto_region 1 with fail
  generalize w.alloc _ = w1 at HX HB ⊢
  have HW1 := Asd.mk (HW.out.below HB.out)
  have o0 := (blk_cell HW1.out.o 0).trans rfl
  obtain ⟨a0, a1, a2⟩ := val_cells HW1.out.a
  obtain ⟨b0, b1, b2⟩ := val_cells HW1.out.b
  obtain ⟨⟨x0, x1, x2⟩, y0, y1, y2⟩ := zero_cells HX.out
  simp only at a0 a1 a2 b0 b1 b2
  go_wp2_with fail
  refine (check_ok 5 _).mono ?_
  rintro e w' ⟨rfl, rfl⟩
  go_wp2_with fail
  refine (wants_bool 3 (by decide) _).mono ?_
  rintro e w' ⟨rfl, rfl⟩
  go_wp2_with fail
  refine (check_ok 35 _).mono ?_
  rintro e w' ⟨rfl, rfl⟩
  go_wp2_with fail
  refine (check_ok 35 _).mono ?_
  rintro e w' ⟨rfl, rfl⟩
  go_upto_region 9 with fail
  clear x0 x1 x2 y0 y1 y2
  have HS : Asd (∀ w', Below w.heap.size w w' → w'.cell? ⟨po, 0, none⟩ = some (.int .i64 3) ∧ w'.cell? ⟨pa, 0, none⟩ = some (.int .i64 0) ∧ w'.cell? ⟨pa, 1, none⟩ = some (.int .i64 i) ∧ w'.cell? ⟨pa, 2, none⟩ = some (.string ⟨s.toArray⟩) ∧ w'.cell? ⟨pb, 0, none⟩ = some (.int .i64 0) ∧ w'.cell? ⟨pb, 1, none⟩ = some (.int .i64 j) ∧ w'.cell? ⟨pb, 2, none⟩ = some (.string ⟨t.toArray⟩) ∧ Below w.heap.size w w') := Asd.mk fun w' hb => by
    have h := HW.out.below hb
    obtain ⟨a0, a1, a2⟩ := val_cells h.a
    obtain ⟨b0, b1, b2⟩ := val_cells h.b
    exact ⟨(blk_cell h.o 0).trans rfl, a0, a1, a2, b0, b1, b2, hb⟩
  clear a0 a1 a2 b0 b1 b2 o0
  go_region_held3 (fun w' => w'.cell? ⟨po, 0, none⟩ = some (.int .i64 3) ∧ w'.cell? ⟨pa, 0, none⟩ = some (.int .i64 0) ∧ w'.cell? ⟨pa, 1, none⟩ = some (.int .i64 i) ∧ w'.cell? ⟨pa, 2, none⟩ = some (.string ⟨s.toArray⟩) ∧ w'.cell? ⟨pb, 0, none⟩ = some (.int .i64 0) ∧ w'.cell? ⟨pb, 1, none⟩ = some (.int .i64 j) ∧ w'.cell? ⟨pb, 2, none⟩ = some (.string ⟨t.toArray⟩) ∧ Below w.heap.size w w')
    (first
      | exact HS.out _ HB.out
      | exact HS.out _ HB.out.drew
      | exact HS.out _ HB2.out
      | exact HS.out _ HB3.out
      | exact HS.out _ HB4.out
      | exact HS.out _ (below_put3 HB3.out (Nat.le_refl _) _ _ _)
      | exact HS.out _ (below_put3 HB4.out (Nat.le_refl _) _ _ _)
      | (go_split_ands; exact HS.out _ (by assumption))
      | fail)
    (first
      | (go_at_call_of 39 (Value.bool true)
         refine (truth_calls true _).mono ?_
         rintro e w2 ⟨rfl, hb2⟩
         have HB2 : Asd (Below w.heap.size w w2) := Asd.mk (HB.out.drew.trans (hb2.mono HB.out.drew.size))
         have HX2 := Asd.mk (blk_below hb2 (drewb HX.out))
         unfold vC)
      | (go_at_call 43
         refine (logic_calls true ⟨0, i, s⟩ ⟨0, j, t⟩ _).mono ?_
         rintro e w3 ⟨rfl, hb3⟩
         have HB3 : Asd (Below w.heap.size w w3) := Asd.mk (HB2.out.trans (hb3.mono HB2.out.size))
         have HX3 := Asd.mk (blk_below hb3 HX2.out)
         obtain ⟨⟨x0, x1, x2⟩, y0, y1, y2⟩ := zero_cells HX3.out
         unfold vC)
      | fail)
  go_wp2
  refine val_ret rfl w.heap.size _ _ _ rfl (put3_blk HX3.out _ _ _) rfl ?_
  exact ⟨below_put3 HB3.out (Nat.le_refl _) _ _ _, rfl⟩
set_option maxRecDepth 100000 in
set_option maxHeartbeats 6400000 in
theorem bin_L3_01 (i j : Int) (s t : List UInt8) (po pa pb : Nat) (w : World) (h : BinW w po pa pb 3 ⟨0, i, s⟩ ⟨1, j, t⟩) :
    Calls Tryz.prog 41 #[.pointer (some ⟨po, 0, none⟩), .pointer (some ⟨pa, 0, none⟩), .pointer (some ⟨pb, 0, none⟩)] w (EvR (.ok (logicP true ⟨0, i, s⟩ ⟨1, j, t⟩)) w) := by
  have HW := Asd.mk h
  have HX := Asd.mk (blk_new w zeroV)
  have HB : Asd (Below w.heap.size w (w.alloc zeroV)) := Asd.mk (below_alloc (Below.refl _ _) _)
  clear h
  go_enter Tryz.func41, Tryz.ntmps41
  go_upto_region 1 with fail
  generalize w.alloc _ = w1 at HX HB ⊢
  have HW1 := Asd.mk (HW.out.below HB.out)
  have o0 := (blk_cell HW1.out.o 0).trans rfl
  obtain ⟨a0, a1, a2⟩ := val_cells HW1.out.a
  obtain ⟨b0, b1, b2⟩ := val_cells HW1.out.b
  obtain ⟨⟨x0, x1, x2⟩, y0, y1, y2⟩ := zero_cells HX.out
  simp only at a0 a1 a2 b0 b1 b2
  go_wp2_with fail
  refine (check_ok 5 _).mono ?_
  rintro e w' ⟨rfl, rfl⟩
  go_wp2_with fail
  refine (wants_bool 3 (by decide) _).mono ?_
  rintro e w' ⟨rfl, rfl⟩
  go_wp2_with fail
  refine (check_ok 35 _).mono ?_
  rintro e w' ⟨rfl, rfl⟩
  go_wp2_with fail
  refine (check_ok 35 _).mono ?_
  rintro e w' ⟨rfl, rfl⟩
  go_upto_region 9 with fail
  clear x0 x1 x2 y0 y1 y2
  have HS : Asd (∀ w', Below w.heap.size w w' → w'.cell? ⟨po, 0, none⟩ = some (.int .i64 3) ∧ w'.cell? ⟨pa, 0, none⟩ = some (.int .i64 0) ∧ w'.cell? ⟨pa, 1, none⟩ = some (.int .i64 i) ∧ w'.cell? ⟨pa, 2, none⟩ = some (.string ⟨s.toArray⟩) ∧ w'.cell? ⟨pb, 0, none⟩ = some (.int .i64 1) ∧ w'.cell? ⟨pb, 1, none⟩ = some (.int .i64 j) ∧ w'.cell? ⟨pb, 2, none⟩ = some (.string ⟨t.toArray⟩) ∧ Below w.heap.size w w') := Asd.mk fun w' hb => by
    have h := HW.out.below hb
    obtain ⟨a0, a1, a2⟩ := val_cells h.a
    obtain ⟨b0, b1, b2⟩ := val_cells h.b
    exact ⟨(blk_cell h.o 0).trans rfl, a0, a1, a2, b0, b1, b2, hb⟩
  clear a0 a1 a2 b0 b1 b2 o0
  go_region_held3 (fun w' => w'.cell? ⟨po, 0, none⟩ = some (.int .i64 3) ∧ w'.cell? ⟨pa, 0, none⟩ = some (.int .i64 0) ∧ w'.cell? ⟨pa, 1, none⟩ = some (.int .i64 i) ∧ w'.cell? ⟨pa, 2, none⟩ = some (.string ⟨s.toArray⟩) ∧ w'.cell? ⟨pb, 0, none⟩ = some (.int .i64 1) ∧ w'.cell? ⟨pb, 1, none⟩ = some (.int .i64 j) ∧ w'.cell? ⟨pb, 2, none⟩ = some (.string ⟨t.toArray⟩) ∧ Below w.heap.size w w')
    (first
      | exact HS.out _ HB.out
      | exact HS.out _ HB.out.drew
      | exact HS.out _ HB2.out
      | exact HS.out _ HB3.out
      | exact HS.out _ HB4.out
      | exact HS.out _ (below_put3 HB3.out (Nat.le_refl _) _ _ _)
      | exact HS.out _ (below_put3 HB4.out (Nat.le_refl _) _ _ _)
      | (go_split_ands; exact HS.out _ (by assumption))
      | fail)
    (first
      | (go_at_call_of 39 (Value.bool true)
         refine (truth_calls true _).mono ?_
         rintro e w2 ⟨rfl, hb2⟩
         have HB2 : Asd (Below w.heap.size w w2) := Asd.mk (HB.out.drew.trans (hb2.mono HB.out.drew.size))
         have HX2 := Asd.mk (blk_below hb2 (drewb HX.out))
         unfold vC)
      | (go_at_call 43
         refine (logic_calls true ⟨0, i, s⟩ ⟨1, j, t⟩ _).mono ?_
         rintro e w3 ⟨rfl, hb3⟩
         have HB3 : Asd (Below w.heap.size w w3) := Asd.mk (HB2.out.trans (hb3.mono HB2.out.size))
         have HX3 := Asd.mk (blk_below hb3 HX2.out)
         obtain ⟨⟨x0, x1, x2⟩, y0, y1, y2⟩ := zero_cells HX3.out
         unfold vC)
      | fail)
  go_wp2
  refine val_ret rfl w.heap.size _ _ _ rfl (put3_blk HX3.out _ _ _) rfl ?_
  exact ⟨below_put3 HB3.out (Nat.le_refl _) _ _ _, rfl⟩
set_option maxRecDepth 100000 in
set_option maxHeartbeats 6400000 in
theorem bin_L3_b1 (kb : Int) (h1 : (kb == 1) = false) (h0 : (kb == 0) = false) (i j : Int) (s t : List UInt8) (po pa pb : Nat) (w : World) (h : BinW w po pa pb 3 ⟨1, i, s⟩ ⟨kb, j, t⟩) :
    Calls Tryz.prog 41 #[.pointer (some ⟨po, 0, none⟩), .pointer (some ⟨pa, 0, none⟩), .pointer (some ⟨pb, 0, none⟩)] w (EvR (.error 35) w) := by
  have HW := Asd.mk h
  have HX := Asd.mk (blk_new w zeroV)
  have HB : Asd (Below w.heap.size w (w.alloc zeroV)) := Asd.mk (below_alloc (Below.refl _ _) _)
  clear h
  go_enter Tryz.func41, Tryz.ntmps41
  go_upto_region 1 with fail
  generalize w.alloc _ = w1 at HX HB ⊢
  have HW1 := Asd.mk (HW.out.below HB.out)
  have o0 := (blk_cell HW1.out.o 0).trans rfl
  obtain ⟨a0, a1, a2⟩ := val_cells HW1.out.a
  obtain ⟨b0, b1, b2⟩ := val_cells HW1.out.b
  obtain ⟨⟨x0, x1, x2⟩, y0, y1, y2⟩ := zero_cells HX.out
  simp only at a0 a1 a2 b0 b1 b2
  go_wp2_with fail
  refine (check_ok 5 _).mono ?_
  rintro e w' ⟨rfl, rfl⟩
  go_wp2_with fail
  refine (wants_bool 3 (by decide) _).mono ?_
  rintro e w' ⟨rfl, rfl⟩
  go_wp2_with fail
  refine (check_ok 35 _).mono ?_
  rintro e w' ⟨rfl, rfl⟩
  go_wp2_with fail
  refine (check_no 35 _).mono ?_
  rintro e w' ⟨rfl, rfl⟩
  go_wp2
  exact ⟨rfl, HB.out, rfl⟩
set_option maxRecDepth 100000 in
set_option maxHeartbeats 6400000 in
theorem bin_L3_10 (i j : Int) (s t : List UInt8) (po pa pb : Nat) (w : World) (h : BinW w po pa pb 3 ⟨1, i, s⟩ ⟨0, j, t⟩) :
    Calls Tryz.prog 41 #[.pointer (some ⟨po, 0, none⟩), .pointer (some ⟨pa, 0, none⟩), .pointer (some ⟨pb, 0, none⟩)] w (EvR (.ok (logicP true ⟨1, i, s⟩ ⟨0, j, t⟩)) w) := by
  have HW := Asd.mk h
  have HX := Asd.mk (blk_new w zeroV)
  have HB : Asd (Below w.heap.size w (w.alloc zeroV)) := Asd.mk (below_alloc (Below.refl _ _) _)
  clear h
  go_enter Tryz.func41, Tryz.ntmps41
  go_upto_region 1 with fail
  generalize w.alloc _ = w1 at HX HB ⊢
  have HW1 := Asd.mk (HW.out.below HB.out)
  have o0 := (blk_cell HW1.out.o 0).trans rfl
  obtain ⟨a0, a1, a2⟩ := val_cells HW1.out.a
  obtain ⟨b0, b1, b2⟩ := val_cells HW1.out.b
  obtain ⟨⟨x0, x1, x2⟩, y0, y1, y2⟩ := zero_cells HX.out
  simp only at a0 a1 a2 b0 b1 b2
  go_wp2_with fail
  refine (check_ok 5 _).mono ?_
  rintro e w' ⟨rfl, rfl⟩
  go_wp2_with fail
  refine (wants_bool 3 (by decide) _).mono ?_
  rintro e w' ⟨rfl, rfl⟩
  go_wp2_with fail
  refine (check_ok 35 _).mono ?_
  rintro e w' ⟨rfl, rfl⟩
  go_wp2_with fail
  refine (check_ok 35 _).mono ?_
  rintro e w' ⟨rfl, rfl⟩
  go_upto_region 9 with fail
  clear x0 x1 x2 y0 y1 y2
  have HS : Asd (∀ w', Below w.heap.size w w' → w'.cell? ⟨po, 0, none⟩ = some (.int .i64 3) ∧ w'.cell? ⟨pa, 0, none⟩ = some (.int .i64 1) ∧ w'.cell? ⟨pa, 1, none⟩ = some (.int .i64 i) ∧ w'.cell? ⟨pa, 2, none⟩ = some (.string ⟨s.toArray⟩) ∧ w'.cell? ⟨pb, 0, none⟩ = some (.int .i64 0) ∧ w'.cell? ⟨pb, 1, none⟩ = some (.int .i64 j) ∧ w'.cell? ⟨pb, 2, none⟩ = some (.string ⟨t.toArray⟩) ∧ Below w.heap.size w w') := Asd.mk fun w' hb => by
    have h := HW.out.below hb
    obtain ⟨a0, a1, a2⟩ := val_cells h.a
    obtain ⟨b0, b1, b2⟩ := val_cells h.b
    exact ⟨(blk_cell h.o 0).trans rfl, a0, a1, a2, b0, b1, b2, hb⟩
  clear a0 a1 a2 b0 b1 b2 o0
  go_region_held3 (fun w' => w'.cell? ⟨po, 0, none⟩ = some (.int .i64 3) ∧ w'.cell? ⟨pa, 0, none⟩ = some (.int .i64 1) ∧ w'.cell? ⟨pa, 1, none⟩ = some (.int .i64 i) ∧ w'.cell? ⟨pa, 2, none⟩ = some (.string ⟨s.toArray⟩) ∧ w'.cell? ⟨pb, 0, none⟩ = some (.int .i64 0) ∧ w'.cell? ⟨pb, 1, none⟩ = some (.int .i64 j) ∧ w'.cell? ⟨pb, 2, none⟩ = some (.string ⟨t.toArray⟩) ∧ Below w.heap.size w w')
    (first
      | exact HS.out _ HB.out
      | exact HS.out _ HB.out.drew
      | exact HS.out _ HB2.out
      | exact HS.out _ HB3.out
      | exact HS.out _ HB4.out
      | exact HS.out _ (below_put3 HB3.out (Nat.le_refl _) _ _ _)
      | exact HS.out _ (below_put3 HB4.out (Nat.le_refl _) _ _ _)
      | (go_split_ands; exact HS.out _ (by assumption))
      | fail)
    (first
      | (go_at_call_of 39 (Value.bool true)
         refine (truth_calls true _).mono ?_
         rintro e w2 ⟨rfl, hb2⟩
         have HB2 : Asd (Below w.heap.size w w2) := Asd.mk (HB.out.drew.trans (hb2.mono HB.out.drew.size))
         have HX2 := Asd.mk (blk_below hb2 (drewb HX.out))
         unfold vC)
      | (go_at_call 43
         refine (logic_calls true ⟨1, i, s⟩ ⟨0, j, t⟩ _).mono ?_
         rintro e w3 ⟨rfl, hb3⟩
         have HB3 : Asd (Below w.heap.size w w3) := Asd.mk (HB2.out.trans (hb3.mono HB2.out.size))
         have HX3 := Asd.mk (blk_below hb3 HX2.out)
         obtain ⟨⟨x0, x1, x2⟩, y0, y1, y2⟩ := zero_cells HX3.out
         unfold vC)
      | fail)
  go_wp2
  refine val_ret rfl w.heap.size _ _ _ rfl (put3_blk HX3.out _ _ _) rfl ?_
  exact ⟨below_put3 HB3.out (Nat.le_refl _) _ _ _, rfl⟩
set_option maxRecDepth 100000 in
set_option maxHeartbeats 6400000 in
theorem bin_L3_11 (i j : Int) (s t : List UInt8) (po pa pb : Nat) (w : World) (h : BinW w po pa pb 3 ⟨1, i, s⟩ ⟨1, j, t⟩) :
    Calls Tryz.prog 41 #[.pointer (some ⟨po, 0, none⟩), .pointer (some ⟨pa, 0, none⟩), .pointer (some ⟨pb, 0, none⟩)] w (EvR (.ok (logicP true ⟨1, i, s⟩ ⟨1, j, t⟩)) w) := by
  have HW := Asd.mk h
  have HX := Asd.mk (blk_new w zeroV)
  have HB : Asd (Below w.heap.size w (w.alloc zeroV)) := Asd.mk (below_alloc (Below.refl _ _) _)
  clear h
  go_enter Tryz.func41, Tryz.ntmps41
  go_upto_region 1 with fail
  generalize w.alloc _ = w1 at HX HB ⊢
  have HW1 := Asd.mk (HW.out.below HB.out)
  have o0 := (blk_cell HW1.out.o 0).trans rfl
  obtain ⟨a0, a1, a2⟩ := val_cells HW1.out.a
  obtain ⟨b0, b1, b2⟩ := val_cells HW1.out.b
  obtain ⟨⟨x0, x1, x2⟩, y0, y1, y2⟩ := zero_cells HX.out
  simp only at a0 a1 a2 b0 b1 b2
  go_wp2_with fail
  refine (check_ok 5 _).mono ?_
  rintro e w' ⟨rfl, rfl⟩
  go_wp2_with fail
  refine (wants_bool 3 (by decide) _).mono ?_
  rintro e w' ⟨rfl, rfl⟩
  go_wp2_with fail
  refine (check_ok 35 _).mono ?_
  rintro e w' ⟨rfl, rfl⟩
  go_wp2_with fail
  refine (check_ok 35 _).mono ?_
  rintro e w' ⟨rfl, rfl⟩
  go_upto_region 9 with fail
  clear x0 x1 x2 y0 y1 y2
  have HS : Asd (∀ w', Below w.heap.size w w' → w'.cell? ⟨po, 0, none⟩ = some (.int .i64 3) ∧ w'.cell? ⟨pa, 0, none⟩ = some (.int .i64 1) ∧ w'.cell? ⟨pa, 1, none⟩ = some (.int .i64 i) ∧ w'.cell? ⟨pa, 2, none⟩ = some (.string ⟨s.toArray⟩) ∧ w'.cell? ⟨pb, 0, none⟩ = some (.int .i64 1) ∧ w'.cell? ⟨pb, 1, none⟩ = some (.int .i64 j) ∧ w'.cell? ⟨pb, 2, none⟩ = some (.string ⟨t.toArray⟩) ∧ Below w.heap.size w w') := Asd.mk fun w' hb => by
    have h := HW.out.below hb
    obtain ⟨a0, a1, a2⟩ := val_cells h.a
    obtain ⟨b0, b1, b2⟩ := val_cells h.b
    exact ⟨(blk_cell h.o 0).trans rfl, a0, a1, a2, b0, b1, b2, hb⟩
  clear a0 a1 a2 b0 b1 b2 o0
  go_region_held3 (fun w' => w'.cell? ⟨po, 0, none⟩ = some (.int .i64 3) ∧ w'.cell? ⟨pa, 0, none⟩ = some (.int .i64 1) ∧ w'.cell? ⟨pa, 1, none⟩ = some (.int .i64 i) ∧ w'.cell? ⟨pa, 2, none⟩ = some (.string ⟨s.toArray⟩) ∧ w'.cell? ⟨pb, 0, none⟩ = some (.int .i64 1) ∧ w'.cell? ⟨pb, 1, none⟩ = some (.int .i64 j) ∧ w'.cell? ⟨pb, 2, none⟩ = some (.string ⟨t.toArray⟩) ∧ Below w.heap.size w w')
    (first
      | exact HS.out _ HB.out
      | exact HS.out _ HB.out.drew
      | exact HS.out _ HB2.out
      | exact HS.out _ HB3.out
      | exact HS.out _ HB4.out
      | exact HS.out _ (below_put3 HB3.out (Nat.le_refl _) _ _ _)
      | exact HS.out _ (below_put3 HB4.out (Nat.le_refl _) _ _ _)
      | (go_split_ands; exact HS.out _ (by assumption))
      | fail)
    (first
      | (go_at_call_of 39 (Value.bool true)
         refine (truth_calls true _).mono ?_
         rintro e w2 ⟨rfl, hb2⟩
         have HB2 : Asd (Below w.heap.size w w2) := Asd.mk (HB.out.drew.trans (hb2.mono HB.out.drew.size))
         have HX2 := Asd.mk (blk_below hb2 (drewb HX.out))
         unfold vC)
      | (go_at_call 43
         refine (logic_calls true ⟨1, i, s⟩ ⟨1, j, t⟩ _).mono ?_
         rintro e w3 ⟨rfl, hb3⟩
         have HB3 : Asd (Below w.heap.size w w3) := Asd.mk (HB2.out.trans (hb3.mono HB2.out.size))
         have HX3 := Asd.mk (blk_below hb3 HX2.out)
         obtain ⟨⟨x0, x1, x2⟩, y0, y1, y2⟩ := zero_cells HX3.out
         unfold vC)
      | fail)
  go_wp2
  refine val_ret rfl w.heap.size _ _ _ rfl (put3_blk HX3.out _ _ _) rfl ?_
  exact ⟨below_put3 HB3.out (Nat.le_refl _) _ _ _, rfl⟩
set_option maxRecDepth 100000 in
set_option maxHeartbeats 6400000 in
theorem bin_L4_a (ka kb : Int) (h1 : (ka == 1) = false) (h0 : (ka == 0) = false) (i j : Int) (s t : List UInt8) (po pa pb : Nat) (w : World) (h : BinW w po pa pb 4 ⟨ka, i, s⟩ ⟨kb, j, t⟩) :
    Calls Tryz.prog 41 #[.pointer (some ⟨po, 0, none⟩), .pointer (some ⟨pa, 0, none⟩), .pointer (some ⟨pb, 0, none⟩)] w (EvR (.error 35) w) := by
  have HW := Asd.mk h
  have HX := Asd.mk (blk_new w zeroV)
  have HB : Asd (Below w.heap.size w (w.alloc zeroV)) := Asd.mk (below_alloc (Below.refl _ _) _)
  clear h
  go_enter Tryz.func41, Tryz.ntmps41
  go_upto_region 1 with fail
  generalize w.alloc _ = w1 at HX HB ⊢
  have HW1 := Asd.mk (HW.out.below HB.out)
  have o0 := (blk_cell HW1.out.o 0).trans rfl
  obtain ⟨a0, a1, a2⟩ := val_cells HW1.out.a
  obtain ⟨b0, b1, b2⟩ := val_cells HW1.out.b
  obtain ⟨⟨x0, x1, x2⟩, y0, y1, y2⟩ := zero_cells HX.out
  simp only at a0 a1 a2 b0 b1 b2
  go_wp2_with fail
  refine (check_ok 5 _).mono ?_
  rintro e w' ⟨rfl, rfl⟩
  go_wp2_with fail
  refine (wants_bool 4 (by decide) _).mono ?_
  rintro e w' ⟨rfl, rfl⟩
  go_wp2_with fail
  refine (check_no 35 _).mono ?_
  rintro e w' ⟨rfl, rfl⟩
  go_wp2
  exact ⟨rfl, HB.out, rfl⟩
set_option maxRecDepth 100000 in
set_option maxHeartbeats 6400000 in
theorem bin_L4_b0 (kb : Int) (h1 : (kb == 1) = false) (h0 : (kb == 0) = false) (i j : Int) (s t : List UInt8) (po pa pb : Nat) (w : World) (h : BinW w po pa pb 4 ⟨0, i, s⟩ ⟨kb, j, t⟩) :
    Calls Tryz.prog 41 #[.pointer (some ⟨po, 0, none⟩), .pointer (some ⟨pa, 0, none⟩), .pointer (some ⟨pb, 0, none⟩)] w (EvR (.error 35) w) := by
  have HW := Asd.mk h
  have HX := Asd.mk (blk_new w zeroV)
  have HB : Asd (Below w.heap.size w (w.alloc zeroV)) := Asd.mk (below_alloc (Below.refl _ _) _)
  clear h
  go_enter Tryz.func41, Tryz.ntmps41
  go_upto_region 1 with fail
  generalize w.alloc _ = w1 at HX HB ⊢
  have HW1 := Asd.mk (HW.out.below HB.out)
  have o0 := (blk_cell HW1.out.o 0).trans rfl
  obtain ⟨a0, a1, a2⟩ := val_cells HW1.out.a
  obtain ⟨b0, b1, b2⟩ := val_cells HW1.out.b
  obtain ⟨⟨x0, x1, x2⟩, y0, y1, y2⟩ := zero_cells HX.out
  simp only at a0 a1 a2 b0 b1 b2
  go_wp2_with fail
  refine (check_ok 5 _).mono ?_
  rintro e w' ⟨rfl, rfl⟩
  go_wp2_with fail
  refine (wants_bool 4 (by decide) _).mono ?_
  rintro e w' ⟨rfl, rfl⟩
  go_wp2_with fail
  refine (check_ok 35 _).mono ?_
  rintro e w' ⟨rfl, rfl⟩
  go_wp2_with fail
  refine (check_no 35 _).mono ?_
  rintro e w' ⟨rfl, rfl⟩
  go_wp2
  exact ⟨rfl, HB.out, rfl⟩
set_option maxRecDepth 100000 in
set_option maxHeartbeats 6400000 in
theorem bin_L4_00 (i j : Int) (s t : List UInt8) (po pa pb : Nat) (w : World) (h : BinW w po pa pb 4 ⟨0, i, s⟩ ⟨0, j, t⟩) :
    Calls Tryz.prog 41 #[.pointer (some ⟨po, 0, none⟩), .pointer (some ⟨pa, 0, none⟩), .pointer (some ⟨pb, 0, none⟩)] w (EvR (.ok (logicP false ⟨0, i, s⟩ ⟨0, j, t⟩)) w) := by
  have HW := Asd.mk h
  have HX := Asd.mk (blk_new w zeroV)
  have HB : Asd (Below w.heap.size w (w.alloc zeroV)) := Asd.mk (below_alloc (Below.refl _ _) _)
  clear h
  go_enter Tryz.func41, Tryz.ntmps41
  go_upto_region 1 with fail
  generalize w.alloc _ = w1 at HX HB ⊢
  have HW1 := Asd.mk (HW.out.below HB.out)
  have o0 := (blk_cell HW1.out.o 0).trans rfl
  obtain ⟨a0, a1, a2⟩ := val_cells HW1.out.a
  obtain ⟨b0, b1, b2⟩ := val_cells HW1.out.b
  obtain ⟨⟨x0, x1, x2⟩, y0, y1, y2⟩ := zero_cells HX.out
  simp only at a0 a1 a2 b0 b1 b2
  go_wp2_with fail
  refine (check_ok 5 _).mono ?_
  rintro e w' ⟨rfl, rfl⟩
  go_wp2_with fail
  refine (wants_bool 4 (by decide) _).mono ?_
  rintro e w' ⟨rfl, rfl⟩
  go_wp2_with fail
  refine (check_ok 35 _).mono ?_
  rintro e w' ⟨rfl, rfl⟩
  go_wp2_with fail
  refine (check_ok 35 _).mono ?_
  rintro e w' ⟨rfl, rfl⟩
  go_upto_region 9 with fail
  clear x0 x1 x2 y0 y1 y2
  have HS : Asd (∀ w', Below w.heap.size w w' → w'.cell? ⟨po, 0, none⟩ = some (.int .i64 4) ∧ w'.cell? ⟨pa, 0, none⟩ = some (.int .i64 0) ∧ w'.cell? ⟨pa, 1, none⟩ = some (.int .i64 i) ∧ w'.cell? ⟨pa, 2, none⟩ = some (.string ⟨s.toArray⟩) ∧ w'.cell? ⟨pb, 0, none⟩ = some (.int .i64 0) ∧ w'.cell? ⟨pb, 1, none⟩ = some (.int .i64 j) ∧ w'.cell? ⟨pb, 2, none⟩ = some (.string ⟨t.toArray⟩) ∧ Below w.heap.size w w') := Asd.mk fun w' hb => by
    have h := HW.out.below hb
    obtain ⟨a0, a1, a2⟩ := val_cells h.a
    obtain ⟨b0, b1, b2⟩ := val_cells h.b
    exact ⟨(blk_cell h.o 0).trans rfl, a0, a1, a2, b0, b1, b2, hb⟩
  clear a0 a1 a2 b0 b1 b2 o0
  go_region_held3 (fun w' => w'.cell? ⟨po, 0, none⟩ = some (.int .i64 4) ∧ w'.cell? ⟨pa, 0, none⟩ = some (.int .i64 0) ∧ w'.cell? ⟨pa, 1, none⟩ = some (.int .i64 i) ∧ w'.cell? ⟨pa, 2, none⟩ = some (.string ⟨s.toArray⟩) ∧ w'.cell? ⟨pb, 0, none⟩ = some (.int .i64 0) ∧ w'.cell? ⟨pb, 1, none⟩ = some (.int .i64 j) ∧ w'.cell? ⟨pb, 2, none⟩ = some (.string ⟨t.toArray⟩) ∧ Below w.heap.size w w')
    (first
      | exact HS.out _ HB.out
      | exact HS.out _ HB.out.drew
      | exact HS.out _ HB2.out
      | exact HS.out _ HB3.out
      | exact HS.out _ HB4.out
      | exact HS.out _ (below_put3 HB3.out (Nat.le_refl _) _ _ _)
      | exact HS.out _ (below_put3 HB4.out (Nat.le_refl _) _ _ _)
      | (go_split_ands; exact HS.out _ (by assumption))
      | fail)
    (first
      | (go_at_call_of 39 (Value.bool false)
         refine (truth_calls false _).mono ?_
         rintro e w2 ⟨rfl, hb2⟩
         have HB2 : Asd (Below w.heap.size w w2) := Asd.mk (HB.out.drew.trans (hb2.mono HB.out.drew.size))
         have HX2 := Asd.mk (blk_below hb2 (drewb HX.out))
         unfold vC)
      | (go_at_call 43
         refine (logic_calls false ⟨0, i, s⟩ ⟨0, j, t⟩ _).mono ?_
         rintro e w3 ⟨rfl, hb3⟩
         have HB3 : Asd (Below w.heap.size w w3) := Asd.mk (HB2.out.trans (hb3.mono HB2.out.size))
         have HX3 := Asd.mk (blk_below hb3 HX2.out)
         obtain ⟨⟨x0, x1, x2⟩, y0, y1, y2⟩ := zero_cells HX3.out
         unfold vC)
      | fail)
  go_wp2
  refine val_ret rfl w.heap.size _ _ _ rfl (put3_blk HX3.out _ _ _) rfl ?_
  exact ⟨below_put3 HB3.out (Nat.le_refl _) _ _ _, rfl⟩
set_option maxRecDepth 100000 in
set_option maxHeartbeats 6400000 in
theorem bin_L4_01 (i j : Int) (s t : List UInt8) (po pa pb : Nat) (w : World) (h : BinW w po pa pb 4 ⟨0, i, s⟩ ⟨1, j, t⟩) :
    Calls Tryz.prog 41 #[.pointer (some ⟨po, 0, none⟩), .pointer (some ⟨pa, 0, none⟩), .pointer (some ⟨pb, 0, none⟩)] w (EvR (.ok (logicP false ⟨0, i, s⟩ ⟨1, j, t⟩)) w) := by
  have HW := Asd.mk h
  have HX := Asd.mk (blk_new w zeroV)
  have HB : Asd (Below w.heap.size w (w.alloc zeroV)) := Asd.mk (below_alloc (Below.refl _ _) _)
  clear h
  go_enter Tryz.func41, Tryz.ntmps41
  go_upto_region 1 with fail
  generalize w.alloc _ = w1 at HX HB ⊢
  have HW1 := Asd.mk (HW.out.below HB.out)
  have o0 := (blk_cell HW1.out.o 0).trans rfl
  obtain ⟨a0, a1, a2⟩ := val_cells HW1.out.a
  obtain ⟨b0, b1, b2⟩ := val_cells HW1.out.b
  obtain ⟨⟨x0, x1, x2⟩, y0, y1, y2⟩ := zero_cells HX.out
  simp only at a0 a1 a2 b0 b1 b2
  go_wp2_with fail
  refine (check_ok 5 _).mono ?_
  rintro e w' ⟨rfl, rfl⟩
  go_wp2_with fail
  refine (wants_bool 4 (by decide) _).mono ?_
  rintro e w' ⟨rfl, rfl⟩
  go_wp2_with fail
  refine (check_ok 35 _).mono ?_
  rintro e w' ⟨rfl, rfl⟩
  go_wp2_with fail
  refine (check_ok 35 _).mono ?_
  rintro e w' ⟨rfl, rfl⟩
  go_upto_region 9 with fail
  clear x0 x1 x2 y0 y1 y2
  have HS : Asd (∀ w', Below w.heap.size w w' → w'.cell? ⟨po, 0, none⟩ = some (.int .i64 4) ∧ w'.cell? ⟨pa, 0, none⟩ = some (.int .i64 0) ∧ w'.cell? ⟨pa, 1, none⟩ = some (.int .i64 i) ∧ w'.cell? ⟨pa, 2, none⟩ = some (.string ⟨s.toArray⟩) ∧ w'.cell? ⟨pb, 0, none⟩ = some (.int .i64 1) ∧ w'.cell? ⟨pb, 1, none⟩ = some (.int .i64 j) ∧ w'.cell? ⟨pb, 2, none⟩ = some (.string ⟨t.toArray⟩) ∧ Below w.heap.size w w') := Asd.mk fun w' hb => by
    have h := HW.out.below hb
    obtain ⟨a0, a1, a2⟩ := val_cells h.a
    obtain ⟨b0, b1, b2⟩ := val_cells h.b
    exact ⟨(blk_cell h.o 0).trans rfl, a0, a1, a2, b0, b1, b2, hb⟩
  clear a0 a1 a2 b0 b1 b2 o0
  go_region_held3 (fun w' => w'.cell? ⟨po, 0, none⟩ = some (.int .i64 4) ∧ w'.cell? ⟨pa, 0, none⟩ = some (.int .i64 0) ∧ w'.cell? ⟨pa, 1, none⟩ = some (.int .i64 i) ∧ w'.cell? ⟨pa, 2, none⟩ = some (.string ⟨s.toArray⟩) ∧ w'.cell? ⟨pb, 0, none⟩ = some (.int .i64 1) ∧ w'.cell? ⟨pb, 1, none⟩ = some (.int .i64 j) ∧ w'.cell? ⟨pb, 2, none⟩ = some (.string ⟨t.toArray⟩) ∧ Below w.heap.size w w')
    (first
      | exact HS.out _ HB.out
      | exact HS.out _ HB.out.drew
      | exact HS.out _ HB2.out
      | exact HS.out _ HB3.out
      | exact HS.out _ HB4.out
      | exact HS.out _ (below_put3 HB3.out (Nat.le_refl _) _ _ _)
      | exact HS.out _ (below_put3 HB4.out (Nat.le_refl _) _ _ _)
      | (go_split_ands; exact HS.out _ (by assumption))
      | fail)
    (first
      | (go_at_call_of 39 (Value.bool false)
         refine (truth_calls false _).mono ?_
         rintro e w2 ⟨rfl, hb2⟩
         have HB2 : Asd (Below w.heap.size w w2) := Asd.mk (HB.out.drew.trans (hb2.mono HB.out.drew.size))
         have HX2 := Asd.mk (blk_below hb2 (drewb HX.out))
         unfold vC)
      | (go_at_call 43
         refine (logic_calls false ⟨0, i, s⟩ ⟨1, j, t⟩ _).mono ?_
         rintro e w3 ⟨rfl, hb3⟩
         have HB3 : Asd (Below w.heap.size w w3) := Asd.mk (HB2.out.trans (hb3.mono HB2.out.size))
         have HX3 := Asd.mk (blk_below hb3 HX2.out)
         obtain ⟨⟨x0, x1, x2⟩, y0, y1, y2⟩ := zero_cells HX3.out
         unfold vC)
      | fail)
  go_wp2
  refine val_ret rfl w.heap.size _ _ _ rfl (put3_blk HX3.out _ _ _) rfl ?_
  exact ⟨below_put3 HB3.out (Nat.le_refl _) _ _ _, rfl⟩
set_option maxRecDepth 100000 in
set_option maxHeartbeats 6400000 in
theorem bin_L4_b1 (kb : Int) (h1 : (kb == 1) = false) (h0 : (kb == 0) = false) (i j : Int) (s t : List UInt8) (po pa pb : Nat) (w : World) (h : BinW w po pa pb 4 ⟨1, i, s⟩ ⟨kb, j, t⟩) :
    Calls Tryz.prog 41 #[.pointer (some ⟨po, 0, none⟩), .pointer (some ⟨pa, 0, none⟩), .pointer (some ⟨pb, 0, none⟩)] w (EvR (.error 35) w) := by
  have HW := Asd.mk h
  have HX := Asd.mk (blk_new w zeroV)
  have HB : Asd (Below w.heap.size w (w.alloc zeroV)) := Asd.mk (below_alloc (Below.refl _ _) _)
  clear h
  go_enter Tryz.func41, Tryz.ntmps41
  go_upto_region 1 with fail
  generalize w.alloc _ = w1 at HX HB ⊢
  have HW1 := Asd.mk (HW.out.below HB.out)
  have o0 := (blk_cell HW1.out.o 0).trans rfl
  obtain ⟨a0, a1, a2⟩ := val_cells HW1.out.a
  obtain ⟨b0, b1, b2⟩ := val_cells HW1.out.b
  obtain ⟨⟨x0, x1, x2⟩, y0, y1, y2⟩ := zero_cells HX.out
  simp only at a0 a1 a2 b0 b1 b2
  go_wp2_with fail
  refine (check_ok 5 _).mono ?_
  rintro e w' ⟨rfl, rfl⟩
  go_wp2_with fail
  refine (wants_bool 4 (by decide) _).mono ?_
  rintro e w' ⟨rfl, rfl⟩
  go_wp2_with fail
  refine (check_ok 35 _).mono ?_
  rintro e w' ⟨rfl, rfl⟩
  go_wp2_with fail
  refine (check_no 35 _).mono ?_
  rintro e w' ⟨rfl, rfl⟩
  go_wp2
  exact ⟨rfl, HB.out, rfl⟩
set_option maxRecDepth 100000 in
set_option maxHeartbeats 6400000 in
theorem bin_L4_10 (i j : Int) (s t : List UInt8) (po pa pb : Nat) (w : World) (h : BinW w po pa pb 4 ⟨1, i, s⟩ ⟨0, j, t⟩) :
    Calls Tryz.prog 41 #[.pointer (some ⟨po, 0, none⟩), .pointer (some ⟨pa, 0, none⟩), .pointer (some ⟨pb, 0, none⟩)] w (EvR (.ok (logicP false ⟨1, i, s⟩ ⟨0, j, t⟩)) w) := by
  have HW := Asd.mk h
  have HX := Asd.mk (blk_new w zeroV)
  have HB : Asd (Below w.heap.size w (w.alloc zeroV)) := Asd.mk (below_alloc (Below.refl _ _) _)
  clear h
  go_enter Tryz.func41, Tryz.ntmps41
  go_upto_region 1 with fail
  generalize w.alloc _ = w1 at HX HB ⊢
  have HW1 := Asd.mk (HW.out.below HB.out)
  have o0 := (blk_cell HW1.out.o 0).trans rfl
  obtain ⟨a0, a1, a2⟩ := val_cells HW1.out.a
  obtain ⟨b0, b1, b2⟩ := val_cells HW1.out.b
  obtain ⟨⟨x0, x1, x2⟩, y0, y1, y2⟩ := zero_cells HX.out
  simp only at a0 a1 a2 b0 b1 b2
  go_wp2_with fail
  refine (check_ok 5 _).mono ?_
  rintro e w' ⟨rfl, rfl⟩
  go_wp2_with fail
  refine (wants_bool 4 (by decide) _).mono ?_
  rintro e w' ⟨rfl, rfl⟩
  go_wp2_with fail
  refine (check_ok 35 _).mono ?_
  rintro e w' ⟨rfl, rfl⟩
  go_wp2_with fail
  refine (check_ok 35 _).mono ?_
  rintro e w' ⟨rfl, rfl⟩
  go_upto_region 9 with fail
  clear x0 x1 x2 y0 y1 y2
  have HS : Asd (∀ w', Below w.heap.size w w' → w'.cell? ⟨po, 0, none⟩ = some (.int .i64 4) ∧ w'.cell? ⟨pa, 0, none⟩ = some (.int .i64 1) ∧ w'.cell? ⟨pa, 1, none⟩ = some (.int .i64 i) ∧ w'.cell? ⟨pa, 2, none⟩ = some (.string ⟨s.toArray⟩) ∧ w'.cell? ⟨pb, 0, none⟩ = some (.int .i64 0) ∧ w'.cell? ⟨pb, 1, none⟩ = some (.int .i64 j) ∧ w'.cell? ⟨pb, 2, none⟩ = some (.string ⟨t.toArray⟩) ∧ Below w.heap.size w w') := Asd.mk fun w' hb => by
    have h := HW.out.below hb
    obtain ⟨a0, a1, a2⟩ := val_cells h.a
    obtain ⟨b0, b1, b2⟩ := val_cells h.b
    exact ⟨(blk_cell h.o 0).trans rfl, a0, a1, a2, b0, b1, b2, hb⟩
  clear a0 a1 a2 b0 b1 b2 o0
  go_region_held3 (fun w' => w'.cell? ⟨po, 0, none⟩ = some (.int .i64 4) ∧ w'.cell? ⟨pa, 0, none⟩ = some (.int .i64 1) ∧ w'.cell? ⟨pa, 1, none⟩ = some (.int .i64 i) ∧ w'.cell? ⟨pa, 2, none⟩ = some (.string ⟨s.toArray⟩) ∧ w'.cell? ⟨pb, 0, none⟩ = some (.int .i64 0) ∧ w'.cell? ⟨pb, 1, none⟩ = some (.int .i64 j) ∧ w'.cell? ⟨pb, 2, none⟩ = some (.string ⟨t.toArray⟩) ∧ Below w.heap.size w w')
    (first
      | exact HS.out _ HB.out
      | exact HS.out _ HB.out.drew
      | exact HS.out _ HB2.out
      | exact HS.out _ HB3.out
      | exact HS.out _ HB4.out
      | exact HS.out _ (below_put3 HB3.out (Nat.le_refl _) _ _ _)
      | exact HS.out _ (below_put3 HB4.out (Nat.le_refl _) _ _ _)
      | (go_split_ands; exact HS.out _ (by assumption))
      | fail)
    (first
      | (go_at_call_of 39 (Value.bool false)
         refine (truth_calls false _).mono ?_
         rintro e w2 ⟨rfl, hb2⟩
         have HB2 : Asd (Below w.heap.size w w2) := Asd.mk (HB.out.drew.trans (hb2.mono HB.out.drew.size))
         have HX2 := Asd.mk (blk_below hb2 (drewb HX.out))
         unfold vC)
      | (go_at_call 43
         refine (logic_calls false ⟨1, i, s⟩ ⟨0, j, t⟩ _).mono ?_
         rintro e w3 ⟨rfl, hb3⟩
         have HB3 : Asd (Below w.heap.size w w3) := Asd.mk (HB2.out.trans (hb3.mono HB2.out.size))
         have HX3 := Asd.mk (blk_below hb3 HX2.out)
         obtain ⟨⟨x0, x1, x2⟩, y0, y1, y2⟩ := zero_cells HX3.out
         unfold vC)
      | fail)
  go_wp2
  refine val_ret rfl w.heap.size _ _ _ rfl (put3_blk HX3.out _ _ _) rfl ?_
  exact ⟨below_put3 HB3.out (Nat.le_refl _) _ _ _, rfl⟩
set_option maxRecDepth 100000 in
set_option maxHeartbeats 6400000 in
theorem bin_L4_11 (i j : Int) (s t : List UInt8) (po pa pb : Nat) (w : World) (h : BinW w po pa pb 4 ⟨1, i, s⟩ ⟨1, j, t⟩) :
    Calls Tryz.prog 41 #[.pointer (some ⟨po, 0, none⟩), .pointer (some ⟨pa, 0, none⟩), .pointer (some ⟨pb, 0, none⟩)] w (EvR (.ok (logicP false ⟨1, i, s⟩ ⟨1, j, t⟩)) w) := by
  have HW := Asd.mk h
  have HX := Asd.mk (blk_new w zeroV)
  have HB : Asd (Below w.heap.size w (w.alloc zeroV)) := Asd.mk (below_alloc (Below.refl _ _) _)
  clear h
  go_enter Tryz.func41, Tryz.ntmps41
  go_upto_region 1 with fail
  generalize w.alloc _ = w1 at HX HB ⊢
  have HW1 := Asd.mk (HW.out.below HB.out)
  have o0 := (blk_cell HW1.out.o 0).trans rfl
  obtain ⟨a0, a1, a2⟩ := val_cells HW1.out.a
  obtain ⟨b0, b1, b2⟩ := val_cells HW1.out.b
  obtain ⟨⟨x0, x1, x2⟩, y0, y1, y2⟩ := zero_cells HX.out
  simp only at a0 a1 a2 b0 b1 b2
  go_wp2_with fail
  refine (check_ok 5 _).mono ?_
  rintro e w' ⟨rfl, rfl⟩
  go_wp2_with fail
  refine (wants_bool 4 (by decide) _).mono ?_
  rintro e w' ⟨rfl, rfl⟩
  go_wp2_with fail
  refine (check_ok 35 _).mono ?_
  rintro e w' ⟨rfl, rfl⟩
  go_wp2_with fail
  refine (check_ok 35 _).mono ?_
  rintro e w' ⟨rfl, rfl⟩
  go_upto_region 9 with fail
  clear x0 x1 x2 y0 y1 y2
  have HS : Asd (∀ w', Below w.heap.size w w' → w'.cell? ⟨po, 0, none⟩ = some (.int .i64 4) ∧ w'.cell? ⟨pa, 0, none⟩ = some (.int .i64 1) ∧ w'.cell? ⟨pa, 1, none⟩ = some (.int .i64 i) ∧ w'.cell? ⟨pa, 2, none⟩ = some (.string ⟨s.toArray⟩) ∧ w'.cell? ⟨pb, 0, none⟩ = some (.int .i64 1) ∧ w'.cell? ⟨pb, 1, none⟩ = some (.int .i64 j) ∧ w'.cell? ⟨pb, 2, none⟩ = some (.string ⟨t.toArray⟩) ∧ Below w.heap.size w w') := Asd.mk fun w' hb => by
    have h := HW.out.below hb
    obtain ⟨a0, a1, a2⟩ := val_cells h.a
    obtain ⟨b0, b1, b2⟩ := val_cells h.b
    exact ⟨(blk_cell h.o 0).trans rfl, a0, a1, a2, b0, b1, b2, hb⟩
  clear a0 a1 a2 b0 b1 b2 o0
  go_region_held3 (fun w' => w'.cell? ⟨po, 0, none⟩ = some (.int .i64 4) ∧ w'.cell? ⟨pa, 0, none⟩ = some (.int .i64 1) ∧ w'.cell? ⟨pa, 1, none⟩ = some (.int .i64 i) ∧ w'.cell? ⟨pa, 2, none⟩ = some (.string ⟨s.toArray⟩) ∧ w'.cell? ⟨pb, 0, none⟩ = some (.int .i64 1) ∧ w'.cell? ⟨pb, 1, none⟩ = some (.int .i64 j) ∧ w'.cell? ⟨pb, 2, none⟩ = some (.string ⟨t.toArray⟩) ∧ Below w.heap.size w w')
    (first
      | exact HS.out _ HB.out
      | exact HS.out _ HB.out.drew
      | exact HS.out _ HB2.out
      | exact HS.out _ HB3.out
      | exact HS.out _ HB4.out
      | exact HS.out _ (below_put3 HB3.out (Nat.le_refl _) _ _ _)
      | exact HS.out _ (below_put3 HB4.out (Nat.le_refl _) _ _ _)
      | (go_split_ands; exact HS.out _ (by assumption))
      | fail)
    (first
      | (go_at_call_of 39 (Value.bool false)
         refine (truth_calls false _).mono ?_
         rintro e w2 ⟨rfl, hb2⟩
         have HB2 : Asd (Below w.heap.size w w2) := Asd.mk (HB.out.drew.trans (hb2.mono HB.out.drew.size))
         have HX2 := Asd.mk (blk_below hb2 (drewb HX.out))
         unfold vC)
      | (go_at_call 43
         refine (logic_calls false ⟨1, i, s⟩ ⟨1, j, t⟩ _).mono ?_
         rintro e w3 ⟨rfl, hb3⟩
         have HB3 : Asd (Below w.heap.size w w3) := Asd.mk (HB2.out.trans (hb3.mono HB2.out.size))
         have HX3 := Asd.mk (blk_below hb3 HX2.out)
         obtain ⟨⟨x0, x1, x2⟩, y0, y1, y2⟩ := zero_cells HX3.out
         unfold vC)
      | fail)
  go_wp2
  refine val_ret rfl w.heap.size _ _ _ rfl (put3_blk HX3.out _ _ _) rfl ?_
  exact ⟨below_put3 HB3.out (Nat.le_refl _) _ _ _, rfl⟩
set_option maxRecDepth 100000 in
set_option maxHeartbeats 6400000 in
theorem bin_C_0 (op : Int) (h3 : 3 ≤ op) (h16 : op ≤ 16) (h4 : ¬ op ≤ 4) (h10 : op ≤ 10) (kb : Int) (i j : Int) (s t : List UInt8) (po pa pb : Nat) (w : World) (h : BinW w po pa pb op ⟨0, i, s⟩ ⟨kb, j, t⟩) :
    Calls Tryz.prog 41 #[.pointer (some ⟨po, 0, none⟩), .pointer (some ⟨pa, 0, none⟩), .pointer (some ⟨pb, 0, none⟩)] w (EvR (.ok vNull) w) := by
  have HW := Asd.mk h
  have HX := Asd.mk (blk_new w zeroV)
  have HB : Asd (Below w.heap.size w (w.alloc zeroV)) := Asd.mk (below_alloc (Below.refl _ _) _)
  clear h
  go_enter Tryz.func41, Tryz.ntmps41
  go_upto_region 1 with fail
  generalize w.alloc _ = w1 at HX HB ⊢
  have HW1 := Asd.mk (HW.out.below HB.out)
  have o0 := (blk_cell HW1.out.o 0).trans rfl
  obtain ⟨a0, a1, a2⟩ := val_cells HW1.out.a
  obtain ⟨b0, b1, b2⟩ := val_cells HW1.out.b
  obtain ⟨⟨x0, x1, x2⟩, y0, y1, y2⟩ := zero_cells HX.out
  simp only at a0 a1 a2 b0 b1 b2
  go_wp2_with fail
  refine (check_ok 5 _).mono ?_
  rintro e w' ⟨rfl, rfl⟩
  go_wp2_with fail
  refine (wants_any op (by omega) (by omega) _).mono ?_
  rintro e w' ⟨rfl, rfl⟩
  go_wp2_with fail
  refine (check_ok 35 _).mono ?_
  rintro e w' ⟨rfl, rfl⟩
  go_wp2
  refine val_ret rfl w.heap.size _ _ _ rfl (put3_blk HX.out _ _ _) rfl ?_
  exact ⟨below_put3 HB.out (Nat.le_refl _) _ _ _, rfl⟩
set_option maxRecDepth 100000 in
set_option maxHeartbeats 6400000 in
theorem bin_C_n (op : Int) (h3 : 3 ≤ op) (h16 : op ≤ 16) (h4 : ¬ op ≤ 4) (h10 : op ≤ 10) (ka : Int) (hk : (ka == 0) = false) (i j : Int) (s t : List UInt8) (po pa pb : Nat) (w : World) (h : BinW w po pa pb op ⟨ka, i, s⟩ ⟨0, j, t⟩) :
    Calls Tryz.prog 41 #[.pointer (some ⟨po, 0, none⟩), .pointer (some ⟨pa, 0, none⟩), .pointer (some ⟨pb, 0, none⟩)] w (EvR (.ok vNull) w) := by
  have HW := Asd.mk h
  have HX := Asd.mk (blk_new w zeroV)
  have HB : Asd (Below w.heap.size w (w.alloc zeroV)) := Asd.mk (below_alloc (Below.refl _ _) _)
  clear h
  go_enter Tryz.func41, Tryz.ntmps41
  go_upto_region 1 with fail
  generalize w.alloc _ = w1 at HX HB ⊢
  have HW1 := Asd.mk (HW.out.below HB.out)
  have o0 := (blk_cell HW1.out.o 0).trans rfl
  obtain ⟨a0, a1, a2⟩ := val_cells HW1.out.a
  obtain ⟨b0, b1, b2⟩ := val_cells HW1.out.b
  obtain ⟨⟨x0, x1, x2⟩, y0, y1, y2⟩ := zero_cells HX.out
  simp only at a0 a1 a2 b0 b1 b2
  go_wp2_with fail
  refine (check_ok 5 _).mono ?_
  rintro e w' ⟨rfl, rfl⟩
  go_wp2_with fail
  refine (wants_any op (by omega) (by omega) _).mono ?_
  rintro e w' ⟨rfl, rfl⟩
  go_wp2_with fail
  refine (check_ok 35 _).mono ?_
  rintro e w' ⟨rfl, rfl⟩
  go_wp2
  refine val_ret rfl w.heap.size _ _ _ rfl (put3_blk HX.out _ _ _) rfl ?_
  exact ⟨below_put3 HB.out (Nat.le_refl _) _ _ _, rfl⟩
set_option maxRecDepth 100000 in
set_option maxHeartbeats 6400000 in
theorem bin_C_no (op : Int) (h3 : 3 ≤ op) (h16 : op ≤ 16) (h4 : ¬ op ≤ 4) (h10 : op ≤ 10) (ka kb : Int) (ha : (ka == 0) = false) (hb : (kb == 0) = false) (hk : (ka == kb) = false) (i j : Int) (s t : List UInt8) (po pa pb : Nat) (w : World) (h : BinW w po pa pb op ⟨ka, i, s⟩ ⟨kb, j, t⟩) :
    Calls Tryz.prog 41 #[.pointer (some ⟨po, 0, none⟩), .pointer (some ⟨pa, 0, none⟩), .pointer (some ⟨pb, 0, none⟩)] w (EvR (.error 35) w) := by
  have HW := Asd.mk h
  have HX := Asd.mk (blk_new w zeroV)
  have HB : Asd (Below w.heap.size w (w.alloc zeroV)) := Asd.mk (below_alloc (Below.refl _ _) _)
  clear h
  go_enter Tryz.func41, Tryz.ntmps41
  go_upto_region 1 with fail
  generalize w.alloc _ = w1 at HX HB ⊢
  have HW1 := Asd.mk (HW.out.below HB.out)
  have o0 := (blk_cell HW1.out.o 0).trans rfl
  obtain ⟨a0, a1, a2⟩ := val_cells HW1.out.a
  obtain ⟨b0, b1, b2⟩ := val_cells HW1.out.b
  obtain ⟨⟨x0, x1, x2⟩, y0, y1, y2⟩ := zero_cells HX.out
  simp only at a0 a1 a2 b0 b1 b2
  go_wp2_with fail
  refine (check_ok 5 _).mono ?_
  rintro e w' ⟨rfl, rfl⟩
  go_wp2_with fail
  refine (wants_any op (by omega) (by omega) _).mono ?_
  rintro e w' ⟨rfl, rfl⟩
  go_wp2_with fail
  refine (check_no 35 _).mono ?_
  rintro e w' ⟨rfl, rfl⟩
  go_wp2
  exact ⟨rfl, HB.out, rfl⟩
set_option maxRecDepth 100000 in
set_option maxHeartbeats 6400000 in
theorem bin_C_yes (op : Int) (h3 : 3 ≤ op) (h16 : op ≤ 16) (h4 : ¬ op ≤ 4) (h10 : op ≤ 10) (k : Int) (hk : (k == 0) = false) (c : Int) (i j : Int) (s t : List UInt8) (HC : Asd (∀ W, Calls Tryz.prog 45 #[vC ⟨k, i, s⟩, vC ⟨k, j, t⟩] W fun e W' => e = .returned (.int .i64 c) ∧ Below W.heap.size W W')) (po pa pb : Nat) (w : World) (h : BinW w po pa pb op ⟨k, i, s⟩ ⟨k, j, t⟩) :
    Calls Tryz.prog 41 #[.pointer (some ⟨po, 0, none⟩), .pointer (some ⟨pa, 0, none⟩), .pointer (some ⟨pb, 0, none⟩)] w (EvR (.ok (vTru (holdP op c))) w) := by
  have HW := Asd.mk h
  have HX := Asd.mk (blk_new w zeroV)
  have HB : Asd (Below w.heap.size w (w.alloc zeroV)) := Asd.mk (below_alloc (Below.refl _ _) _)
  clear h
  go_enter Tryz.func41, Tryz.ntmps41
  go_upto_region 1 with fail
  generalize w.alloc _ = w1 at HX HB ⊢
  have HW1 := Asd.mk (HW.out.below HB.out)
  have o0 := (blk_cell HW1.out.o 0).trans rfl
  obtain ⟨a0, a1, a2⟩ := val_cells HW1.out.a
  obtain ⟨b0, b1, b2⟩ := val_cells HW1.out.b
  obtain ⟨⟨x0, x1, x2⟩, y0, y1, y2⟩ := zero_cells HX.out
  simp only at a0 a1 a2 b0 b1 b2
  go_wp2_with fail
  refine (check_ok 5 _).mono ?_
  rintro e w' ⟨rfl, rfl⟩
  go_wp2_with fail
  refine (wants_any op (by omega) (by omega) _).mono ?_
  rintro e w' ⟨rfl, rfl⟩
  go_wp2_with fail
  refine (check_ok 35 _).mono ?_
  rintro e w' ⟨rfl, rfl⟩
  go_upto_region 13 with fail
  clear x0 x1 x2 y0 y1 y2
  have HS : Asd (∀ w', Below w.heap.size w w' → w'.cell? ⟨po, 0, none⟩ = some (.int .i64 op) ∧ w'.cell? ⟨pa, 0, none⟩ = some (.int .i64 k) ∧ w'.cell? ⟨pa, 1, none⟩ = some (.int .i64 i) ∧ w'.cell? ⟨pa, 2, none⟩ = some (.string ⟨s.toArray⟩) ∧ w'.cell? ⟨pb, 0, none⟩ = some (.int .i64 k) ∧ w'.cell? ⟨pb, 1, none⟩ = some (.int .i64 j) ∧ w'.cell? ⟨pb, 2, none⟩ = some (.string ⟨t.toArray⟩) ∧ Below w.heap.size w w') := Asd.mk fun w' hb => by
    have h := HW.out.below hb
    obtain ⟨a0, a1, a2⟩ := val_cells h.a
    obtain ⟨b0, b1, b2⟩ := val_cells h.b
    exact ⟨(blk_cell h.o 0).trans rfl, a0, a1, a2, b0, b1, b2, hb⟩
  clear a0 a1 a2 b0 b1 b2 o0
  go_region_held3 (fun w' => w'.cell? ⟨po, 0, none⟩ = some (.int .i64 op) ∧ w'.cell? ⟨pa, 0, none⟩ = some (.int .i64 k) ∧ w'.cell? ⟨pa, 1, none⟩ = some (.int .i64 i) ∧ w'.cell? ⟨pa, 2, none⟩ = some (.string ⟨s.toArray⟩) ∧ w'.cell? ⟨pb, 0, none⟩ = some (.int .i64 k) ∧ w'.cell? ⟨pb, 1, none⟩ = some (.int .i64 j) ∧ w'.cell? ⟨pb, 2, none⟩ = some (.string ⟨t.toArray⟩) ∧ Below w.heap.size w w')
    (first
      | exact HS.out _ HB.out
      | exact HS.out _ HB.out.drew
      | exact HS.out _ HB2.out
      | exact HS.out _ HB3.out
      | exact HS.out _ HB4.out
      | exact HS.out _ (below_put3 HB3.out (Nat.le_refl _) _ _ _)
      | exact HS.out _ (below_put3 HB4.out (Nat.le_refl _) _ _ _)
      | (go_split_ands; exact HS.out _ (by assumption))
      | fail)
    (first
      | (go_at_call 45
         refine (HC.out _).mono ?_
         rintro e w2 ⟨rfl, hb2⟩
         have HB2 : Asd (Below w.heap.size w w2) := Asd.mk (HB.out.drew.trans (hb2.mono HB.out.drew.size))
         have HX2 := Asd.mk (blk_below hb2 (drewb HX.out)))
      | (go_at_call 44
         refine (compared_calls op c (by omega) h10 _).mono ?_
         rintro e w3 ⟨rfl, rfl⟩)
      | (go_at_call 39
         refine (truth_calls (holdP op c) _).mono ?_
         rintro e w4 ⟨rfl, hb4⟩
         have HB4 : Asd (Below w.heap.size w w4) := Asd.mk (HB2.out.trans (hb4.mono HB2.out.size))
         have HX4 := Asd.mk (blk_below hb4 HX2.out)
         obtain ⟨⟨x0, x1, x2⟩, y0, y1, y2⟩ := zero_cells HX4.out
         unfold vC)
      | fail)
  go_wp2
  refine val_ret rfl w.heap.size _ _ _ rfl (put3_blk HX4.out _ _ _) rfl ?_
  exact ⟨below_put3 HB4.out (Nat.le_refl _) _ _ _, rfl⟩
set_option maxRecDepth 100000 in
set_option maxHeartbeats 6400000 in
theorem bin_S_a (ka kb : Int) (h1 : (ka == 3) = false) (h0 : (ka == 0) = false) (i j : Int) (s t : List UInt8) (po pa pb : Nat) (w : World) (h : BinW w po pa pb 16 ⟨ka, i, s⟩ ⟨kb, j, t⟩) :
    Calls Tryz.prog 41 #[.pointer (some ⟨po, 0, none⟩), .pointer (some ⟨pa, 0, none⟩), .pointer (some ⟨pb, 0, none⟩)] w (EvR (.error 35) w) := by
  have HW := Asd.mk h
  have HX := Asd.mk (blk_new w zeroV)
  have HB : Asd (Below w.heap.size w (w.alloc zeroV)) := Asd.mk (below_alloc (Below.refl _ _) _)
  clear h
  go_enter Tryz.func41, Tryz.ntmps41
  go_upto_region 1 with fail
  generalize w.alloc _ = w1 at HX HB ⊢
  have HW1 := Asd.mk (HW.out.below HB.out)
  have o0 := (blk_cell HW1.out.o 0).trans rfl
  obtain ⟨a0, a1, a2⟩ := val_cells HW1.out.a
  obtain ⟨b0, b1, b2⟩ := val_cells HW1.out.b
  obtain ⟨⟨x0, x1, x2⟩, y0, y1, y2⟩ := zero_cells HX.out
  simp only at a0 a1 a2 b0 b1 b2
  go_wp2_with fail
  refine (check_ok 5 _).mono ?_
  rintro e w' ⟨rfl, rfl⟩
  go_wp2_with fail
  refine (wants_text _).mono ?_
  rintro e w' ⟨rfl, rfl⟩
  go_wp2_with fail
  refine (check_no 35 _).mono ?_
  rintro e w' ⟨rfl, rfl⟩
  go_wp2
  exact ⟨rfl, HB.out, rfl⟩
set_option maxRecDepth 100000 in
set_option maxHeartbeats 6400000 in
theorem bin_S_b0 (kb : Int) (h1 : (kb == 3) = false) (h0 : (kb == 0) = false) (i j : Int) (s t : List UInt8) (po pa pb : Nat) (w : World) (h : BinW w po pa pb 16 ⟨0, i, s⟩ ⟨kb, j, t⟩) :
    Calls Tryz.prog 41 #[.pointer (some ⟨po, 0, none⟩), .pointer (some ⟨pa, 0, none⟩), .pointer (some ⟨pb, 0, none⟩)] w (EvR (.error 35) w) := by
  have HW := Asd.mk h
  have HX := Asd.mk (blk_new w zeroV)
  have HB : Asd (Below w.heap.size w (w.alloc zeroV)) := Asd.mk (below_alloc (Below.refl _ _) _)
  clear h
  go_enter Tryz.func41, Tryz.ntmps41
  go_upto_region 1 with fail
  generalize w.alloc _ = w1 at HX HB ⊢
  have HW1 := Asd.mk (HW.out.below HB.out)
  have o0 := (blk_cell HW1.out.o 0).trans rfl
  obtain ⟨a0, a1, a2⟩ := val_cells HW1.out.a
  obtain ⟨b0, b1, b2⟩ := val_cells HW1.out.b
  obtain ⟨⟨x0, x1, x2⟩, y0, y1, y2⟩ := zero_cells HX.out
  simp only at a0 a1 a2 b0 b1 b2
  go_wp2_with fail
  refine (check_ok 5 _).mono ?_
  rintro e w' ⟨rfl, rfl⟩
  go_wp2_with fail
  refine (wants_text _).mono ?_
  rintro e w' ⟨rfl, rfl⟩
  go_wp2_with fail
  refine (check_ok 35 _).mono ?_
  rintro e w' ⟨rfl, rfl⟩
  go_wp2_with fail
  refine (check_no 35 _).mono ?_
  rintro e w' ⟨rfl, rfl⟩
  go_wp2
  exact ⟨rfl, HB.out, rfl⟩
set_option maxRecDepth 100000 in
set_option maxHeartbeats 6400000 in
theorem bin_S_00 (i j : Int) (s t : List UInt8) (po pa pb : Nat) (w : World) (h : BinW w po pa pb 16 ⟨0, i, s⟩ ⟨0, j, t⟩) :
    Calls Tryz.prog 41 #[.pointer (some ⟨po, 0, none⟩), .pointer (some ⟨pa, 0, none⟩), .pointer (some ⟨pb, 0, none⟩)] w (EvR (.ok vNull) w) := by
  have HW := Asd.mk h
  have HX := Asd.mk (blk_new w zeroV)
  have HB : Asd (Below w.heap.size w (w.alloc zeroV)) := Asd.mk (below_alloc (Below.refl _ _) _)
  clear h
  go_enter Tryz.func41, Tryz.ntmps41
  go_upto_region 1 with fail
  generalize w.alloc _ = w1 at HX HB ⊢
  have HW1 := Asd.mk (HW.out.below HB.out)
  have o0 := (blk_cell HW1.out.o 0).trans rfl
  obtain ⟨a0, a1, a2⟩ := val_cells HW1.out.a
  obtain ⟨b0, b1, b2⟩ := val_cells HW1.out.b
  obtain ⟨⟨x0, x1, x2⟩, y0, y1, y2⟩ := zero_cells HX.out
  simp only at a0 a1 a2 b0 b1 b2
  go_wp2_with fail
  refine (check_ok 5 _).mono ?_
  rintro e w' ⟨rfl, rfl⟩
  go_wp2_with fail
  refine (wants_text _).mono ?_
  rintro e w' ⟨rfl, rfl⟩
  go_wp2_with fail
  refine (check_ok 35 _).mono ?_
  rintro e w' ⟨rfl, rfl⟩
  go_wp2_with fail
  refine (check_ok 35 _).mono ?_
  rintro e w' ⟨rfl, rfl⟩
  go_wp2
  refine val_ret rfl w.heap.size _ _ _ rfl (put3_blk HX.out _ _ _) rfl ?_
  exact ⟨below_put3 HB.out (Nat.le_refl _) _ _ _, rfl⟩
set_option maxRecDepth 100000 in
set_option maxHeartbeats 6400000 in
theorem bin_S_03 (i j : Int) (s t : List UInt8) (po pa pb : Nat) (w : World) (h : BinW w po pa pb 16 ⟨0, i, s⟩ ⟨3, j, t⟩) :
    Calls Tryz.prog 41 #[.pointer (some ⟨po, 0, none⟩), .pointer (some ⟨pa, 0, none⟩), .pointer (some ⟨pb, 0, none⟩)] w (EvR (.ok vNull) w) := by
  have HW := Asd.mk h
  have HX := Asd.mk (blk_new w zeroV)
  have HB : Asd (Below w.heap.size w (w.alloc zeroV)) := Asd.mk (below_alloc (Below.refl _ _) _)
  clear h
  go_enter Tryz.func41, Tryz.ntmps41
  go_upto_region 1 with fail
  generalize w.alloc _ = w1 at HX HB ⊢
  have HW1 := Asd.mk (HW.out.below HB.out)
  have o0 := (blk_cell HW1.out.o 0).trans rfl
  obtain ⟨a0, a1, a2⟩ := val_cells HW1.out.a
  obtain ⟨b0, b1, b2⟩ := val_cells HW1.out.b
  obtain ⟨⟨x0, x1, x2⟩, y0, y1, y2⟩ := zero_cells HX.out
  simp only at a0 a1 a2 b0 b1 b2
  go_wp2_with fail
  refine (check_ok 5 _).mono ?_
  rintro e w' ⟨rfl, rfl⟩
  go_wp2_with fail
  refine (wants_text _).mono ?_
  rintro e w' ⟨rfl, rfl⟩
  go_wp2_with fail
  refine (check_ok 35 _).mono ?_
  rintro e w' ⟨rfl, rfl⟩
  go_wp2_with fail
  refine (check_ok 35 _).mono ?_
  rintro e w' ⟨rfl, rfl⟩
  go_wp2
  refine val_ret rfl w.heap.size _ _ _ rfl (put3_blk HX.out _ _ _) rfl ?_
  exact ⟨below_put3 HB.out (Nat.le_refl _) _ _ _, rfl⟩
set_option maxRecDepth 100000 in
set_option maxHeartbeats 6400000 in
theorem bin_S_b3 (kb : Int) (h1 : (kb == 3) = false) (h0 : (kb == 0) = false) (i j : Int) (s t : List UInt8) (po pa pb : Nat) (w : World) (h : BinW w po pa pb 16 ⟨3, i, s⟩ ⟨kb, j, t⟩) :
    Calls Tryz.prog 41 #[.pointer (some ⟨po, 0, none⟩), .pointer (some ⟨pa, 0, none⟩), .pointer (some ⟨pb, 0, none⟩)] w (EvR (.error 35) w) := by
  have HW := Asd.mk h
  have HX := Asd.mk (blk_new w zeroV)
  have HB : Asd (Below w.heap.size w (w.alloc zeroV)) := Asd.mk (below_alloc (Below.refl _ _) _)
  clear h
  go_enter Tryz.func41, Tryz.ntmps41
  go_upto_region 1 with fail
  generalize w.alloc _ = w1 at HX HB ⊢
  have HW1 := Asd.mk (HW.out.below HB.out)
  have o0 := (blk_cell HW1.out.o 0).trans rfl
  obtain ⟨a0, a1, a2⟩ := val_cells HW1.out.a
  obtain ⟨b0, b1, b2⟩ := val_cells HW1.out.b
  obtain ⟨⟨x0, x1, x2⟩, y0, y1, y2⟩ := zero_cells HX.out
  simp only at a0 a1 a2 b0 b1 b2
  go_wp2_with fail
  refine (check_ok 5 _).mono ?_
  rintro e w' ⟨rfl, rfl⟩
  go_wp2_with fail
  refine (wants_text _).mono ?_
  rintro e w' ⟨rfl, rfl⟩
  go_wp2_with fail
  refine (check_ok 35 _).mono ?_
  rintro e w' ⟨rfl, rfl⟩
  go_wp2_with fail
  refine (check_no 35 _).mono ?_
  rintro e w' ⟨rfl, rfl⟩
  go_wp2
  exact ⟨rfl, HB.out, rfl⟩
set_option maxRecDepth 100000 in
set_option maxHeartbeats 6400000 in
theorem bin_S_30 (i j : Int) (s t : List UInt8) (po pa pb : Nat) (w : World) (h : BinW w po pa pb 16 ⟨3, i, s⟩ ⟨0, j, t⟩) :
    Calls Tryz.prog 41 #[.pointer (some ⟨po, 0, none⟩), .pointer (some ⟨pa, 0, none⟩), .pointer (some ⟨pb, 0, none⟩)] w (EvR (.ok vNull) w) := by
  have HW := Asd.mk h
  have HX := Asd.mk (blk_new w zeroV)
  have HB : Asd (Below w.heap.size w (w.alloc zeroV)) := Asd.mk (below_alloc (Below.refl _ _) _)
  clear h
  go_enter Tryz.func41, Tryz.ntmps41
  go_upto_region 1 with fail
  generalize w.alloc _ = w1 at HX HB ⊢
  have HW1 := Asd.mk (HW.out.below HB.out)
  have o0 := (blk_cell HW1.out.o 0).trans rfl
  obtain ⟨a0, a1, a2⟩ := val_cells HW1.out.a
  obtain ⟨b0, b1, b2⟩ := val_cells HW1.out.b
  obtain ⟨⟨x0, x1, x2⟩, y0, y1, y2⟩ := zero_cells HX.out
  simp only at a0 a1 a2 b0 b1 b2
  go_wp2_with fail
  refine (check_ok 5 _).mono ?_
  rintro e w' ⟨rfl, rfl⟩
  go_wp2_with fail
  refine (wants_text _).mono ?_
  rintro e w' ⟨rfl, rfl⟩
  go_wp2_with fail
  refine (check_ok 35 _).mono ?_
  rintro e w' ⟨rfl, rfl⟩
  go_wp2_with fail
  refine (check_ok 35 _).mono ?_
  rintro e w' ⟨rfl, rfl⟩
  go_wp2
  refine val_ret rfl w.heap.size _ _ _ rfl (put3_blk HX.out _ _ _) rfl ?_
  exact ⟨below_put3 HB.out (Nat.le_refl _) _ _ _, rfl⟩
set_option maxRecDepth 100000 in
set_option maxHeartbeats 6400000 in
theorem bin_A_a (op : Int) (h3 : 3 ≤ op) (h16 : op ≤ 16) (h4 : ¬ op ≤ 4) (h10 : ¬ op ≤ 10) (h6 : ¬ op = 16) (ka kb : Int) (h1 : (ka == 2) = false) (h0 : (ka == 0) = false) (i j : Int) (s t : List UInt8) (po pa pb : Nat) (w : World) (h : BinW w po pa pb op ⟨ka, i, s⟩ ⟨kb, j, t⟩) :
    Calls Tryz.prog 41 #[.pointer (some ⟨po, 0, none⟩), .pointer (some ⟨pa, 0, none⟩), .pointer (some ⟨pb, 0, none⟩)] w (EvR (.error 35) w) := by
  have HW := Asd.mk h
  have HX := Asd.mk (blk_new w zeroV)
  have HB : Asd (Below w.heap.size w (w.alloc zeroV)) := Asd.mk (below_alloc (Below.refl _ _) _)
  clear h
  go_enter Tryz.func41, Tryz.ntmps41
  go_upto_region 1 with fail
  generalize w.alloc _ = w1 at HX HB ⊢
  have HW1 := Asd.mk (HW.out.below HB.out)
  have o0 := (blk_cell HW1.out.o 0).trans rfl
  obtain ⟨a0, a1, a2⟩ := val_cells HW1.out.a
  obtain ⟨b0, b1, b2⟩ := val_cells HW1.out.b
  obtain ⟨⟨x0, x1, x2⟩, y0, y1, y2⟩ := zero_cells HX.out
  simp only at a0 a1 a2 b0 b1 b2
  go_wp2_with fail
  refine (check_ok 5 _).mono ?_
  rintro e w' ⟨rfl, rfl⟩
  go_wp2_with fail
  refine (wants_int op (by omega) (by omega) h6 _).mono ?_
  rintro e w' ⟨rfl, rfl⟩
  go_wp2_with fail
  refine (check_no 35 _).mono ?_
  rintro e w' ⟨rfl, rfl⟩
  go_wp2
  exact ⟨rfl, HB.out, rfl⟩
set_option maxRecDepth 100000 in
set_option maxHeartbeats 6400000 in
theorem bin_A_b0 (op : Int) (h3 : 3 ≤ op) (h16 : op ≤ 16) (h4 : ¬ op ≤ 4) (h10 : ¬ op ≤ 10) (h6 : ¬ op = 16) (kb : Int) (h1 : (kb == 2) = false) (h0 : (kb == 0) = false) (i j : Int) (s t : List UInt8) (po pa pb : Nat) (w : World) (h : BinW w po pa pb op ⟨0, i, s⟩ ⟨kb, j, t⟩) :
    Calls Tryz.prog 41 #[.pointer (some ⟨po, 0, none⟩), .pointer (some ⟨pa, 0, none⟩), .pointer (some ⟨pb, 0, none⟩)] w (EvR (.error 35) w) := by
  have HW := Asd.mk h
  have HX := Asd.mk (blk_new w zeroV)
  have HB : Asd (Below w.heap.size w (w.alloc zeroV)) := Asd.mk (below_alloc (Below.refl _ _) _)
  clear h
  go_enter Tryz.func41, Tryz.ntmps41
  go_upto_region 1 with fail
  generalize w.alloc _ = w1 at HX HB ⊢
  have HW1 := Asd.mk (HW.out.below HB.out)
  have o0 := (blk_cell HW1.out.o 0).trans rfl
  obtain ⟨a0, a1, a2⟩ := val_cells HW1.out.a
  obtain ⟨b0, b1, b2⟩ := val_cells HW1.out.b
  obtain ⟨⟨x0, x1, x2⟩, y0, y1, y2⟩ := zero_cells HX.out
  simp only at a0 a1 a2 b0 b1 b2
  go_wp2_with fail
  refine (check_ok 5 _).mono ?_
  rintro e w' ⟨rfl, rfl⟩
  go_wp2_with fail
  refine (wants_int op (by omega) (by omega) h6 _).mono ?_
  rintro e w' ⟨rfl, rfl⟩
  go_wp2_with fail
  refine (check_ok 35 _).mono ?_
  rintro e w' ⟨rfl, rfl⟩
  go_wp2_with fail
  refine (check_no 35 _).mono ?_
  rintro e w' ⟨rfl, rfl⟩
  go_wp2
  exact ⟨rfl, HB.out, rfl⟩
set_option maxRecDepth 100000 in
set_option maxHeartbeats 6400000 in
theorem bin_A_00 (op : Int) (h3 : 3 ≤ op) (h16 : op ≤ 16) (h4 : ¬ op ≤ 4) (h10 : ¬ op ≤ 10) (h6 : ¬ op = 16) (i j : Int) (s t : List UInt8) (po pa pb : Nat) (w : World) (h : BinW w po pa pb op ⟨0, i, s⟩ ⟨0, j, t⟩) :
    Calls Tryz.prog 41 #[.pointer (some ⟨po, 0, none⟩), .pointer (some ⟨pa, 0, none⟩), .pointer (some ⟨pb, 0, none⟩)] w (EvR (.ok vNull) w) := by
  have HW := Asd.mk h
  have HX := Asd.mk (blk_new w zeroV)
  have HB : Asd (Below w.heap.size w (w.alloc zeroV)) := Asd.mk (below_alloc (Below.refl _ _) _)
  clear h
  go_enter Tryz.func41, Tryz.ntmps41
  go_upto_region 1 with fail
  generalize w.alloc _ = w1 at HX HB ⊢
  have HW1 := Asd.mk (HW.out.below HB.out)
  have o0 := (blk_cell HW1.out.o 0).trans rfl
  obtain ⟨a0, a1, a2⟩ := val_cells HW1.out.a
  obtain ⟨b0, b1, b2⟩ := val_cells HW1.out.b
  obtain ⟨⟨x0, x1, x2⟩, y0, y1, y2⟩ := zero_cells HX.out
  simp only at a0 a1 a2 b0 b1 b2
  go_wp2_with fail
  refine (check_ok 5 _).mono ?_
  rintro e w' ⟨rfl, rfl⟩
  go_wp2_with fail
  refine (wants_int op (by omega) (by omega) h6 _).mono ?_
  rintro e w' ⟨rfl, rfl⟩
  go_wp2_with fail
  refine (check_ok 35 _).mono ?_
  rintro e w' ⟨rfl, rfl⟩
  go_wp2_with fail
  refine (check_ok 35 _).mono ?_
  rintro e w' ⟨rfl, rfl⟩
  go_wp2
  refine val_ret rfl w.heap.size _ _ _ rfl (put3_blk HX.out _ _ _) rfl ?_
  exact ⟨below_put3 HB.out (Nat.le_refl _) _ _ _, rfl⟩
set_option maxRecDepth 100000 in
set_option maxHeartbeats 6400000 in
theorem bin_A_02 (op : Int) (h3 : 3 ≤ op) (h16 : op ≤ 16) (h4 : ¬ op ≤ 4) (h10 : ¬ op ≤ 10) (h6 : ¬ op = 16) (i j : Int) (s t : List UInt8) (po pa pb : Nat) (w : World) (h : BinW w po pa pb op ⟨0, i, s⟩ ⟨2, j, t⟩) :
    Calls Tryz.prog 41 #[.pointer (some ⟨po, 0, none⟩), .pointer (some ⟨pa, 0, none⟩), .pointer (some ⟨pb, 0, none⟩)] w (EvR (.ok vNull) w) := by
  have HW := Asd.mk h
  have HX := Asd.mk (blk_new w zeroV)
  have HB : Asd (Below w.heap.size w (w.alloc zeroV)) := Asd.mk (below_alloc (Below.refl _ _) _)
  clear h
  go_enter Tryz.func41, Tryz.ntmps41
  go_upto_region 1 with fail
  generalize w.alloc _ = w1 at HX HB ⊢
  have HW1 := Asd.mk (HW.out.below HB.out)
  have o0 := (blk_cell HW1.out.o 0).trans rfl
  obtain ⟨a0, a1, a2⟩ := val_cells HW1.out.a
  obtain ⟨b0, b1, b2⟩ := val_cells HW1.out.b
  obtain ⟨⟨x0, x1, x2⟩, y0, y1, y2⟩ := zero_cells HX.out
  simp only at a0 a1 a2 b0 b1 b2
  go_wp2_with fail
  refine (check_ok 5 _).mono ?_
  rintro e w' ⟨rfl, rfl⟩
  go_wp2_with fail
  refine (wants_int op (by omega) (by omega) h6 _).mono ?_
  rintro e w' ⟨rfl, rfl⟩
  go_wp2_with fail
  refine (check_ok 35 _).mono ?_
  rintro e w' ⟨rfl, rfl⟩
  go_wp2_with fail
  refine (check_ok 35 _).mono ?_
  rintro e w' ⟨rfl, rfl⟩
  go_wp2
  refine val_ret rfl w.heap.size _ _ _ rfl (put3_blk HX.out _ _ _) rfl ?_
  exact ⟨below_put3 HB.out (Nat.le_refl _) _ _ _, rfl⟩
set_option maxRecDepth 100000 in
set_option maxHeartbeats 6400000 in
theorem bin_A_b2 (op : Int) (h3 : 3 ≤ op) (h16 : op ≤ 16) (h4 : ¬ op ≤ 4) (h10 : ¬ op ≤ 10) (h6 : ¬ op = 16) (kb : Int) (h1 : (kb == 2) = false) (h0 : (kb == 0) = false) (i j : Int) (s t : List UInt8) (po pa pb : Nat) (w : World) (h : BinW w po pa pb op ⟨2, i, s⟩ ⟨kb, j, t⟩) :
    Calls Tryz.prog 41 #[.pointer (some ⟨po, 0, none⟩), .pointer (some ⟨pa, 0, none⟩), .pointer (some ⟨pb, 0, none⟩)] w (EvR (.error 35) w) := by
  have HW := Asd.mk h
  have HX := Asd.mk (blk_new w zeroV)
  have HB : Asd (Below w.heap.size w (w.alloc zeroV)) := Asd.mk (below_alloc (Below.refl _ _) _)
  clear h
  go_enter Tryz.func41, Tryz.ntmps41
  go_upto_region 1 with fail
  generalize w.alloc _ = w1 at HX HB ⊢
  have HW1 := Asd.mk (HW.out.below HB.out)
  have o0 := (blk_cell HW1.out.o 0).trans rfl
  obtain ⟨a0, a1, a2⟩ := val_cells HW1.out.a
  obtain ⟨b0, b1, b2⟩ := val_cells HW1.out.b
  obtain ⟨⟨x0, x1, x2⟩, y0, y1, y2⟩ := zero_cells HX.out
  simp only at a0 a1 a2 b0 b1 b2
  go_wp2_with fail
  refine (check_ok 5 _).mono ?_
  rintro e w' ⟨rfl, rfl⟩
  go_wp2_with fail
  refine (wants_int op (by omega) (by omega) h6 _).mono ?_
  rintro e w' ⟨rfl, rfl⟩
  go_wp2_with fail
  refine (check_ok 35 _).mono ?_
  rintro e w' ⟨rfl, rfl⟩
  go_wp2_with fail
  refine (check_no 35 _).mono ?_
  rintro e w' ⟨rfl, rfl⟩
  go_wp2
  exact ⟨rfl, HB.out, rfl⟩
set_option maxRecDepth 100000 in
set_option maxHeartbeats 6400000 in
theorem bin_A_20 (op : Int) (h3 : 3 ≤ op) (h16 : op ≤ 16) (h4 : ¬ op ≤ 4) (h10 : ¬ op ≤ 10) (h6 : ¬ op = 16) (i j : Int) (s t : List UInt8) (po pa pb : Nat) (w : World) (h : BinW w po pa pb op ⟨2, i, s⟩ ⟨0, j, t⟩) :
    Calls Tryz.prog 41 #[.pointer (some ⟨po, 0, none⟩), .pointer (some ⟨pa, 0, none⟩), .pointer (some ⟨pb, 0, none⟩)] w (EvR (.ok vNull) w) := by
  have HW := Asd.mk h
  have HX := Asd.mk (blk_new w zeroV)
  have HB : Asd (Below w.heap.size w (w.alloc zeroV)) := Asd.mk (below_alloc (Below.refl _ _) _)
  clear h
  go_enter Tryz.func41, Tryz.ntmps41
  go_upto_region 1 with fail
  generalize w.alloc _ = w1 at HX HB ⊢
  have HW1 := Asd.mk (HW.out.below HB.out)
  have o0 := (blk_cell HW1.out.o 0).trans rfl
  obtain ⟨a0, a1, a2⟩ := val_cells HW1.out.a
  obtain ⟨b0, b1, b2⟩ := val_cells HW1.out.b
  obtain ⟨⟨x0, x1, x2⟩, y0, y1, y2⟩ := zero_cells HX.out
  simp only at a0 a1 a2 b0 b1 b2
  go_wp2_with fail
  refine (check_ok 5 _).mono ?_
  rintro e w' ⟨rfl, rfl⟩
  go_wp2_with fail
  refine (wants_int op (by omega) (by omega) h6 _).mono ?_
  rintro e w' ⟨rfl, rfl⟩
  go_wp2_with fail
  refine (check_ok 35 _).mono ?_
  rintro e w' ⟨rfl, rfl⟩
  go_wp2_with fail
  refine (check_ok 35 _).mono ?_
  rintro e w' ⟨rfl, rfl⟩
  go_wp2
  refine val_ret rfl w.heap.size _ _ _ rfl (put3_blk HX.out _ _ _) rfl ?_
  exact ⟨below_put3 HB.out (Nat.le_refl _) _ _ _, rfl⟩
set_option maxRecDepth 100000 in
set_option maxHeartbeats 6400000 in
theorem bin_S_ok (i j : Int) (s t : List UInt8) (hl : s.length + t.length ≤ 2048) (hd : decide ((s.length : Int) + (t.length : Int) ≤ 2048) = true) (po pa pb : Nat) (w : World) (h : BinW w po pa pb 16 ⟨3, i, s⟩ ⟨3, j, t⟩) :
    Calls Tryz.prog 41 #[.pointer (some ⟨po, 0, none⟩), .pointer (some ⟨pa, 0, none⟩), .pointer (some ⟨pb, 0, none⟩)] w (EvR (.ok (vTxt (s ++ t))) w) := by
  have HW := Asd.mk h
  have HX := Asd.mk (blk_new w zeroV)
  have HB : Asd (Below w.heap.size w (w.alloc zeroV)) := Asd.mk (below_alloc (Below.refl _ _) _)
  clear h
  go_enter Tryz.func41, Tryz.ntmps41
  go_upto_region 1 with fail
  generalize w.alloc _ = w1 at HX HB ⊢
  have HW1 := Asd.mk (HW.out.below HB.out)
  have o0 := (blk_cell HW1.out.o 0).trans rfl
  obtain ⟨a0, a1, a2⟩ := val_cells HW1.out.a
  obtain ⟨b0, b1, b2⟩ := val_cells HW1.out.b
  obtain ⟨⟨x0, x1, x2⟩, y0, y1, y2⟩ := zero_cells HX.out
  simp only at a0 a1 a2 b0 b1 b2
  go_wp2_with fail
  refine (check_ok 5 _).mono ?_
  rintro e w' ⟨rfl, rfl⟩
  go_wp2_with fail
  refine (wants_text _).mono ?_
  rintro e w' ⟨rfl, rfl⟩
  go_wp2_with fail
  refine (check_ok 35 _).mono ?_
  rintro e w' ⟨rfl, rfl⟩
  go_wp2_with fail
  refine (check_ok 35 _).mono ?_
  rintro e w' ⟨rfl, rfl⟩
  have hs : (⟨s.toArray⟩ : ByteArray).size = s.length := rfl
  have ht : (⟨t.toArray⟩ : ByteArray).size = t.length := rfl
  go_wp2_with fail
  refine (check_ok 8 _).mono ?_
  rintro e w' ⟨rfl, rfl⟩
  go_wp2_with fail
  rw [bcat]
  refine (text_calls (s ++ t) _).mono ?_
  rintro e w2 ⟨rfl, hb2⟩
  have HX2 := Asd.mk (blk_below hb2 HX.out)
  have HB2 : Asd (Below w.heap.size w w2) := Asd.mk (HB.out.trans (hb2.mono HB.out.size))
  clear x0 x1 x2 y0 y1 y2 a0 a1 a2 b0 b1 b2 o0 hb2
  obtain ⟨⟨x0, x1, x2⟩, y0, y1, y2⟩ := zero_cells HX2.out
  unfold vC
  go_wp2
  refine val_ret rfl w.heap.size _ _ _ rfl (put3_blk HX2.out _ _ _) rfl ?_
  exact ⟨below_put3 HB2.out (Nat.le_refl _) _ _ _, rfl⟩
set_option maxRecDepth 100000 in
set_option maxHeartbeats 6400000 in
theorem bin_S_long (i j : Int) (s t : List UInt8) (hd : decide (wrap64 ((s.length : Int) + (t.length : Int)) ≤ 2048) = false) (po pa pb : Nat) (w : World) (h : BinW w po pa pb 16 ⟨3, i, s⟩ ⟨3, j, t⟩) :
    Calls Tryz.prog 41 #[.pointer (some ⟨po, 0, none⟩), .pointer (some ⟨pa, 0, none⟩), .pointer (some ⟨pb, 0, none⟩)] w (EvR (.error 8) w) := by
  have HW := Asd.mk h
  have HX := Asd.mk (blk_new w zeroV)
  have HB : Asd (Below w.heap.size w (w.alloc zeroV)) := Asd.mk (below_alloc (Below.refl _ _) _)
  clear h
  go_enter Tryz.func41, Tryz.ntmps41
  go_upto_region 1 with fail
  generalize w.alloc _ = w1 at HX HB ⊢
  have HW1 := Asd.mk (HW.out.below HB.out)
  have o0 := (blk_cell HW1.out.o 0).trans rfl
  obtain ⟨a0, a1, a2⟩ := val_cells HW1.out.a
  obtain ⟨b0, b1, b2⟩ := val_cells HW1.out.b
  obtain ⟨⟨x0, x1, x2⟩, y0, y1, y2⟩ := zero_cells HX.out
  simp only at a0 a1 a2 b0 b1 b2
  go_wp2_with fail
  refine (check_ok 5 _).mono ?_
  rintro e w' ⟨rfl, rfl⟩
  go_wp2_with fail
  refine (wants_text _).mono ?_
  rintro e w' ⟨rfl, rfl⟩
  go_wp2_with fail
  refine (check_ok 35 _).mono ?_
  rintro e w' ⟨rfl, rfl⟩
  go_wp2_with fail
  refine (check_ok 35 _).mono ?_
  rintro e w' ⟨rfl, rfl⟩
  have hs : (⟨s.toArray⟩ : ByteArray).size = s.length := rfl
  have ht : (⟨t.toArray⟩ : ByteArray).size = t.length := rfl
  go_wp2_with fail
  refine (check_no 8 _).mono ?_
  rintro e w' ⟨rfl, rfl⟩
  go_wp2
  exact ⟨rfl, HB.out, rfl⟩
set_option maxRecDepth 100000 in
set_option maxHeartbeats 6400000 in
theorem bin_A_ok (op : Int) (h3 : 3 ≤ op) (h16 : op ≤ 16) (h4 : ¬ op ≤ 4) (h10 : ¬ op ≤ 10) (h6 : ¬ op = 16) (z : Int) (i j : Int) (s t : List UInt8) (HC : Asd (∀ W, Calls Tryz.prog 47 #[.int .i64 op, .int .i64 i, .int .i64 j] W fun e W' => e = .returned (.int .i64 z) ∧ W' = W)) (po pa pb : Nat) (w : World) (h : BinW w po pa pb op ⟨2, i, s⟩ ⟨2, j, t⟩) :
    Calls Tryz.prog 41 #[.pointer (some ⟨po, 0, none⟩), .pointer (some ⟨pa, 0, none⟩), .pointer (some ⟨pb, 0, none⟩)] w (EvR (.ok (vNum z)) w) := by
  have HW := Asd.mk h
  have HX := Asd.mk (blk_new w zeroV)
  have HB : Asd (Below w.heap.size w (w.alloc zeroV)) := Asd.mk (below_alloc (Below.refl _ _) _)
  clear h
  go_enter Tryz.func41, Tryz.ntmps41
  go_upto_region 1 with fail
  generalize w.alloc _ = w1 at HX HB ⊢
  have HW1 := Asd.mk (HW.out.below HB.out)
  have o0 := (blk_cell HW1.out.o 0).trans rfl
  obtain ⟨a0, a1, a2⟩ := val_cells HW1.out.a
  obtain ⟨b0, b1, b2⟩ := val_cells HW1.out.b
  obtain ⟨⟨x0, x1, x2⟩, y0, y1, y2⟩ := zero_cells HX.out
  simp only at a0 a1 a2 b0 b1 b2
  go_wp2_with fail
  refine (check_ok 5 _).mono ?_
  rintro e w' ⟨rfl, rfl⟩
  go_wp2_with fail
  refine (wants_int op (by omega) (by omega) h6 _).mono ?_
  rintro e w' ⟨rfl, rfl⟩
  go_wp2_with fail
  refine (check_ok 35 _).mono ?_
  rintro e w' ⟨rfl, rfl⟩
  go_wp2_with fail
  refine (check_ok 35 _).mono ?_
  rintro e w' ⟨rfl, rfl⟩
  go_wp2_with fail
  refine (HC.out _).mono ?_
  rintro e w' ⟨rfl, rfl⟩
  go_wp2_with fail
  refine (number_calls z _).mono ?_
  rintro e w2 ⟨rfl, hb2⟩
  have HX2 := Asd.mk (blk_below hb2 HX.out)
  have HB2 : Asd (Below w.heap.size w w2) := Asd.mk (HB.out.trans (hb2.mono HB.out.size))
  clear x0 x1 x2 y0 y1 y2 a0 a1 a2 b0 b1 b2 o0 hb2
  obtain ⟨⟨x0, x1, x2⟩, y0, y1, y2⟩ := zero_cells HX2.out
  unfold vC
  go_wp2
  refine val_ret rfl w.heap.size _ _ _ rfl (put3_blk HX2.out _ _ _) rfl ?_
  exact ⟨below_put3 HB2.out (Nat.le_refl _) _ _ _, rfl⟩
set_option maxRecDepth 100000 in
set_option maxHeartbeats 6400000 in
theorem bin_A_no (op : Int) (h3 : 3 ≤ op) (h16 : op ≤ 16) (h4 : ¬ op ≤ 4) (h10 : ¬ op ≤ 10) (h6 : ¬ op = 16) (n : Int) (i j : Int) (s t : List UInt8) (HC : Asd (∀ W, Calls Tryz.prog 47 #[.int .i64 op, .int .i64 i, .int .i64 j] W fun e W' => e = errP n ∧ W' = W)) (po pa pb : Nat) (w : World) (h : BinW w po pa pb op ⟨2, i, s⟩ ⟨2, j, t⟩) :
    Calls Tryz.prog 41 #[.pointer (some ⟨po, 0, none⟩), .pointer (some ⟨pa, 0, none⟩), .pointer (some ⟨pb, 0, none⟩)] w (EvR (.error n) w) := by
  have HW := Asd.mk h
  have HX := Asd.mk (blk_new w zeroV)
  have HB : Asd (Below w.heap.size w (w.alloc zeroV)) := Asd.mk (below_alloc (Below.refl _ _) _)
  clear h
  go_enter Tryz.func41, Tryz.ntmps41
  go_upto_region 1 with fail
  generalize w.alloc _ = w1 at HX HB ⊢
  have HW1 := Asd.mk (HW.out.below HB.out)
  have o0 := (blk_cell HW1.out.o 0).trans rfl
  obtain ⟨a0, a1, a2⟩ := val_cells HW1.out.a
  obtain ⟨b0, b1, b2⟩ := val_cells HW1.out.b
  obtain ⟨⟨x0, x1, x2⟩, y0, y1, y2⟩ := zero_cells HX.out
  simp only at a0 a1 a2 b0 b1 b2
  go_wp2_with fail
  refine (check_ok 5 _).mono ?_
  rintro e w' ⟨rfl, rfl⟩
  go_wp2_with fail
  refine (wants_int op (by omega) (by omega) h6 _).mono ?_
  rintro e w' ⟨rfl, rfl⟩
  go_wp2_with fail
  refine (check_ok 35 _).mono ?_
  rintro e w' ⟨rfl, rfl⟩
  go_wp2_with fail
  refine (check_ok 35 _).mono ?_
  rintro e w' ⟨rfl, rfl⟩
  go_wp2_with fail
  refine (HC.out _).mono ?_
  rintro e w' ⟨rfl, rfl⟩
  go_wp2
  exact ⟨rfl, HB.out, rfl⟩
theorem len_sum (s t : List UInt8) (hs : s.length ≤ reachBytes) (ht : t.length ≤ reachBytes) : wrap64 ((s.length : Int) + (t.length : Int)) = ((s.length + t.length : Nat) : Int) := by
  have : reachBytes = 140737488351232 := rfl
  rw [IntWalk.wrap64_in _ (by omega)]
  omega
theorem rv_len {v : Vl} (h : RV v) : v.text.length ≤ reachBytes := by
  cases h with
  | null => exact Nat.zero_le _
  | bool b => exact Nat.zero_le _
  | num n h => exact Nat.zero_le _
  | text s h => exact h
  | blob s h => exact h
theorem rv_int {v : Vl} (h : RV v) : inI v.int := by
  cases h with
  | null => exact ⟨by decide, by decide⟩
  | bool b => cases b <;> exact ⟨by decide, by decide⟩
  | num n h => exact h
  | text s h => exact (show inI 0 by decide)
  | blob s h => exact (show inI 0 by decide)
theorem fit_or {k : Int} {v : Vl} (h : fitK k v = true) : v.kind = k ∨ v.kind = 0 := by
  unfold fitK at h
  simpa using h
theorem fit_not {k : Int} {v : Vl} (h : fitK k v = false) : (v.kind == k) = false ∧ (v.kind == 0) = false := by
  unfold fitK at h
  simpa using h
/-- calc.Binary's sum. -/
theorem bin_calls (op : Int) (h3 : 3 ≤ op) (h16 : op ≤ 16) (a b : Vl) (ha : RV a) (hb : RV b) (po pa pb : Nat) (w : World) (h : BinW w po pa pb op a b) :
    Calls Tryz.prog 41 #[.pointer (some ⟨po, 0, none⟩), .pointer (some ⟨pa, 0, none⟩), .pointer (some ⟨pb, 0, none⟩)] w (EvR (binP op a b) w) := by
  by_cases h4 : op ≤ 4
  · have e : binP op a b = if fitK 1 a && fitK 1 b then .ok (logicP (op == 3) a b) else .error 35 := by unfold binP; rw [if_pos h4]
    rw [e]
    cases hfa : fitK 1 a with
    | false =>
      obtain ⟨p1, p2⟩ := fit_not hfa
      rcases (show op = 3 ∨ op = 4 by omega) with rfl | rfl
      · exact bin_L3_a _ _ p1 p2 _ _ _ _ po pa pb w h
      · exact bin_L4_a _ _ p1 p2 _ _ _ _ po pa pb w h
    | true =>
      have ga := fit_or hfa
      cases hfb : fitK 1 b with
      | false =>
        obtain ⟨p1, p2⟩ := fit_not hfb
        obtain ⟨ka, i, s⟩ := a
        rcases (show op = 3 ∨ op = 4 by omega) with rfl | rfl
        · rcases ga with rfl | rfl
          · exact bin_L3_b1 _ p1 p2 _ _ _ _ po pa pb w h
          · exact bin_L3_b0 _ p1 p2 _ _ _ _ po pa pb w h
        · rcases ga with rfl | rfl
          · exact bin_L4_b1 _ p1 p2 _ _ _ _ po pa pb w h
          · exact bin_L4_b0 _ p1 p2 _ _ _ _ po pa pb w h
      | true =>
        have gb := fit_or hfb
        obtain ⟨ka, i, s⟩ := a
        obtain ⟨kb, j, t⟩ := b
        rcases (show op = 3 ∨ op = 4 by omega) with rfl | rfl
        · rcases ga with rfl | rfl
          · rcases gb with rfl | rfl
            · exact bin_L3_11 _ _ _ _ po pa pb w h
            · exact bin_L3_10 _ _ _ _ po pa pb w h
          · rcases gb with rfl | rfl
            · exact bin_L3_01 _ _ _ _ po pa pb w h
            · exact bin_L3_00 _ _ _ _ po pa pb w h
        · rcases ga with rfl | rfl
          · rcases gb with rfl | rfl
            · exact bin_L4_11 _ _ _ _ po pa pb w h
            · exact bin_L4_10 _ _ _ _ po pa pb w h
          · rcases gb with rfl | rfl
            · exact bin_L4_01 _ _ _ _ po pa pb w h
            · exact bin_L4_00 _ _ _ _ po pa pb w h
  by_cases h10 : op ≤ 10
  · have e : binP op a b = if a.kind = 0 ∨ b.kind = 0 then .ok vNull else if a.kind = b.kind then .ok (vTru (holdP op (cmpV a b))) else .error 35 := by unfold binP; rw [if_neg h4, if_pos h10]
    rw [e]
    by_cases ka0 : a.kind = 0
    · rw [if_pos (.inl ka0)]
      obtain ⟨ka, i, s⟩ := a
      obtain rfl : ka = 0 := ka0
      exact bin_C_0 op h3 h16 h4 h10 _ _ _ _ _ po pa pb w h
    · have na : (a.kind == 0) = false := by simpa using ka0
      by_cases kb0 : b.kind = 0
      · rw [if_pos (.inr kb0)]
        obtain ⟨kb, j, t⟩ := b
        obtain rfl : kb = 0 := kb0
        exact bin_C_n op h3 h16 h4 h10 _ na _ _ _ _ po pa pb w h
      · rw [if_neg (by rintro (h | h); exact ka0 h; exact kb0 h)]
        have nb : (b.kind == 0) = false := by simpa using kb0
        by_cases hk : a.kind = b.kind
        · rw [if_pos hk]
          have HC := Asd.mk (compare_calls a b ha hb hk ka0)
          generalize cmpV a b = c at HC ⊢
          obtain ⟨ka, i, s⟩ := a
          obtain ⟨kb, j, t⟩ := b
          obtain rfl : ka = kb := hk
          exact bin_C_yes op h3 h16 h4 h10 _ na c _ _ _ _ HC po pa pb w h
        · rw [if_neg hk]
          exact bin_C_no op h3 h16 h4 h10 _ _ na nb (by simpa using hk) _ _ _ _ po pa pb w h
  by_cases h6 : op = 16
  · subst h6
    have e : binP 16 a b = if fitK 3 a && fitK 3 b then (if a.kind = 0 ∨ b.kind = 0 then .ok vNull else if a.text.length + b.text.length ≤ 2048 then .ok (vTxt (a.text ++ b.text)) else .error 8) else .error 35 := rfl
    rw [e]
    have hla := rv_len ha
    have hlb := rv_len hb
    cases hfa : fitK 3 a with
    | false =>
      obtain ⟨p1, p2⟩ := fit_not hfa
      exact bin_S_a _ _ p1 p2 _ _ _ _ po pa pb w h
    | true =>
      have ga := fit_or hfa
      cases hfb : fitK 3 b with
      | false =>
        obtain ⟨p1, p2⟩ := fit_not hfb
        obtain ⟨ka, i, s⟩ := a
        rcases ga with rfl | rfl
        · exact bin_S_b3 _ p1 p2 _ _ _ _ po pa pb w h
        · exact bin_S_b0 _ p1 p2 _ _ _ _ po pa pb w h
      | true =>
        have gb := fit_or hfb
        obtain ⟨ka, i, s⟩ := a
        obtain ⟨kb, j, t⟩ := b
        rcases ga with rfl | rfl
        · rcases gb with rfl | rfl
          · rw [Bool.and_self, if_pos rfl, if_neg (by simp)]
            have hw := len_sum s t hla hlb
            by_cases hl : s.length + t.length ≤ 2048
            · rw [if_pos hl]
              exact bin_S_ok _ _ _ _ hl (decide_eq_true (by omega)) po pa pb w h
            · rw [if_neg hl]
              exact bin_S_long _ _ _ _ (by rw [hw]; exact decide_eq_false (by omega)) po pa pb w h
          · exact bin_S_30 _ _ _ _ po pa pb w h
        · rcases gb with rfl | rfl
          · exact bin_S_03 _ _ _ _ po pa pb w h
          · exact bin_S_00 _ _ _ _ po pa pb w h
  · have e : binP op a b = if fitK 2 a && fitK 2 b then (if a.kind = 0 ∨ b.kind = 0 then .ok vNull else sumV op a.int b.int) else .error 35 := by unfold binP; rw [if_neg h4, if_neg h10, if_neg h6]
    rw [e]
    have hia := rv_int ha
    have hib := rv_int hb
    cases hfa : fitK 2 a with
    | false =>
      obtain ⟨p1, p2⟩ := fit_not hfa
      exact bin_A_a op h3 h16 h4 h10 h6 _ _ p1 p2 _ _ _ _ po pa pb w h
    | true =>
      have ga := fit_or hfa
      cases hfb : fitK 2 b with
      | false =>
        obtain ⟨p1, p2⟩ := fit_not hfb
        obtain ⟨ka, i, s⟩ := a
        rcases ga with rfl | rfl
        · exact bin_A_b2 op h3 h16 h4 h10 h6 _ p1 p2 _ _ _ _ po pa pb w h
        · exact bin_A_b0 op h3 h16 h4 h10 h6 _ p1 p2 _ _ _ _ po pa pb w h
      | true =>
        have gb := fit_or hfb
        obtain ⟨ka, i, s⟩ := a
        obtain ⟨kb, j, t⟩ := b
        rcases ga with rfl | rfl
        · rcases gb with rfl | rfl
          · rw [Bool.and_self, if_pos rfl, if_neg (by simp)]
            have hc := sum_calls op i j (by omega) (by omega) hia hib
            show Calls _ _ _ w (EvR (sumV op i j) w)
            unfold sumV
            cases hs : sumN op i j with
            | ok z =>
              rw [hs] at hc
              exact bin_A_ok op h3 h16 h4 h10 h6 z _ _ _ _ ⟨fun W => (hc W).mono fun e w' h => ⟨h.2, h.1⟩⟩ po pa pb w h
            | error n =>
              rw [hs] at hc
              exact bin_A_no op h3 h16 h4 h10 h6 n _ _ _ _ ⟨fun W => (hc W).mono fun e w' h => ⟨h.2, h.1⟩⟩ po pa pb w h
          · exact bin_A_20 op h3 h16 h4 h10 h6 _ _ _ _ po pa pb w h
        · rcases gb with rfl | rfl
          · exact bin_A_02 op h3 h16 h4 h10 h6 _ _ _ _ po pa pb w h
          · exact bin_A_00 op h3 h16 h4 h10 h6 _ _ _ _ po pa pb w h
set_option maxRecDepth 100000 in
set_option maxHeartbeats 6400000 in
/-- calc.Binary. -/
theorem binary_calls (op : Int) (h3 : 3 ≤ op) (h16 : op ≤ 16) (a b : Vl) (ha : RV a) (hb : RV b) (w : World) : Calls Tryz.prog 22 #[.int .i64 op, vC a, vC b] w (Ev2 (binP op a b) w) := by
  have hmf := mk_func
  have HC := Asd.mk (bin_calls op h3 h16 a b ha hb)
  clear h3 h16 ha hb
  generalize binP op a b = r at HC ⊢
  unfold vC
  have HW : Asd (BinW ((((w.alloc (.cells #[.int .i64 op] 3 (0, 0))).alloc (vK a)).alloc (vK b)).alloc zeroV) w.heap.size (w.heap.size + 1) (w.heap.size + 1 + 1) op a b) := Asd.mk ⟨blk_alloc (blk_alloc (blk_alloc (blk_new w _) _) _) _, blk_alloc (blk_alloc (nb1 w _ _) _) _, blk_alloc (nb2 w _ _ _) _⟩
  have HX := Asd.mk (nb3 w (.cells #[.int .i64 op] 3 (0, 0)) (vK a) (vK b) zeroV)
  have HB : Asd (Below w.heap.size w ((((w.alloc (.cells #[.int .i64 op] 3 (0, 0))).alloc (vK a)).alloc (vK b)).alloc zeroV)) := Asd.mk (below_alloc (below_alloc (below_alloc (below_alloc (Below.refl _ _) _) _) _) _)
  go_enter Tryz.func22, Tryz.ntmps22
  go_upto_region 1 with fail
  generalize ((((w.alloc (.cells #[.int .i64 op] 3 (0, 0))).alloc (vK a)).alloc (vK b)).alloc zeroV) = w1 at HW HX HB ⊢
  go_wp2_with fail
  refine (caught_calls 41 _ r _ (isGo_of Tryz.func41 (by decide) rfl) fun W hW => HC.out _ _ _ W (HW.out.below hW)).mono ?_
  rintro e w2 ⟨hb2, rfl⟩
  have HX2 := Asd.mk (blk_below hb2 HX.out)
  have HB2 : Asd (Below w.heap.size w w2) := Asd.mk (HB.out.trans (hb2.mono HB.out.size))
  clear hb2
  obtain ⟨⟨x0, x1, x2⟩, y0, y1, y2⟩ := zero_cells HX2.out
  cases r with
  | ok u =>
    unfold vC
    go_wp2
    refine val_ret2 rfl (w.heap.size + 1 + 1 + 1) _ _ _ rfl (put3_blk HX2.out _ _ _) rfl ?_
    exact ⟨below_put3 HB2.out (by omega) _ _ _, rfl⟩
  | error n =>
    unfold vC
    simp only [vNull]
    go_wp2
    refine val_ret2 rfl (w.heap.size + 1 + 1 + 1) _ _ _ rfl (put3_blk HX2.out _ _ _) rfl ?_
    exact ⟨below_put3 HB2.out (by omega) _ _ _, rfl⟩
end Go.Proofs.YtbeeaikilcnpgaaGreatDoor.Exp

/- calc: mapped, cut, Args, takes. -/
set_option linter.unusedVariables false
set_option linter.unusedSimpArgs false
namespace Go.Proofs.YtbeeaikilcnpgaaGreatDoor.Exp
open Go.RowKit Go.Proofs.YtbeeaikilcnpgaaGreatDoor.Base Go.Proofs.YtbeeaikilcnpgaaGreatDoor.App Go.Proofs.YtbeeaikilcnpgaaGreatDoor.Byt

theorem take_snocB (s : List UInt8) (k : Nat) (h : k < s.length) : s.take (k + 1) = s.take k ++ [s[k]] := List.take_succ_eq_append_getElem h
theorem byteCells_lenB (l : List UInt8) : (Lib.byteCells l).length = l.length := by simp [Lib.byteCells]
theorem byteCells_snocB (l : List UInt8) (c : UInt8) : Lib.byteCells (l ++ [c]) = Lib.byteCells l ++ [.int .u8 c.toNat] := by simp [Lib.byteCells]
theorem bld_freshB (w : World) : Lib.IsBuilder 124 5 w.heap.size w.heap.size [] (w.alloc (.cells #[.pointer none, .slice none 0 0] 124)) :=
  .inl ⟨Nat.le_refl _, .slice none 0 0, blk_new _ _, World.ownsRow_nil _ _ _ _, by simp [Value.ownBlock]⟩
def mapC (from_ to_ : UInt8) (c : UInt8) : UInt8 := if from_.toNat ≤ c.toNat ∧ c.toNat ≤ from_.toNat + 25 then c + (to_ - from_) else c
theorem mapP_eq (f t : UInt8) (s : List UInt8) : mapP f t s = s.map (mapC f t) := rfl
theorem mapP_len (f t : UInt8) (s : List UInt8) : (mapP f t s).length = s.length := by simp [mapP]
theorem mapP_snoc (f t : UInt8) (s : List UInt8) (c : UInt8) : mapP f t (s ++ [c]) = mapP f t s ++ [mapC f t c] := by simp [mapP, mapC]

set_option maxRecDepth 100000 in
set_option maxHeartbeats 3200000 in
theorem mapped_up (s : ByteArray) (hs : s.size ≤ reachBytes) (w : World) : Calls Tryz.prog 67 #[.string s, .int .u8 97, .int .u8 65] w fun e w' => e = .returned (.string ⟨(mapP 97 65 s.data.toList).toArray⟩) ∧ Below w.heap.size w w' := by
  have hs : s.size ≤ 140737488351232 := hs
  have HBF := Asd.mk (bld_freshB w)
  have HB : Asd (Below w.heap.size w (w.alloc (.cells #[.pointer none, .slice none 0 0] 124))) := Asd.mk (below_alloc (Below.refl _ _) _)
  go_enter Tryz.func67, Tryz.ntmps67
  go_upto_region 2 with fail
  generalize w.alloc (.cells #[.pointer none, .slice none 0 0] 124) = w1 at HBF HB ⊢
  have HBW : Asd (w.heap.size ≤ w1.heap.size) := Asd.mk HB.out.size
  go_wp2
  go_loopw [12] (fun i wr => ∃ k : Nat, k ≤ s.size ∧ i = .int .i64 (k : Int) ∧ Asd (Lib.IsBuilder 124 5 w.heap.size w.heap.size (Lib.byteCells (mapP 97 65 (s.data.toList.take k))) wr) ∧ Asd (Below w.heap.size w wr)) (fun i _ => s.size - (intOf i).toNat)
  case atStart => exact ⟨0, by omega, rfl, ⟨HBF.out⟩, ⟨HB.out⟩⟩
  case round =>
    obtain ⟨k, hk, rfl, HBD, HBR⟩ := hrel
    by_cases hlt : k < s.size
    · have hc := s[k].toNat_lt
      have HN : Asd ((mapP 97 65 (s.data.toList.take (k + 1))) = mapP 97 65 (s.data.toList.take k) ++ [mapC 97 65 s[k]]) := Asd.mk (by rw [take_snocB _ k (by simpa using hlt), mapP_snoc]; rfl)
      have HLK : Asd ((Lib.byteCells (mapP 97 65 (s.data.toList.take k))).length ≤ k) := Asd.mk (by rw [byteCells_lenB, mapP_len, List.length_take]; omega)
      generalize hck : s[k] = c at hc HN
      by_cases h1 : 97 ≤ c.toNat
      · by_cases h2 : c.toNat ≤ 122
        · have HV : Asd (((c.toNat : Int) + 224) % 256 = ((mapC 97 65 c).toNat : Int)) := Asd.mk (by
            unfold mapC
            rw [if_pos ⟨h1, h2⟩, UInt8.toNat_add]
            show _ = (((c.toNat + 224) % 256 : Nat) : Int)
            omega)
          go_wp2_with fail
          rw [HV.out]
          refine (Tryz.Builder_WriteByte w.heap.size w.heap.size _ _ wr HBD.out (by have := HLK.out; omega) (by have := HBW.out; have := HBR.out.size; omega)).mono ?_
          rintro e w4 ⟨rfl, hbd, hb4⟩
          have HB4 : Asd (Below w.heap.size w w4) := Asd.mk (HBR.out.trans hb4)
          have HBD4 : Asd (Lib.IsBuilder 124 5 w.heap.size w.heap.size (Lib.byteCells (mapP 97 65 (s.data.toList.take (k + 1)))) w4) := Asd.mk (by
            rw [HN.out, byteCells_snocB]
            exact .inr hbd)
          clear hbd hb4
          go_wp2
          go_roundw
          case rel => exact ⟨k + 1, by omega, by go_num, HBD4, HB4⟩
          case measure => simp [intOf]; omega
        · have HV : Asd (mapC 97 65 c = c) := Asd.mk (by unfold mapC; exact if_neg fun h => h2 h.2)
          rw [HV.out] at HN
          go_wp2_with fail
          refine (Tryz.Builder_WriteByte w.heap.size w.heap.size _ _ wr HBD.out (by have := HLK.out; omega) (by have := HBW.out; have := HBR.out.size; omega)).mono ?_
          rintro e w4 ⟨rfl, hbd, hb4⟩
          have HB4 : Asd (Below w.heap.size w w4) := Asd.mk (HBR.out.trans hb4)
          have HBD4 : Asd (Lib.IsBuilder 124 5 w.heap.size w.heap.size (Lib.byteCells (mapP 97 65 (s.data.toList.take (k + 1)))) w4) := Asd.mk (by
            rw [HN.out, byteCells_snocB]
            exact .inr hbd)
          clear hbd hb4
          go_wp2
          go_roundw
          case rel => exact ⟨k + 1, by omega, by go_num, HBD4, HB4⟩
          case measure => simp [intOf]; omega
      · have HV : Asd (mapC 97 65 c = c) := Asd.mk (by unfold mapC; exact if_neg fun h => h1 h.1)
        rw [HV.out] at HN
        go_wp2_with fail
        refine (Tryz.Builder_WriteByte w.heap.size w.heap.size _ _ wr HBD.out (by have := HLK.out; omega) (by have := HBW.out; have := HBR.out.size; omega)).mono ?_
        rintro e w4 ⟨rfl, hbd, hb4⟩
        have HB4 : Asd (Below w.heap.size w w4) := Asd.mk (HBR.out.trans hb4)
        have HBD4 : Asd (Lib.IsBuilder 124 5 w.heap.size w.heap.size (Lib.byteCells (mapP 97 65 (s.data.toList.take (k + 1)))) w4) := Asd.mk (by
          rw [HN.out, byteCells_snocB]
          exact .inr hbd)
        clear hbd hb4
        go_wp2
        go_roundw
        case rel => exact ⟨k + 1, by omega, by go_num, HBD4, HB4⟩
        case measure => simp [intOf]; omega
    · obtain rfl : k = s.size := by omega
      have HT : Asd (s.data.toList.take s.size = s.data.toList) := Asd.mk (List.take_of_length_le (Nat.le_of_eq (show s.data.toList.length = s.size from rfl)))
      rw [HT.out] at HBD
      go_wp2_with fail
      refine (Tryz.Builder_String_any w.heap.size w.heap.size _ wr HBD.out (by have := HBW.out; have := HBR.out.size; omega)).mono ?_
      rintro e w5 ⟨rfl, hb5⟩
      go_wp2
      go_ret
      exact ⟨rfl, HBR.out.trans hb5⟩
set_option maxRecDepth 100000 in
set_option maxHeartbeats 3200000 in
theorem mapped_low (s : ByteArray) (hs : s.size ≤ reachBytes) (w : World) : Calls Tryz.prog 67 #[.string s, .int .u8 65, .int .u8 97] w fun e w' => e = .returned (.string ⟨(mapP 65 97 s.data.toList).toArray⟩) ∧ Below w.heap.size w w' := by
  have hs : s.size ≤ 140737488351232 := hs
  have HBF := Asd.mk (bld_freshB w)
  have HB : Asd (Below w.heap.size w (w.alloc (.cells #[.pointer none, .slice none 0 0] 124))) := Asd.mk (below_alloc (Below.refl _ _) _)
  go_enter Tryz.func67, Tryz.ntmps67
  go_upto_region 2 with fail
  generalize w.alloc (.cells #[.pointer none, .slice none 0 0] 124) = w1 at HBF HB ⊢
  have HBW : Asd (w.heap.size ≤ w1.heap.size) := Asd.mk HB.out.size
  go_wp2
  go_loopw [12] (fun i wr => ∃ k : Nat, k ≤ s.size ∧ i = .int .i64 (k : Int) ∧ Asd (Lib.IsBuilder 124 5 w.heap.size w.heap.size (Lib.byteCells (mapP 65 97 (s.data.toList.take k))) wr) ∧ Asd (Below w.heap.size w wr)) (fun i _ => s.size - (intOf i).toNat)
  case atStart => exact ⟨0, by omega, rfl, ⟨HBF.out⟩, ⟨HB.out⟩⟩
  case round =>
    obtain ⟨k, hk, rfl, HBD, HBR⟩ := hrel
    by_cases hlt : k < s.size
    · have hc := s[k].toNat_lt
      have HN : Asd ((mapP 65 97 (s.data.toList.take (k + 1))) = mapP 65 97 (s.data.toList.take k) ++ [mapC 65 97 s[k]]) := Asd.mk (by rw [take_snocB _ k (by simpa using hlt), mapP_snoc]; rfl)
      have HLK : Asd ((Lib.byteCells (mapP 65 97 (s.data.toList.take k))).length ≤ k) := Asd.mk (by rw [byteCells_lenB, mapP_len, List.length_take]; omega)
      generalize hck : s[k] = c at hc HN
      by_cases h1 : 65 ≤ c.toNat
      · by_cases h2 : c.toNat ≤ 90
        · have HV : Asd (((c.toNat : Int) + 32) = ((mapC 65 97 c).toNat : Int)) := Asd.mk (by
            unfold mapC
            rw [if_pos ⟨h1, h2⟩, UInt8.toNat_add]
            show _ = (((c.toNat + 32) % 256 : Nat) : Int)
            omega)
          go_wp2_with fail
          rw [HV.out]
          refine (Tryz.Builder_WriteByte w.heap.size w.heap.size _ _ wr HBD.out (by have := HLK.out; omega) (by have := HBW.out; have := HBR.out.size; omega)).mono ?_
          rintro e w4 ⟨rfl, hbd, hb4⟩
          have HB4 : Asd (Below w.heap.size w w4) := Asd.mk (HBR.out.trans hb4)
          have HBD4 : Asd (Lib.IsBuilder 124 5 w.heap.size w.heap.size (Lib.byteCells (mapP 65 97 (s.data.toList.take (k + 1)))) w4) := Asd.mk (by
            rw [HN.out, byteCells_snocB]
            exact .inr hbd)
          clear hbd hb4
          go_wp2
          go_roundw
          case rel => exact ⟨k + 1, by omega, by go_num, HBD4, HB4⟩
          case measure => simp [intOf]; omega
        · have HV : Asd (mapC 65 97 c = c) := Asd.mk (by unfold mapC; exact if_neg fun h => h2 h.2)
          rw [HV.out] at HN
          go_wp2_with fail
          refine (Tryz.Builder_WriteByte w.heap.size w.heap.size _ _ wr HBD.out (by have := HLK.out; omega) (by have := HBW.out; have := HBR.out.size; omega)).mono ?_
          rintro e w4 ⟨rfl, hbd, hb4⟩
          have HB4 : Asd (Below w.heap.size w w4) := Asd.mk (HBR.out.trans hb4)
          have HBD4 : Asd (Lib.IsBuilder 124 5 w.heap.size w.heap.size (Lib.byteCells (mapP 65 97 (s.data.toList.take (k + 1)))) w4) := Asd.mk (by
            rw [HN.out, byteCells_snocB]
            exact .inr hbd)
          clear hbd hb4
          go_wp2
          go_roundw
          case rel => exact ⟨k + 1, by omega, by go_num, HBD4, HB4⟩
          case measure => simp [intOf]; omega
      · have HV : Asd (mapC 65 97 c = c) := Asd.mk (by unfold mapC; exact if_neg fun h => h1 h.1)
        rw [HV.out] at HN
        go_wp2_with fail
        refine (Tryz.Builder_WriteByte w.heap.size w.heap.size _ _ wr HBD.out (by have := HLK.out; omega) (by have := HBW.out; have := HBR.out.size; omega)).mono ?_
        rintro e w4 ⟨rfl, hbd, hb4⟩
        have HB4 : Asd (Below w.heap.size w w4) := Asd.mk (HBR.out.trans hb4)
        have HBD4 : Asd (Lib.IsBuilder 124 5 w.heap.size w.heap.size (Lib.byteCells (mapP 65 97 (s.data.toList.take (k + 1)))) w4) := Asd.mk (by
          rw [HN.out, byteCells_snocB]
          exact .inr hbd)
        clear hbd hb4
        go_wp2
        go_roundw
        case rel => exact ⟨k + 1, by omega, by go_num, HBD4, HB4⟩
        case measure => simp [intOf]; omega
    · obtain rfl : k = s.size := by omega
      have HT : Asd (s.data.toList.take s.size = s.data.toList) := Asd.mk (List.take_of_length_le (Nat.le_of_eq (show s.data.toList.length = s.size from rfl)))
      rw [HT.out] at HBD
      go_wp2_with fail
      refine (Tryz.Builder_String_any w.heap.size w.heap.size _ wr HBD.out (by have := HBW.out; have := HBR.out.size; omega)).mono ?_
      rintro e w5 ⟨rfl, hb5⟩
      go_wp2
      go_ret
      exact ⟨rfl, HBR.out.trans hb5⟩
theorem args_calls (f : Int) (h : 1 ≤ f) (h' : f ≤ 5) (w : World) : Calls Tryz.prog 49 #[.int .i64 f] w fun e w' => e = .returned (.int .i64 ((opn f.toNat : Nat) : Int)) ∧ w' = w := by
  rcases (show f = 1 ∨ f = 2 ∨ f = 3 ∨ f = 4 ∨ f = 5 by omega) with rfl | rfl | rfl | rfl | rfl
  all_goals
    go_enter Tryz.func49, Tryz.ntmps49
    go_wp2
    go_ret
    exact ⟨rfl, rfl⟩
end Go.Proofs.YtbeeaikilcnpgaaGreatDoor.Exp

/- calc: cut. -/
set_option linter.unusedVariables false
set_option linter.unusedSimpArgs false
namespace Go.Proofs.YtbeeaikilcnpgaaGreatDoor.Exp
open Go.RowKit Go.Proofs.YtbeeaikilcnpgaaGreatDoor.Base Go.Proofs.YtbeeaikilcnpgaaGreatDoor.App Go.Proofs.YtbeeaikilcnpgaaGreatDoor.Byt

set_option maxRecDepth 100000 in
theorem cut_none (s : ByteArray) (p n : Int) (h : n ≤ 0) (w : World) : Calls Tryz.prog 68 #[.string s, .int .i64 p, .int .i64 n] w fun e w' => e = .returned (.string ⟨#[]⟩) ∧ w' = w := by
  go_enter Tryz.func68, Tryz.ntmps68
  go_wp2
  go_ret
  exact ⟨rfl, rfl⟩
set_option maxRecDepth 100000 in
theorem cut_far (s : ByteArray) (p n : Int) (h : ¬ n ≤ 0) (hp : (s.size : Int) < p) (w : World) : Calls Tryz.prog 68 #[.string s, .int .i64 p, .int .i64 n] w fun e w' => e = .returned (.string ⟨#[]⟩) ∧ w' = w := by
  go_enter Tryz.func68, Tryz.ntmps68
  go_wp2
  go_ret
  exact ⟨rfl, rfl⟩
set_option maxRecDepth 100000 in
theorem cut_in (s : ByteArray) (p n : Int) (h : ¬ n ≤ 0) (hn : n ≤ 9223372036854775807) (hp : ¬ (s.size : Int) < p) (h1 : ¬ p < 1) (hs : s.size ≤ 140737488351232) (w : World) : Calls Tryz.prog 68 #[.string s, .int .i64 p, .int .i64 n] w fun e w' => e = .returned (.string (s.extract (p.toNat - 1) (p - 1 + min n (s.size - p + 1)).toNat)) ∧ w' = w := by
  go_enter Tryz.func68, Tryz.ntmps68
  go_wp2
  go_ret
  exact ⟨rfl, rfl⟩
set_option maxRecDepth 100000 in
theorem cut_ahead (s : ByteArray) (p n a : Int) (h : ¬ n ≤ 0) (hn : n ≤ 9223372036854775807) (hp : ¬ (s.size : Int) < p) (h1 : p < 1) (hA : IntKind.u64.wrap (wrap64 (1 - p)) = a) (hna : n ≤ a) (hs : s.size ≤ 140737488351232) (w : World) : Calls Tryz.prog 68 #[.string s, .int .i64 p, .int .i64 n] w fun e w' => e = .returned (.string ⟨#[]⟩) ∧ w' = w := by
  go_enter Tryz.func68, Tryz.ntmps68
  go_wp2
  go_ret
  exact ⟨rfl, rfl⟩
set_option maxRecDepth 100000 in
theorem cut_neg (s : ByteArray) (p n a : Int) (h : ¬ n ≤ 0) (hn : n ≤ 9223372036854775807) (hp : ¬ (s.size : Int) < p) (h1 : p < 1) (hA : IntKind.u64.wrap (wrap64 (1 - p)) = a) (hna : ¬ n ≤ a) (h0 : 0 ≤ a) (hs : s.size ≤ 140737488351232) (w : World) : Calls Tryz.prog 68 #[.string s, .int .i64 p, .int .i64 n] w fun e w' => e = .returned (.string (s.extract 0 (min (n - a) s.size).toNat)) ∧ w' = w := by
  go_enter Tryz.func68, Tryz.ntmps68
  go_wp2
  go_ret
  exact ⟨rfl, rfl⟩
theorem ext_list (s : ByteArray) (i j : Nat) : s.extract i j = ⟨((s.data.toList.drop i).take (j - i)).toArray⟩ := by
  apply ByteArray.ext
  apply Array.toList_inj.mp
  rw [ByteArray.data_extract, Array.toList_extract, List.extract_eq_take_drop]
theorem cut_calls (s : ByteArray) (p n : Int) (hs : s.size ≤ reachBytes) (hp : inI p) (hn : inI n) (w : World) : Calls Tryz.prog 68 #[.string s, .int .i64 p, .int .i64 n] w fun e w' => e = .returned (.string ⟨(cutP s.data.toList p n).toArray⟩) ∧ w' = w := by
  have hs : s.size ≤ 140737488351232 := hs
  have hl : s.data.toList.length = s.size := rfl
  by_cases h0 : n ≤ 0
  · rw [show cutP s.data.toList p n = [] by unfold cutP; rw [if_pos (.inl h0)]]
    exact cut_none s p n h0 w
  by_cases hf : (s.size : Int) < p
  · rw [show cutP s.data.toList p n = [] by unfold cutP; rw [if_pos (.inr hf)]]
    exact cut_far s p n h0 hf w
  have hno : ¬ (n ≤ 0 ∨ (s.data.toList.length : Int) < p) := by rintro (h | h); exact h0 h; exact hf h
  by_cases h1 : p < 1
  · have hA : IntKind.u64.wrap (wrap64 (1 - p)) = 1 - p := by
      have := hp.1
      rw [IntKind.wrap_u64]; unfold wrap64; omega
    by_cases ha : n ≤ 1 - p
    · rw [show cutP s.data.toList p n = [] by unfold cutP; rw [if_neg hno, if_pos h1, if_pos ha]]
      exact cut_ahead s p n _ h0 hn.2 hf h1 hA ha hs w
    · rw [show cutP s.data.toList p n = s.data.toList.take (n - (1 - p)).toNat by unfold cutP; rw [if_neg hno, if_pos h1, if_neg ha]]
      have h := cut_neg s p n _ h0 hn.2 hf h1 hA ha (by omega) hs w
      rw [ext_list, List.drop_zero, Nat.sub_zero] at h
      rw [show (s.data.toList.take (n - (1 - p)).toNat) = s.data.toList.take (min (n - (1 - p)) (s.size : Int)).toNat by
        by_cases hle : n - (1 - p) ≤ (s.size : Int)
        · rw [Int.min_eq_left hle]
        · rw [Int.min_eq_right (by omega), List.take_of_length_le (by omega), List.take_of_length_le (by omega)]]
      exact h
  · rw [show cutP s.data.toList p n = (s.data.toList.drop (p - 1).toNat).take n.toNat by unfold cutP; rw [if_neg hno, if_neg h1]]
    have h := cut_in s p n h0 hn.2 hf h1 hs w
    rw [ext_list] at h
    have hd : (s.data.toList.drop (p - 1).toNat).length = s.size - (p - 1).toNat := by rw [List.length_drop]; rfl
    rw [show p.toNat - 1 = (p - 1).toNat by omega] at h
    rw [show (s.data.toList.drop (p - 1).toNat).take n.toNat = (s.data.toList.drop (p - 1).toNat).take ((p - 1 + min n (s.size - p + 1)).toNat - (p - 1).toNat) by
      by_cases hle : n ≤ s.size - p + 1
      · rw [Int.min_eq_left hle]; congr 1; omega
      · rw [Int.min_eq_right (by omega), List.take_of_length_le (by rw [hd]; omega), List.take_of_length_le (by rw [hd]; omega)]]
    exact h
end Go.Proofs.YtbeeaikilcnpgaaGreatDoor.Exp

/- calc.Call. -/
set_option linter.unusedVariables false
set_option linter.unusedSimpArgs false
namespace Go.Proofs.YtbeeaikilcnpgaaGreatDoor.Exp
open Go.RowKit Go.Proofs.YtbeeaikilcnpgaaGreatDoor.Base Go.Proofs.YtbeeaikilcnpgaaGreatDoor.App Go.Proofs.YtbeeaikilcnpgaaGreatDoor.Byt

/-- A value lies at a place of a block. -/
def ValAt (W : World) (g o : Nat) (v : Vl) : Prop := W.cell? ⟨g, o, none⟩ = some (.int .i64 v.kind) ∧ W.cell? ⟨g, o + 1, none⟩ = some (.int .i64 v.int) ∧ W.cell? ⟨g, o + 2, none⟩ = some (.string ⟨v.text.toArray⟩)
theorem ValAt.below {W W' : World} {g o : Nat} {v : Vl} (h : ValAt W g o v) (hb : Below W.heap.size W W') : ValAt W' g o v :=
  ⟨(hb.cell (World.block_lt_of_cell? W _ h.1)).trans h.1, (hb.cell (World.block_lt_of_cell? W _ h.2.1)).trans h.2.1, (hb.cell (World.block_lt_of_cell? W _ h.2.2)).trans h.2.2⟩
/-- The slice at A holds these values. -/
def ValSl (W : World) (A : Option Addr) (vs : List Vl) : Prop := 0 < vs.length → ∃ g o, A = some ⟨g, o, none⟩ ∧ ∀ i (h : i < vs.length), ValAt W g (o + i * 3) vs[i]
theorem ValSl.below {W W' : World} {A : Option Addr} {vs : List Vl} (h : ValSl W A vs) (hb : Below W.heap.size W W') : ValSl W' A vs := fun h0 => by
  obtain ⟨g, o, rfl, h1⟩ := h h0
  exact ⟨g, o, rfl, fun i hi => (h1 i hi).below hb⟩
def FJ (f : Int) (j : Nat) : Prop := (f = 1 ∧ j = 0) ∨ (f = 2 ∧ j = 0) ∨ (f = 3 ∧ j = 0) ∨ (f = 4 ∧ j = 0) ∨ (f = 5 ∧ j = 0) ∨ (f = 5 ∧ j = 1) ∨ (f = 5 ∧ j = 2)
set_option maxRecDepth 100000 in
set_option maxHeartbeats 6400000 in
theorem takes_calls (f : Int) (j : Nat) (k : Int) (h : FJ f j) (hk : 0 ≤ k ∧ k ≤ 4) (w : World) : Calls Tryz.prog 50 #[.int .i64 f, .int .i64 (j : Int), .int .i64 k] w fun e w' => e = .returned (.bool (takesP f j k)) ∧ w' = w := by
  rcases (show k = 0 ∨ k = 1 ∨ k = 2 ∨ k = 3 ∨ k = 4 by omega) with rfl | rfl | rfl | rfl | rfl <;> rcases h with ⟨rfl, rfl⟩ | ⟨rfl, rfl⟩ | ⟨rfl, rfl⟩ | ⟨rfl, rfl⟩ | ⟨rfl, rfl⟩ | ⟨rfl, rfl⟩ | ⟨rfl, rfl⟩
  all_goals
    go_enter Tryz.func50, Tryz.ntmps50
    go_wp2
    go_ret
    exact ⟨rfl, rfl⟩
set_option maxRecDepth 100000 in
set_option maxHeartbeats 6400000 in
theorem called_1 (k i : Int) (s : List UInt8) (g o c : Nat) (w : World) (h : ∀ j (h : j < ([⟨k, i, s⟩] : List Vl).length), ValAt w g (o + j * 3) ([⟨k, i, s⟩] : List Vl)[j]) :
    Calls Tryz.prog 51 #[.int .i64 1, .slice (some ⟨g, o, none⟩) 1 c] w (EvR (.ok (vNum s.length)) w) := by
  have HV := Asd.mk h
  have HX := Asd.mk (blk_new w zeroV)
  have HB : Asd (Below w.heap.size w (w.alloc zeroV)) := Asd.mk (below_alloc (Below.refl _ _) _)
  clear h
  have hsz : (⟨s.toArray⟩ : ByteArray).size = s.length := rfl
  go_enter Tryz.func51, Tryz.ntmps51
  go_upto_region 1 with fail
  generalize w.alloc _ = w1 at HX HB ⊢
  obtain ⟨p00, p01, p02⟩ := (HV.out 0 (by simp)).below HB.out
  simp only [List.getElem_cons_zero, List.getElem_cons_succ, Nat.zero_mul, Nat.one_mul, Nat.add_zero, Nat.reduceMul, Nat.add_assoc, Nat.reduceAdd] at p00 p01 p02
  have HX2 := Asd.mk (blk_alloc HX.out (vK ⟨k, i, s⟩))
  have HV2 := Asd.mk (blk_new w1 (vK ⟨k, i, s⟩))
  have HB2 : Asd (Below w.heap.size w (w1.alloc (vK ⟨k, i, s⟩))) := Asd.mk (below_alloc HB.out _)
  have HB12 : Asd (Below w1.heap.size w1 (w1.alloc (vK ⟨k, i, s⟩))) := Asd.mk (below_alloc (Below.refl _ _) _)
  go_upto_region 2 with fail
  generalize w1.alloc _ = w2 at HX2 HV2 HB2 HB12 ⊢
  have HL5 : Asd (w.heap.size < w1.heap.size) := Asd.mk (blk_lt HX.out)
  generalize w1.heap.size = b5 at HV2 HL5 ⊢
  clear p00 p01 p02
  obtain ⟨v0, v1, v2⟩ := val_cells HV2.out
  simp only at v0 v1 v2
  obtain ⟨⟨x0, x1, x2⟩, y0, y1, y2⟩ := zero_cells HX2.out
  go_wp2_with fail
  refine (number_calls s.length _).mono ?_
  rintro e w3 ⟨rfl, hb3⟩
  have HX3 := Asd.mk (blk_below hb3 HX2.out)
  have HB3 : Asd (Below w.heap.size w w3) := Asd.mk (HB2.out.trans (hb3.mono HB2.out.size))
  clear x0 x1 x2 y0 y1 y2 v0 v1 v2 hb3
  obtain ⟨⟨x0, x1, x2⟩, y0, y1, y2⟩ := zero_cells HX3.out
  unfold vC
  go_wp2
  refine val_ret rfl w.heap.size _ _ _ rfl (put3_blk HX3.out _ _ _) rfl ?_
  exact ⟨below_put3 HB3.out (Nat.le_refl _) _ _ _, rfl⟩
set_option maxRecDepth 100000 in
set_option maxHeartbeats 6400000 in
theorem called_2 (k i : Int) (s : List UInt8) (h1 : (i != (-9223372036854775808 : Int)) = true) (hlo : -9223372036854775808 < i) (hhi : i ≤ 9223372036854775807) (g o c : Nat) (w : World) (h : ∀ j (h : j < ([⟨k, i, s⟩] : List Vl).length), ValAt w g (o + j * 3) ([⟨k, i, s⟩] : List Vl)[j]) :
    Calls Tryz.prog 51 #[.int .i64 2, .slice (some ⟨g, o, none⟩) 1 c] w (EvR (.ok (vNum (max i (-i)))) w) := by
  have HV := Asd.mk h
  have HX := Asd.mk (blk_new w zeroV)
  have HB : Asd (Below w.heap.size w (w.alloc zeroV)) := Asd.mk (below_alloc (Below.refl _ _) _)
  clear h
  go_enter Tryz.func51, Tryz.ntmps51
  go_upto_region 1 with fail
  generalize w.alloc _ = w1 at HX HB ⊢
  obtain ⟨p00, p01, p02⟩ := (HV.out 0 (by simp)).below HB.out
  simp only [List.getElem_cons_zero, List.getElem_cons_succ, Nat.zero_mul, Nat.one_mul, Nat.add_zero, Nat.reduceMul, Nat.add_assoc, Nat.reduceAdd] at p00 p01 p02
  have HX2 := Asd.mk (blk_alloc HX.out (vK ⟨k, i, s⟩))
  have HV2 := Asd.mk (blk_new w1 (vK ⟨k, i, s⟩))
  have HB2 : Asd (Below w.heap.size w (w1.alloc (vK ⟨k, i, s⟩))) := Asd.mk (below_alloc HB.out _)
  have HB12 : Asd (Below w1.heap.size w1 (w1.alloc (vK ⟨k, i, s⟩))) := Asd.mk (below_alloc (Below.refl _ _) _)
  go_upto_region 2 with fail
  generalize w1.alloc _ = w2 at HX2 HV2 HB2 HB12 ⊢
  have HL5 : Asd (w.heap.size < w1.heap.size) := Asd.mk (blk_lt HX.out)
  generalize w1.heap.size = b5 at HV2 HL5 ⊢
  clear p00 p01 p02
  obtain ⟨v0, v1, v2⟩ := val_cells HV2.out
  simp only at v0 v1 v2
  obtain ⟨⟨x0, x1, x2⟩, y0, y1, y2⟩ := zero_cells HX2.out
  go_wp2_with fail
  refine (check_ok 40 _).mono ?_
  rintro e w' ⟨rfl, rfl⟩
  go_wp2_with fail
  refine (number_calls (max i (-i)) _).mono ?_
  rintro e w3 ⟨rfl, hb3⟩
  have HX3 := Asd.mk (blk_below hb3 HX2.out)
  have HB3 : Asd (Below w.heap.size w w3) := Asd.mk (HB2.out.trans (hb3.mono HB2.out.size))
  clear x0 x1 x2 y0 y1 y2 v0 v1 v2 hb3
  obtain ⟨⟨x0, x1, x2⟩, y0, y1, y2⟩ := zero_cells HX3.out
  unfold vC
  go_wp2
  refine val_ret rfl w.heap.size _ _ _ rfl (put3_blk HX3.out _ _ _) rfl ?_
  exact ⟨below_put3 HB3.out (Nat.le_refl _) _ _ _, rfl⟩
set_option maxRecDepth 100000 in
set_option maxHeartbeats 6400000 in
theorem called_2l (k i : Int) (s : List UInt8) (h1 : (i != (-9223372036854775808 : Int)) = false) (g o c : Nat) (w : World) (h : ∀ j (h : j < ([⟨k, i, s⟩] : List Vl).length), ValAt w g (o + j * 3) ([⟨k, i, s⟩] : List Vl)[j]) :
    Calls Tryz.prog 51 #[.int .i64 2, .slice (some ⟨g, o, none⟩) 1 c] w (EvR (.error 40) w) := by
  have HV := Asd.mk h
  have HX := Asd.mk (blk_new w zeroV)
  have HB : Asd (Below w.heap.size w (w.alloc zeroV)) := Asd.mk (below_alloc (Below.refl _ _) _)
  clear h
  go_enter Tryz.func51, Tryz.ntmps51
  go_upto_region 1 with fail
  generalize w.alloc _ = w1 at HX HB ⊢
  obtain ⟨p00, p01, p02⟩ := (HV.out 0 (by simp)).below HB.out
  simp only [List.getElem_cons_zero, List.getElem_cons_succ, Nat.zero_mul, Nat.one_mul, Nat.add_zero, Nat.reduceMul, Nat.add_assoc, Nat.reduceAdd] at p00 p01 p02
  have HX2 := Asd.mk (blk_alloc HX.out (vK ⟨k, i, s⟩))
  have HV2 := Asd.mk (blk_new w1 (vK ⟨k, i, s⟩))
  have HB2 : Asd (Below w.heap.size w (w1.alloc (vK ⟨k, i, s⟩))) := Asd.mk (below_alloc HB.out _)
  have HB12 : Asd (Below w1.heap.size w1 (w1.alloc (vK ⟨k, i, s⟩))) := Asd.mk (below_alloc (Below.refl _ _) _)
  go_upto_region 2 with fail
  generalize w1.alloc _ = w2 at HX2 HV2 HB2 HB12 ⊢
  have HL5 : Asd (w.heap.size < w1.heap.size) := Asd.mk (blk_lt HX.out)
  generalize w1.heap.size = b5 at HV2 HL5 ⊢
  clear p00 p01 p02
  obtain ⟨v0, v1, v2⟩ := val_cells HV2.out
  simp only at v0 v1 v2
  obtain ⟨⟨x0, x1, x2⟩, y0, y1, y2⟩ := zero_cells HX2.out
  go_wp2_with fail
  refine (check_no 40 _).mono ?_
  rintro e w' ⟨rfl, rfl⟩
  go_wp2
  exact ⟨rfl, HB2.out, rfl⟩
set_option maxRecDepth 100000 in
set_option maxHeartbeats 6400000 in
theorem called_3 (k i : Int) (s : List UInt8) (hs : s.length ≤ reachBytes) (g o c : Nat) (w : World) (h : ∀ j (h : j < ([⟨k, i, s⟩] : List Vl).length), ValAt w g (o + j * 3) ([⟨k, i, s⟩] : List Vl)[j]) :
    Calls Tryz.prog 51 #[.int .i64 3, .slice (some ⟨g, o, none⟩) 1 c] w (EvR (.ok (vTxt (mapP 97 65 s))) w) := by
  have HV := Asd.mk h
  have HX := Asd.mk (blk_new w zeroV)
  have HB : Asd (Below w.heap.size w (w.alloc zeroV)) := Asd.mk (below_alloc (Below.refl _ _) _)
  clear h
  go_enter Tryz.func51, Tryz.ntmps51
  go_upto_region 1 with fail
  generalize w.alloc _ = w1 at HX HB ⊢
  obtain ⟨p00, p01, p02⟩ := (HV.out 0 (by simp)).below HB.out
  simp only [List.getElem_cons_zero, List.getElem_cons_succ, Nat.zero_mul, Nat.one_mul, Nat.add_zero, Nat.reduceMul, Nat.add_assoc, Nat.reduceAdd] at p00 p01 p02
  have HX2 := Asd.mk (blk_alloc HX.out (vK ⟨k, i, s⟩))
  have HV2 := Asd.mk (blk_new w1 (vK ⟨k, i, s⟩))
  have HB2 : Asd (Below w.heap.size w (w1.alloc (vK ⟨k, i, s⟩))) := Asd.mk (below_alloc HB.out _)
  have HB12 : Asd (Below w1.heap.size w1 (w1.alloc (vK ⟨k, i, s⟩))) := Asd.mk (below_alloc (Below.refl _ _) _)
  go_upto_region 2 with fail
  generalize w1.alloc _ = w2 at HX2 HV2 HB2 HB12 ⊢
  have HL5 : Asd (w.heap.size < w1.heap.size) := Asd.mk (blk_lt HX.out)
  generalize w1.heap.size = b5 at HV2 HL5 ⊢
  clear p00 p01 p02
  obtain ⟨v0, v1, v2⟩ := val_cells HV2.out
  simp only at v0 v1 v2
  obtain ⟨⟨x0, x1, x2⟩, y0, y1, y2⟩ := zero_cells HX2.out
  go_wp2_with fail
  refine (mapped_up ⟨s.toArray⟩ hs _).mono ?_
  rintro e w3 ⟨rfl, hb3⟩
  have HX3 := Asd.mk (blk_below hb3 HX2.out)
  have HB3 : Asd (Below w.heap.size w w3) := Asd.mk (HB2.out.trans (hb3.mono HB2.out.size))
  clear x0 x1 x2 y0 y1 y2 v0 v1 v2 hb3
  go_wp2_with fail
  refine (text_calls (mapP 97 65 s) _).mono ?_
  rintro e w4 ⟨rfl, hb4⟩
  have HX4 := Asd.mk (blk_below hb4 HX3.out)
  have HB4 : Asd (Below w.heap.size w w4) := Asd.mk (HB3.out.trans (hb4.mono HB3.out.size))
  clear hb4
  obtain ⟨⟨x0, x1, x2⟩, y0, y1, y2⟩ := zero_cells HX4.out
  unfold vC
  go_wp2
  refine val_ret rfl w.heap.size _ _ _ rfl (put3_blk HX4.out _ _ _) rfl ?_
  exact ⟨below_put3 HB4.out (Nat.le_refl _) _ _ _, rfl⟩
set_option maxRecDepth 100000 in
set_option maxHeartbeats 6400000 in
theorem called_4 (k i : Int) (s : List UInt8) (hs : s.length ≤ reachBytes) (g o c : Nat) (w : World) (h : ∀ j (h : j < ([⟨k, i, s⟩] : List Vl).length), ValAt w g (o + j * 3) ([⟨k, i, s⟩] : List Vl)[j]) :
    Calls Tryz.prog 51 #[.int .i64 4, .slice (some ⟨g, o, none⟩) 1 c] w (EvR (.ok (vTxt (mapP 65 97 s))) w) := by
  have HV := Asd.mk h
  have HX := Asd.mk (blk_new w zeroV)
  have HB : Asd (Below w.heap.size w (w.alloc zeroV)) := Asd.mk (below_alloc (Below.refl _ _) _)
  clear h
  go_enter Tryz.func51, Tryz.ntmps51
  go_upto_region 1 with fail
  generalize w.alloc _ = w1 at HX HB ⊢
  obtain ⟨p00, p01, p02⟩ := (HV.out 0 (by simp)).below HB.out
  simp only [List.getElem_cons_zero, List.getElem_cons_succ, Nat.zero_mul, Nat.one_mul, Nat.add_zero, Nat.reduceMul, Nat.add_assoc, Nat.reduceAdd] at p00 p01 p02
  have HX2 := Asd.mk (blk_alloc HX.out (vK ⟨k, i, s⟩))
  have HV2 := Asd.mk (blk_new w1 (vK ⟨k, i, s⟩))
  have HB2 : Asd (Below w.heap.size w (w1.alloc (vK ⟨k, i, s⟩))) := Asd.mk (below_alloc HB.out _)
  have HB12 : Asd (Below w1.heap.size w1 (w1.alloc (vK ⟨k, i, s⟩))) := Asd.mk (below_alloc (Below.refl _ _) _)
  go_upto_region 2 with fail
  generalize w1.alloc _ = w2 at HX2 HV2 HB2 HB12 ⊢
  have HL5 : Asd (w.heap.size < w1.heap.size) := Asd.mk (blk_lt HX.out)
  generalize w1.heap.size = b5 at HV2 HL5 ⊢
  clear p00 p01 p02
  obtain ⟨v0, v1, v2⟩ := val_cells HV2.out
  simp only at v0 v1 v2
  obtain ⟨⟨x0, x1, x2⟩, y0, y1, y2⟩ := zero_cells HX2.out
  go_wp2_with fail
  refine (mapped_low ⟨s.toArray⟩ hs _).mono ?_
  rintro e w3 ⟨rfl, hb3⟩
  have HX3 := Asd.mk (blk_below hb3 HX2.out)
  have HB3 : Asd (Below w.heap.size w w3) := Asd.mk (HB2.out.trans (hb3.mono HB2.out.size))
  clear x0 x1 x2 y0 y1 y2 v0 v1 v2 hb3
  go_wp2_with fail
  refine (text_calls (mapP 65 97 s) _).mono ?_
  rintro e w4 ⟨rfl, hb4⟩
  have HX4 := Asd.mk (blk_below hb4 HX3.out)
  have HB4 : Asd (Below w.heap.size w w4) := Asd.mk (HB3.out.trans (hb4.mono HB3.out.size))
  clear hb4
  obtain ⟨⟨x0, x1, x2⟩, y0, y1, y2⟩ := zero_cells HX4.out
  unfold vC
  go_wp2
  refine val_ret rfl w.heap.size _ _ _ rfl (put3_blk HX4.out _ _ _) rfl ?_
  exact ⟨below_put3 HB4.out (Nat.le_refl _) _ _ _, rfl⟩
set_option maxRecDepth 100000 in
set_option maxHeartbeats 6400000 in
theorem called_5 (k i k' i' k'' i'' : Int) (s s' s'' : List UInt8) (hs : s.length ≤ reachBytes) (hi' : inI i') (hi'' : inI i'') (g o c : Nat) (w : World) (h : ∀ j (h : j < ([⟨k, i, s⟩, ⟨k', i', s'⟩, ⟨k'', i'', s''⟩] : List Vl).length), ValAt w g (o + j * 3) ([⟨k, i, s⟩, ⟨k', i', s'⟩, ⟨k'', i'', s''⟩] : List Vl)[j]) :
    Calls Tryz.prog 51 #[.int .i64 5, .slice (some ⟨g, o, none⟩) 3 c] w (EvR (.ok (vTxt (cutP s i' i''))) w) := by
  have HV := Asd.mk h
  have HX := Asd.mk (blk_new w zeroV)
  have HB : Asd (Below w.heap.size w (w.alloc zeroV)) := Asd.mk (below_alloc (Below.refl _ _) _)
  clear h
  go_enter Tryz.func51, Tryz.ntmps51
  go_upto_region 1 with fail
  generalize w.alloc _ = w1 at HX HB ⊢
  obtain ⟨p00, p01, p02⟩ := (HV.out 0 (by simp)).below HB.out
  obtain ⟨p10, p11, p12⟩ := (HV.out 1 (by simp)).below HB.out
  obtain ⟨p20, p21, p22⟩ := (HV.out 2 (by simp)).below HB.out
  simp only [List.getElem_cons_zero, List.getElem_cons_succ, Nat.zero_mul, Nat.one_mul, Nat.add_zero, Nat.reduceMul, Nat.add_assoc, Nat.reduceAdd] at p00 p01 p02 p10 p11 p12 p20 p21 p22
  have HX2 := Asd.mk (blk_alloc HX.out (vK ⟨k, i, s⟩))
  have HV2 := Asd.mk (blk_new w1 (vK ⟨k, i, s⟩))
  have HB2 : Asd (Below w.heap.size w (w1.alloc (vK ⟨k, i, s⟩))) := Asd.mk (below_alloc HB.out _)
  have HB12 : Asd (Below w1.heap.size w1 (w1.alloc (vK ⟨k, i, s⟩))) := Asd.mk (below_alloc (Below.refl _ _) _)
  go_upto_region 2 with fail
  generalize w1.alloc _ = w2 at HX2 HV2 HB2 HB12 ⊢
  have HL5 : Asd (w.heap.size < w1.heap.size) := Asd.mk (blk_lt HX.out)
  generalize w1.heap.size = b5 at HV2 HL5 ⊢
  clear p00 p01 p02 p10 p11 p12 p20 p21 p22
  obtain ⟨v0, v1, v2⟩ := val_cells HV2.out
  simp only at v0 v1 v2
  obtain ⟨⟨x0, x1, x2⟩, y0, y1, y2⟩ := zero_cells HX2.out
  have hgw : Asd (g ≠ w.heap.size) := Asd.mk fun e => by
    have hlt : g < w.heap.size := World.block_lt_of_cell? w _ (HV.out 0 (by simp)).1
    omega
  have hbw : Asd (b5 ≠ w.heap.size) := Asd.mk fun e => by
    have := HL5.out
    omega
  have HS : Asd (∀ w', Fr (fun k => k = w.heap.size) w2 w' → w'.cell? ⟨b5, 2, none⟩ = some (.string ⟨s.toArray⟩) ∧ w'.cell? ⟨g, o + 4, none⟩ = some (.int .i64 i') ∧ w'.cell? ⟨g, o + 7, none⟩ = some (.int .i64 i'') ∧ Fr (fun k => k = w.heap.size) w2 w') := Asd.mk fun w' hf =>
    ⟨(val_cells (blk_fr HV2.out hf hbw.out)).2.2, fr_cell hf hgw.out (((HV.out 1 (by simp)).below HB2.out).2.1), fr_cell hf hgw.out (((HV.out 2 (by simp)).below HB2.out).2.1), hf⟩
  go_upto_region 12 with fail
  clear x0 x1 x2 y0 y1 y2 v0 v1 v2
  go_region_held3 (fun w' => w'.cell? ⟨b5, 2, none⟩ = some (.string ⟨s.toArray⟩) ∧ w'.cell? ⟨g, o + 4, none⟩ = some (.int .i64 i') ∧ w'.cell? ⟨g, o + 7, none⟩ = some (.int .i64 i'') ∧ Fr (fun k => k = w.heap.size) w2 w')
    (first
      | exact HS.out _ (Fr.refl _ _)
      | exact HS.out _ (Fr.refl _ _).drew
      | exact HS.out _ HF3.out
      | exact HS.out _ (Fr.setCell (Fr.setCell (Fr.setCell HF3.out (p := ⟨w.heap.size, 0, none⟩) rfl _) (p := ⟨w.heap.size, 1, none⟩) rfl _) (p := ⟨w.heap.size, 2, none⟩) rfl _)
      | (go_split_ands; exact HS.out _ (by assumption))
      | fail)
    (first
      | (go_at_call 68
         refine (cut_calls ⟨s.toArray⟩ i' i'' hs hi' hi'' _).mono ?_
         rintro e w' ⟨rfl, rfl⟩)
      | (go_at_call 46
         refine (text_calls (cutP s i' i'') _).mono ?_
         rintro e w3 ⟨rfl, hb3⟩
         have HF3 : Asd (Fr (fun k => k = w.heap.size) w2 w3) := Asd.mk ((Fr.refl _ w2).drew.trans (Fr.of_below hb3) (fun _ h _ => h) (fun _ h _ => h))
         have HX3 := Asd.mk (blk_below hb3 (drewb HX2.out))
         have HB3 : Asd (Below w.heap.size w w3) := Asd.mk (HB2.out.drew.trans (hb3.mono HB2.out.drew.size))
         obtain ⟨⟨x0, x1, x2⟩, y0, y1, y2⟩ := zero_cells HX3.out
         unfold vC)
      | fail)
  go_wp2
  refine val_ret rfl w.heap.size _ _ _ rfl (put3_blk HX3.out _ _ _) rfl ?_
  exact ⟨below_put3 HB3.out (Nat.le_refl _) _ _ _, rfl⟩
/-- calc.called. -/
theorem called_calls (f : Int) (vs : List Vl) (h1 : 1 ≤ f) (h5 : f ≤ 5) (hl : vs.length = opn f.toNat) (hr : ∀ v ∈ vs, RV v) (A : Option Addr) (c : Nat) (w : World) (hv : ValSl w A vs) :
    Calls Tryz.prog 51 #[.int .i64 f, .slice A vs.length c] w (EvR (calledV f vs) w) := by
  rcases (show f = 1 ∨ f = 2 ∨ f = 3 ∨ f = 4 ∨ f = 5 by omega) with rfl | rfl | rfl | rfl | rfl
  · obtain ⟨v, rfl⟩ := List.length_eq_one_iff.mp hl
    obtain ⟨g, o, rfl, h⟩ := hv (by simp)
    obtain ⟨k, i, s⟩ := v
    exact called_1 k i s g o c w h
  · obtain ⟨v, rfl⟩ := List.length_eq_one_iff.mp hl
    obtain ⟨g, o, rfl, h⟩ := hv (by simp)
    have hi := rv_int (hr v (by simp))
    obtain ⟨k, i, s⟩ := v
    have hi : inI i := hi
    by_cases hle : i = -9223372036854775808
    · rw [show calledV 2 [⟨k, i, s⟩] = .error 40 by simp [calledV, hle]]
      exact called_2l k i s (by rw [hle]; rfl) g o c w h
    · rw [show calledV 2 [⟨k, i, s⟩] = .ok (vNum (max i (-i))) by
        simp only [calledV, if_neg hle]
        by_cases hn : i < 0
        · rw [if_pos hn, Int.max_eq_right (by omega)]
        · rw [if_neg hn, Int.max_eq_left (by omega)]]
      exact called_2 k i s (by simpa using hle) (by have := hi.1; omega) hi.2 g o c w h
  · obtain ⟨v, rfl⟩ := List.length_eq_one_iff.mp hl
    obtain ⟨g, o, rfl, h⟩ := hv (by simp)
    have hs := rv_len (hr v (by simp))
    obtain ⟨k, i, s⟩ := v
    exact called_3 k i s hs g o c w h
  · obtain ⟨v, rfl⟩ := List.length_eq_one_iff.mp hl
    obtain ⟨g, o, rfl, h⟩ := hv (by simp)
    have hs := rv_len (hr v (by simp))
    obtain ⟨k, i, s⟩ := v
    exact called_4 k i s hs g o c w h
  · obtain ⟨v, v', v'', rfl⟩ : ∃ a b c, vs = [a, b, c] := by
      match vs, hl with
      | [a, b, c], _ => exact ⟨a, b, c, rfl⟩
    obtain ⟨g, o, rfl, h⟩ := hv (by simp)
    have hs := rv_len (hr v (by simp))
    have hi' := rv_int (hr v' (by simp))
    have hi'' := rv_int (hr v'' (by simp))
    obtain ⟨k, i, s⟩ := v
    obtain ⟨k', i', s'⟩ := v'
    obtain ⟨k'', i'', s''⟩ := v''
    exact called_5 k i k' i' k'' i'' s s' s'' hs hi' hi'' g o c w h
theorem fj_of {f : Int} {n j : Nat} (h1 : 1 ≤ f) (h5 : f ≤ 5) (hn : n = opn f.toNat) (hj : j < n) : FJ f j := by
  unfold FJ
  rcases (show f = 1 ∨ f = 2 ∨ f = 3 ∨ f = 4 ∨ f = 5 by omega) with rfl | rfl | rfl | rfl | rfl
  all_goals
    simp [opn] at hn
    subst hn
    omega
/-- The blocks of Call's operands. -/
structure CallW (W : World) (po pl : Nat) (f : Int) (A : Option Addr) (n c : Nat) (vs : List Vl) : Prop where
  o : W.heap[po]? = some (.cells #[.int .i64 f] 3 (0, 0))
  l : W.heap[pl]? = some (.cells #[.slice A n c] 27 (0, 0))
  v : ValSl W A vs
theorem CallW.below {W W' : World} {po pl : Nat} {f : Int} {A : Option Addr} {n c : Nat} {vs : List Vl} (h : CallW W po pl f A n c vs) (hb : Below W.heap.size W W') : CallW W' po pl f A n c vs := ⟨blk_below hb h.o, blk_below hb h.l, h.v.below hb⟩
set_option maxRecDepth 100000 in
set_option maxHeartbeats 6400000 in
/-- calc.Call's sum. -/
theorem ecall1_calls (f : Int) (vs : List Vl) (h1 : 1 ≤ f) (h5 : f ≤ 5) (hl : vs.length = opn f.toNat) (hr : ∀ v ∈ vs, RV v) (po pl : Nat) (A : Option Addr) (c : Nat) (w : World) (h : CallW w po pl f A vs.length c vs) :
    Calls Tryz.prog 48 #[.pointer (some ⟨po, 0, none⟩), .pointer (some ⟨pl, 0, none⟩)] w (EvR (callV f vs) w) := by
  have hf6 : (f == 6) = false := by rw [beq_eq_false_iff_ne]; omega
  have HT : Asd (∀ j (hj : j < vs.length), ∀ W, Calls Tryz.prog 50 #[.int .i64 f, .int .i64 (j : Int), .int .i64 vs[j].kind] W fun e w' => e = .returned (.bool (takesP f j vs[j].kind)) ∧ w' = W) := Asd.mk fun j hj W => takes_calls f j _ (fj_of h1 h5 hl hj) (rv_kind (hr _ (List.getElem_mem hj))) W
  have HC := Asd.mk (called_calls f vs h1 h5 hl hr A c)
  have HA := Asd.mk (args_calls f h1 h5)
  have hn0 : 0 < vs.length := by
    rw [hl]
    unfold opn
    split
    · omega
    · split <;> omega
  have hn3 : vs.length ≤ 3 := by
    rw [hl]
    unfold opn
    split
    · omega
    · split <;> omega
  rw [← hl] at HA
  have HW := Asd.mk h
  have HX := Asd.mk (blk_new w zeroV)
  have HB : Asd (Below w.heap.size w (w.alloc zeroV)) := Asd.mk (below_alloc (Below.refl _ _) _)
  clear h hl hr
  generalize hn : vs.length = n at HC HA hn0 hn3 HW ⊢
  have HN := Asd.mk hn
  clear hn
  go_enter Tryz.func48, Tryz.ntmps48
  go_upto_region 1 with fail
  generalize w.alloc _ = w1 at HX HB ⊢
  have HW1 := Asd.mk (HW.out.below HB.out)
  have o0 := (blk_cell HW1.out.o 0).trans rfl
  have l0 := (blk_cell HW1.out.l 0).trans rfl
  go_wp2_with fail
  refine (HA.out _).mono ?_
  rintro e w' ⟨rfl, hw⟩
  rw [hw]
  clear hw
  go_wp2_with fail
  refine (check_ok 5 _).mono ?_
  rintro e w' ⟨rfl, hw⟩
  rw [hw]
  clear hw
  go_upto_region 2 with fail
  have HS : Asd (∀ w', Below w1.heap.size w1 w' → w'.cell? ⟨po, 0, none⟩ = some (.int .i64 f) ∧ w'.cell? ⟨pl, 0, none⟩ = some (.slice A n c) ∧ Below w1.heap.size w1 w') := Asd.mk fun w' hb =>
    ⟨(blk_cell (HW1.out.below hb).o 0).trans rfl, (blk_cell (HW1.out.below hb).l 0).trans rfl, hb⟩
  clear o0 l0
  go_region_held3 (fun w' => w'.cell? ⟨po, 0, none⟩ = some (.int .i64 f) ∧ w'.cell? ⟨pl, 0, none⟩ = some (.slice A n c) ∧ Below w1.heap.size w1 w')
    (first
      | exact HS.out _ (Below.refl _ _)
      | exact HS.out _ (Below.refl _ _).drew
      | (go_split_ands; exact HS.out _ (by assumption))
      | fail)
    (first
      | (go_at_call 49
         refine (HA.out _).mono ?_
         rintro e w' ⟨rfl, hw⟩
         rw [hw]
         clear hw)
      | (go_at_call 38
         refine (check_ok 37 _).mono ?_
         rintro e w' ⟨rfl, hw⟩
         rw [hw]
         clear hw)
      | fail)
  have HB2 : Asd (Below w1.heap.size w1 w1.drew) := Asd.mk (Below.refl _ _).drew
  generalize w1.drew = w2 at HB2 ⊢
  have o0 := (HS.out _ HB2.out).1
  have l0 := (HS.out _ HB2.out).2.1
  clear HS
  have HB1 := HB2
  go_wp2
  go_loopw [49, 5] (fun i nl wr => ∃ (k : Nat) (b : Bool), k ≤ n ∧ i = .int .i64 (k : Int) ∧ nl = .bool b ∧ Asd (takesL f 0 vs = takesL f k (vs.drop k)) ∧ Asd (vs.any (fun v => v.kind == 0) = (b || (vs.drop k).any (fun v => v.kind == 0))) ∧ Asd (Below w1.heap.size w1 wr)) (fun i _ _ => n - (intOf i).toNat)
  case atStart => exact ⟨0, false, by omega, rfl, rfl, ⟨rfl⟩, ⟨by rw [List.drop_zero, Bool.false_or]⟩, ⟨HB1.out⟩⟩
  case round =>
    obtain ⟨k, b, hk, rfl, rfl, HTL, HNL, HBR⟩ := hrel
    clear o0 l0
    have HWR := Asd.mk (HW1.out.below HBR.out)
    have HXR := Asd.mk (blk_below HBR.out HX.out)
    have o0 := (blk_cell HWR.out.o 0).trans rfl
    have l0 := (blk_cell HWR.out.l 0).trans rfl
    by_cases hlt : k < n
    · have hkv : k < vs.length := by rw [HN.out]; exact hlt
      obtain ⟨g, o, rfl, hv⟩ := HWR.out.v (by omega)
      obtain ⟨x0, x1, x2⟩ := hv k hkv
      have HTK := Asd.mk (HT.out k hkv)
      have HD : Asd (vs.drop k = vs[k] :: vs.drop (k + 1)) := Asd.mk (List.drop_eq_getElem_cons hkv)
      rw [HD.out] at HTL HNL
      generalize vs[k] = v at x0 x1 x2 HTK HTL HNL
      clear hv hkv HD
      have HV3 := Asd.mk (blk_new wr (vK v))
      have HB3 : Asd (Below wr.heap.size wr (wr.alloc (vK v))) := Asd.mk (below_alloc (Below.refl _ _) _)
      go_upto_region 13 with fail
      generalize wr.alloc _ = w3 at HV3 HB3 ⊢
      clear o0 l0 x0 x1 x2
      have HBW3 : Asd (Below w1.heap.size w1 w3) := Asd.mk (HBR.out.trans (HB3.out.mono HBR.out.size))
      have o0 := (blk_cell (HWR.out.below HB3.out).o 0).trans rfl
      obtain ⟨v0, v1, v2⟩ := val_cells HV3.out
      go_wp2_with fail
      refine (HTK.out _).mono ?_
      rintro e w' ⟨rfl, hw⟩
      rw [hw]
      clear hw
      cases ht : takesP f k v.kind with
      | false =>
        have HF : Asd (callV f vs = .error 35) := Asd.mk (by unfold callV; rw [HTL.out, takesL, ht]; rfl)
        clear ht
        go_wp2_with fail
        refine (check_no 35 _).mono ?_
        rintro e w' ⟨rfl, hw⟩
        rw [hw]
        clear hw
        go_wp2
        rw [HF.out]
        exact ⟨rfl, HB.out.trans (HBW3.out.mono HB.out.size), rfl⟩
      | true =>
        have HTL2 : Asd (takesL f 0 vs = takesL f (k + 1) (vs.drop (k + 1))) := Asd.mk (by rw [HTL.out, takesL, ht, Bool.true_and])
        clear ht
        go_wp2_with fail
        refine (check_ok 35 _).mono ?_
        rintro e w' ⟨rfl, hw⟩
        rw [hw]
        clear hw
        cases b with
        | true =>
          have HNL2 : Asd (vs.any (fun v => v.kind == 0) = (true || (vs.drop (k + 1)).any (fun v => v.kind == 0))) := Asd.mk (by rw [HNL.out]; rfl)
          go_wp2
          go_roundw
          case rel => exact ⟨k + 1, true, by omega, by go_num, rfl, HTL2, HNL2, HBW3⟩
          case measure => simp [intOf]; omega
        | false =>
          have HNL2 : Asd (vs.any (fun v => v.kind == 0) = ((v.kind == 0) || (vs.drop (k + 1)).any (fun v => v.kind == 0))) := Asd.mk (by rw [HNL.out, List.any_cons, Bool.false_or])
          go_wp2
          go_roundw
          case rel => exact ⟨k + 1, (v.kind == 0), by omega, by go_num, rfl, HTL2, HNL2, HBW3⟩
          case measure => simp [intOf]; omega
    · obtain rfl : k = n := by omega
      have HDN : Asd (vs.drop k = []) := Asd.mk (List.drop_of_length_le (Nat.le_of_eq HN.out))
      rw [HDN.out] at HTL HNL
      obtain ⟨⟨x0, x1, x2⟩, y0, y1, y2⟩ := zero_cells HXR.out
      have HBX : Asd (Below w.heap.size w wr) := Asd.mk (HB.out.trans (HBR.out.mono HB.out.size))
      have HVS := Asd.mk HWR.out.v
      cases b with
      | true =>
        have HF : Asd (callV f vs = .ok vNull) := Asd.mk (by unfold callV; rw [HTL.out, HNL.out]; rfl)
        go_wp2
        refine val_ret rfl w.heap.size _ _ _ rfl (put3_blk HXR.out _ _ _) rfl ?_
        rw [HF.out]
        exact ⟨below_put3 HBX.out (Nat.le_refl _) _ _ _, rfl⟩
      | false =>
        have HF : Asd (callV f vs = calledV f vs) := Asd.mk (by unfold callV; rw [HTL.out, HNL.out]; rfl)
        go_wp2_with fail
        refine (HC.out _ HVS.out).mono ?_
        rintro e w4 ⟨hb4, hm⟩
        have HB4 : Asd (Below w.heap.size w w4) := Asd.mk (HBX.out.trans (hb4.mono HBX.out.size))
        have HX4 := Asd.mk (blk_below hb4 HXR.out)
        clear o0 l0 x0 x1 x2 y0 y1 y2 hb4
        obtain ⟨⟨x0, x1, x2⟩, y0, y1, y2⟩ := zero_cells HX4.out
        cases hr : calledV f vs with
        | ok u =>
          rw [hr] at hm
          simp only at hm
          obtain rfl := hm
          have HRR : Asd (callV f vs = .ok u) := Asd.mk (HF.out.trans hr)
          clear hr
          unfold vC
          go_wp2
          refine val_ret rfl w.heap.size _ _ _ rfl (put3_blk HX4.out _ _ _) rfl ?_
          rw [HRR.out]
          exact ⟨below_put3 HB4.out (Nat.le_refl _) _ _ _, rfl⟩
        | error m =>
          rw [hr] at hm
          simp only at hm
          obtain rfl := hm
          have HRR : Asd (callV f vs = .error m) := Asd.mk (HF.out.trans hr)
          clear hr
          go_wp2
          rw [HRR.out]
          exact ⟨rfl, HB4.out, rfl⟩
set_option maxRecDepth 100000 in
set_option maxHeartbeats 6400000 in
/-- calc.Call. -/
theorem ecall_calls (f : Int) (vs : List Vl) (h1 : 1 ≤ f) (h5 : f ≤ 5) (hl : vs.length = opn f.toNat) (hr : ∀ v ∈ vs, RV v) (A : Option Addr) (c : Nat) (w : World) (hv : ValSl w A vs) : Calls Tryz.prog 24 #[.int .i64 f, .slice A vs.length c] w (Ev2 (callV f vs) w) := by
  have hmf := mk_func
  have HC := Asd.mk (ecall1_calls f vs h1 h5 hl hr)
  generalize callV f vs = r at HC ⊢
  have HW : Asd (CallW (((w.alloc (.cells #[.int .i64 f] 3 (0, 0))).alloc (.cells #[.slice A vs.length c] 27 (0, 0))).alloc zeroV) w.heap.size (w.heap.size + 1) f A vs.length c vs) := Asd.mk ⟨blk_alloc (blk_alloc (blk_new w _) _) _, blk_alloc (nb1 w _ _) _, hv.below (below_alloc (below_alloc (below_alloc (Below.refl _ _) _) _) _)⟩
  have HX := Asd.mk (nb2 w (.cells #[.int .i64 f] 3 (0, 0)) (.cells #[.slice A vs.length c] 27 (0, 0)) zeroV)
  have HB : Asd (Below w.heap.size w (((w.alloc (.cells #[.int .i64 f] 3 (0, 0))).alloc (.cells #[.slice A vs.length c] 27 (0, 0))).alloc zeroV)) := Asd.mk (below_alloc (below_alloc (below_alloc (Below.refl _ _) _) _) _)
  clear h1 h5 hl hr hv
  go_enter Tryz.func24, Tryz.ntmps24
  go_upto_region 1 with fail
  generalize (((w.alloc (.cells #[.int .i64 f] 3 (0, 0))).alloc (.cells #[.slice A vs.length c] 27 (0, 0))).alloc zeroV) = w1 at HW HX HB ⊢
  go_wp2_with fail
  refine (caught_calls 48 _ r _ (isGo_of Tryz.func48 (by decide) rfl) fun W hW => HC.out _ _ _ _ W (HW.out.below hW)).mono ?_
  rintro e w2 ⟨hb2, rfl⟩
  have HX2 := Asd.mk (blk_below hb2 HX.out)
  have HB2 : Asd (Below w.heap.size w w2) := Asd.mk (HB.out.trans (hb2.mono HB.out.size))
  clear hb2
  obtain ⟨⟨x0, x1, x2⟩, y0, y1, y2⟩ := zero_cells HX2.out
  cases r with
  | ok u =>
    unfold vC
    go_wp2
    refine val_ret2 rfl (w.heap.size + 1 + 1) _ _ _ rfl (put3_blk HX2.out _ _ _) rfl ?_
    exact ⟨below_put3 HB2.out (by omega) _ _ _, rfl⟩
  | error n =>
    unfold vC
    simp only [vNull]
    go_wp2
    refine val_ret2 rfl (w.heap.size + 1 + 1) _ _ _ rfl (put3_blk HX2.out _ _ _) rfl ?_
    exact ⟨below_put3 HB2.out (by omega) _ _ _, rfl⟩
end Go.Proofs.YtbeeaikilcnpgaaGreatDoor.Exp

/- eval.Eval: what is known of an expression. -/
set_option linter.unusedVariables false
set_option linter.unusedSimpArgs false
namespace Go.Proofs.YtbeeaikilcnpgaaGreatDoor.Exp
open Go.RowKit Go.Proofs.YtbeeaikilcnpgaaGreatDoor.Base Go.Proofs.YtbeeaikilcnpgaaGreatDoor.App Go.Proofs.YtbeeaikilcnpgaaGreatDoor.Byt

/-- An expression and what it is known as lie at a place of a block. -/
def KnAt (P : Nat → Prop) (W : World) (g o : Nat) (q : Ex × Vl) : Prop := ∃ A n c, RowC W g o q.1 (.slice A n c) ∧ Held P W q.1.args (.slice A n c) ∧ ValAt W g (o + 10) q.2
theorem KnAt.below {P : Nat → Prop} {W W' : World} {g o : Nat} {q : Ex × Vl} (h : KnAt P W g o q) (hb : Below W.heap.size W W') : KnAt P W' g o q := by
  obtain ⟨A, n, c, h1, h2, h3⟩ := h
  exact ⟨A, n, c, h1.below hb, held_below h2 hb, h3.below hb⟩
/-- The slice at A holds these. -/
def KnSl (P : Nat → Prop) (W : World) (A : Option Addr) (ks : List (Ex × Vl)) : Prop := 0 < ks.length → ∃ g o, A = some ⟨g, o, none⟩ ∧ ∀ i (h : i < ks.length), KnAt P W g (o + i * 13) ks[i]
theorem KnSl.below {P : Nat → Prop} {W W' : World} {A : Option Addr} {ks : List (Ex × Vl)} (h : KnSl P W A ks) (hb : Below W.heap.size W W') : KnSl P W' A ks := fun h0 => by
  obtain ⟨g, o, rfl, h1⟩ := h h0
  exact ⟨g, o, rfl, fun i hi => (h1 i hi).below hb⟩
theorem knownV_cons (q : Ex × Vl) (ks : List (Ex × Vl)) (x : Ex) : knownV (q :: ks) x = if sameE q.1 x then some q.2 else knownV ks x := by
  unfold knownV
  rw [List.find?_cons]
  cases sameE q.1 x <;> rfl
/-- The value of what is known. -/
def kV (q : Ex × Vl) (s : Value) : Value := .agg #[.int .i64 q.1.kind, .int .i64 q.1.op, .int .i64 q.1.v.kind, .int .i64 q.1.v.int, .string ⟨q.1.v.text.toArray⟩, .string ⟨q.1.table.toArray⟩, .string ⟨q.1.name.toArray⟩, .int .i64 q.1.col, .int .i64 q.1.ty, s, .int .i64 q.2.kind, .int .i64 q.2.int, .string ⟨q.2.text.toArray⟩]
abbrev kK (q : Ex × Vl) (s : Value) : Obj := .cells #[.int .i64 q.1.kind, .int .i64 q.1.op, .int .i64 q.1.v.kind, .int .i64 q.1.v.int, .string ⟨q.1.v.text.toArray⟩, .string ⟨q.1.table.toArray⟩, .string ⟨q.1.name.toArray⟩, .int .i64 q.1.col, .int .i64 q.1.ty, s, .int .i64 q.2.kind, .int .i64 q.2.int, .string ⟨q.2.text.toArray⟩] 39 (0, 0)
set_option maxRecDepth 100000 in
set_option maxHeartbeats 6400000 in
theorem clos_calls (q : Ex × Vl) (A1 : Option Addr) (n1 c1 : Nat) (x : Ex) (A2 : Option Addr) (n2 c2 : Nat) (pe : Nat) (P Q : Nat → Prop) (w : World) (hf : fewE q.1) (hq : Held P w q.1.args (.slice A1 n1 c1)) (hx : w.heap[pe]? = some (xK x (.slice A2 n2 c2))) (hhx : Held Q w x.args (.slice A2 n2 c2)) :
    Calls Tryz.prog 17 #[kV q (.slice A1 n1 c1), .pointer (some ⟨pe, 0, none⟩)] w fun e w' => e = .returned (.bool (sameE q.1 x)) ∧ Below w.heap.size w w' := by
  have HS := Asd.mk (fun W (hb : Below w.heap.size w W) => same_calls P Q q.1 x (.slice A1 n1 c1) (.slice A2 n2 c2) W hf (held_below hq hb) (held_below hhx hb))
  have HK := Asd.mk (blk_new w (kK q (.slice A1 n1 c1)))
  have HB : Asd (Below w.heap.size w (w.alloc (kK q (.slice A1 n1 c1)))) := Asd.mk (below_alloc (Below.refl _ _) _)
  have HX := Asd.mk (blk_below HB.out hx)
  clear hf hq hx hhx
  unfold kV
  go_enter Tryz.func17, Tryz.ntmps17
  go_upto_region 1 with fail
  generalize w.alloc _ = w1 at HK HB HX ⊢
  obtain ⟨e0, e1, e2, e3, e4, e5, e6, e7, e8, e9⟩ := ex_cells (x := x) HX.out
  have k0 := (blk_cell HK.out 0).trans rfl
  have k1 := (blk_cell HK.out 1).trans rfl
  have k2 := (blk_cell HK.out 2).trans rfl
  have k3 := (blk_cell HK.out 3).trans rfl
  have k4 := (blk_cell HK.out 4).trans rfl
  have k5 := (blk_cell HK.out 5).trans rfl
  have k6 := (blk_cell HK.out 6).trans rfl
  have k7 := (blk_cell HK.out 7).trans rfl
  have k8 := (blk_cell HK.out 8).trans rfl
  have k9 := (blk_cell HK.out 9).trans rfl
  go_wp2_with fail
  refine (HS.out _ HB.out).mono ?_
  rintro e w2 ⟨rfl, hb2⟩
  have HB2 : Asd (Below w.heap.size w w2) := Asd.mk (HB.out.trans (hb2.mono HB.out.size))
  clear e0 e1 e2 e3 e4 e5 e6 e7 e8 e9 k0 k1 k2 k3 k4 k5 k6 k7 k8 k9 hb2
  go_wp2
  go_ret
  exact ⟨rfl, HB2.out⟩
/-- What is found of what is known. -/
def FoundR (ks : List (Ex × Vl)) (x : Ex) (w : World) (e : Ending) (w' : World) : Prop := Below w.heap.size w w' ∧
  ((∃ i, ∃ h : i < ks.length, e = .returned (.int .i64 (i : Int)) ∧ knownV ks x = some ks[i].2) ∨ (e = .returned (.int .i64 (-1)) ∧ knownV ks x = none))
set_option maxRecDepth 100000 in
set_option maxHeartbeats 6400000 in
theorem index_calls (ks : List (Ex × Vl)) (hn : ks.length ≤ 1048576) (A : Option Addr) (c : Nat) (x : Ex) (A2 : Option Addr) (n2 c2 : Nat) (pe : Nat) (P Q : Nat → Prop) (w : World) (hf : ∀ q ∈ ks, fewE q.1) (hk : KnSl P w A ks) (hx : w.heap[pe]? = some (xK x (.slice A2 n2 c2))) (hhx : Held Q w x.args (.slice A2 n2 c2)) :
    Calls Tryz.prog 16 #[.slice A ks.length c, .func (.func 17) #[] #[.pointer (some ⟨pe, 0, none⟩)]] w (FoundR ks x w) := by
  have hcf : ∀ (args : Array Value) (w : World), (callFunc 17 args).run Tryz.prog w = .ok (.enter 17 args) w := isGo_of Tryz.func17 (by decide) rfl
  have HF := Asd.mk hf
  have HK := Asd.mk hk
  have HX := Asd.mk hx
  have HH := Asd.mk hhx
  generalize hm : ks.length = m at hn ⊢
  have HM := Asd.mk hm
  clear hf hk hx hhx hm
  go_enter Tryz.func16, Tryz.ntmps16
  go_wp2
  go_loopw [8] (fun i wr => ∃ k : Nat, k ≤ m ∧ i = .int .i64 (k : Int) ∧ Asd (Below w.heap.size w wr) ∧ Asd (knownV ks x = knownV (ks.drop k) x)) (fun i _ => m - (intOf i).toNat)
  case atStart => exact ⟨0, by omega, rfl, ⟨Below.refl _ _⟩, ⟨rfl⟩⟩
  case round =>
    obtain ⟨k, hk, rfl, HB, HQ⟩ := hrel
    by_cases hlt : k < m
    · have hkv : k < ks.length := by rw [HM.out]; exact hlt
      obtain ⟨g, o, rfl, hv⟩ := (HK.out.below HB.out) (by omega)
      obtain ⟨A1, n1, c1, hr, hh, x10, x11, x12⟩ := hv k hkv
      have HD : Asd (ks.drop k = ks[k] :: ks.drop (k + 1)) := Asd.mk (List.drop_eq_getElem_cons hkv)
      have HFK := Asd.mk (HF.out _ (List.getElem_mem hkv))
      have HYES : Asd (sameE ks[k].1 x = true → knownV ks x = some ks[k].2) := Asd.mk fun h => by rw [HQ.out, HD.out, knownV_cons, if_pos h]
      have HNO : Asd (sameE ks[k].1 x = false → knownV ks x = knownV (ks.drop (k + 1)) x) := Asd.mk fun h => by rw [HQ.out, HD.out, knownV_cons, h]; rfl
      have HFIN : Asd (∀ w', Below w.heap.size w w' → knownV ks x = some ks[k].2 → FoundR ks x w (.returned (.int .i64 (k : Int))) w') := Asd.mk fun w' hb h => ⟨hb, .inl ⟨k, hkv, rfl, h⟩⟩
      generalize ks[k] = q at hr hh x10 x11 x12 HFK HYES HNO HFIN
      have HHK := Asd.mk hh
      have x0 : wr.cell? ⟨g, o + k * 13, none⟩ = some (.int .i64 q.1.kind) := hr 0 (by omega)
      have x1 : wr.cell? ⟨g, o + k * 13 + 1, none⟩ = some (.int .i64 q.1.op) := hr 1 (by omega)
      have x2 : wr.cell? ⟨g, o + k * 13 + 2, none⟩ = some (.int .i64 q.1.v.kind) := hr 2 (by omega)
      have x3 : wr.cell? ⟨g, o + k * 13 + 3, none⟩ = some (.int .i64 q.1.v.int) := hr 3 (by omega)
      have x4 : wr.cell? ⟨g, o + k * 13 + 4, none⟩ = some (.string ⟨q.1.v.text.toArray⟩) := hr 4 (by omega)
      have x5 : wr.cell? ⟨g, o + k * 13 + 5, none⟩ = some (.string ⟨q.1.table.toArray⟩) := hr 5 (by omega)
      have x6 : wr.cell? ⟨g, o + k * 13 + 6, none⟩ = some (.string ⟨q.1.name.toArray⟩) := hr 6 (by omega)
      have x7 : wr.cell? ⟨g, o + k * 13 + 7, none⟩ = some (.int .i64 q.1.col) := hr 7 (by omega)
      have x8 : wr.cell? ⟨g, o + k * 13 + 8, none⟩ = some (.int .i64 q.1.ty) := hr 8 (by omega)
      have x9 : wr.cell? ⟨g, o + k * 13 + 9, none⟩ = some (.slice A1 n1 c1) := hr 9 (by omega)
      have x11 : wr.cell? ⟨g, o + k * 13 + 11, none⟩ = some (.int .i64 q.2.int) := x11
      have x12 : wr.cell? ⟨g, o + k * 13 + 12, none⟩ = some (.string ⟨q.2.text.toArray⟩) := x12
      clear HD hv hr hh hkv
      have HXR := Asd.mk (blk_below HB.out HX.out)
      have HHR := Asd.mk (held_below HH.out HB.out)
      go_wp2_with fail
      refine (clos_calls q A1 n1 c1 x A2 n2 c2 pe P Q _ HFK.out HHK.out HXR.out HHR.out).mono ?_
      rintro e w2 ⟨rfl, hb2⟩
      have HB2 : Asd (Below w.heap.size w w2) := Asd.mk (HB.out.trans (hb2.mono HB.out.size))
      clear x0 x1 x2 x3 x4 x5 x6 x7 x8 x9 x10 x11 x12 hb2
      cases hs : sameE q.1 x with
      | true =>
        have HS := Asd.mk (HYES.out hs)
        clear hs
        go_wp2
        go_ret
        exact HFIN.out _ HB2.out HS.out
      | false =>
        have HS := Asd.mk (HNO.out hs)
        clear hs
        go_wp2
        go_roundw
        case rel => exact ⟨k + 1, by omega, by go_num, HB2, HS⟩
        case measure => simp [intOf]; omega
    · have HS : Asd (knownV ks x = none) := Asd.mk (by rw [HQ.out, List.drop_of_length_le (by rw [HM.out]; omega)]; rfl)
      clear HQ
      go_wp2
      go_ret
      exact ⟨HB.out, .inr ⟨rfl, HS.out⟩⟩
end Go.Proofs.YtbeeaikilcnpgaaGreatDoor.Exp
