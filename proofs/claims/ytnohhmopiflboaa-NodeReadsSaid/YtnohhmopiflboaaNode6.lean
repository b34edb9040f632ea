/- slices.ContainsFunc with a test that changes nothing. -/
import Derived.Test.YtnohhmopiflboaaNode5
set_option linter.unusedVariables false
set_option linter.unusedSimpArgs false
namespace Go.Proofs.Ytnohhmopiflboaa.Nod
open Go.RowKit Go.Proofs.Ytnohhmopiflboaa.Base

/-- The slice's elements are the values vs, one cell each. -/
def IsVals (w : World) (A : Option Addr) (n : Nat) (vs : Nat → Value) : Prop := n ≤ 140737488351232 ∧ (0 < n → ∃ b o, A = some ⟨b, o, none⟩ ∧ ∀ j, j < n → w.cell? ⟨b, o + j, none⟩ = some (vs j))
def anyN (n : Nat) (p : Nat → Bool) : Bool := (List.range n).any p
theorem anyN_first (n : Nat) (p : Nat → Bool) : (anyN n p = false ∧ ∀ j, j < n → p j = false) ∨ ∃ q, anyN n p = true ∧ q < n ∧ (∀ j, j < q → p j = false) ∧ p q = true := by
  induction n with
  | zero => exact .inl ⟨rfl, fun j hj => absurd hj (by omega)⟩
  | succ n ih =>
    have e : anyN (n + 1) p = (anyN n p || p n) := by simp [anyN, List.range_succ]
    rcases ih with ⟨h1, h2⟩ | ⟨q, h1, h2, h3, h4⟩
    · cases hv : p n with
      | false => exact .inl ⟨by rw [e, h1, hv]; rfl, fun j hj => by rcases Nat.lt_succ_iff_lt_or_eq.1 hj with h | rfl; exact h2 j h; exact hv⟩
      | true => exact .inr ⟨n, by rw [e, hv]; simp, by omega, h2, hv⟩
    · exact .inr ⟨q, by rw [e, h1]; rfl, by omega, h3, h4⟩
theorem enter_of {P : Program} {f : FuncId} {fn : Func} (hf : P.funcs[f]? = some fn) (hn : (fn.name == "runtime.NumGoroutine") = false) (hb : fn.body.isNone = false) (av : Array Value) (w : World) : (callFunc f av).run P w = .ok (.enter f av) w := by
  have h1 : fn.name ≠ "runtime.NumGoroutine" := by simpa using hn
  have h2 : fn.body ≠ none := by intro h; simp [h] at hb
  simp [callFunc, hf, h1, h2]


set_option maxHeartbeats 800000 in
theorem index_no_bb (f : FuncId) (cap : Array Value) (A : Option Addr) (n c : Nat) (vs : Nat → Value) (p : Nat → Bool) (w : World) (hx : IsVals w A n vs)
    (hcf : ∀ (av : Array Value) (w : World), (callFunc f av).run Try.prog w = .ok (.enter f av) w)
    (hf : ∀ j, j < n → Calls Try.prog f (#[vs j] ++ cap) w fun e w' => e = .returned (.bool (p j)) ∧ w = w') (hno : ∀ j, j < n → p j = false) :
    Calls Try.prog 106 #[.slice A n c, .func (.func f) #[] cap] w fun e w' => e = .returned (.int .i64 (-1)) ∧ w = w' := by
  have HF := Asd.mk hf
  have HX := Asd.mk hx
  have HN := Asd.mk hno
  have hm := hx.1
  clear hf hx hno
  go_enter Try.func106, Try.ntmps106
  go_wp2
  go_loop [8] (fun i => ∃ k : Nat, k ≤ n ∧ i = .int .i64 (k : Int)) (fun i => n - (intOf i).toNat)
  case atStart => exact ⟨0, by omega, rfl⟩
  case round =>
    obtain ⟨k, hk, rfl⟩ := hrel
    by_cases hlt : k < n
    · obtain ⟨b, o, rfl, hc⟩ := HX.out.2 (by omega)
      have ck := hc k hlt
      have HC := Asd.mk (HF.out k hlt)
      have HP := Asd.mk (HN.out k hlt)
      generalize vs k = v at ck HC
      clear hc
      go_wp2_with fail
      refine HC.out.mono ?_
      rintro e w' ⟨rfl, rfl⟩
      rw [HP.out]
      go_wp2
      go_round
      case rel => exact ⟨k + 1, by omega, by go_num⟩
      case measure => simp [intOf]; omega
    · go_wp2
      go_ret
      exact ⟨rfl, rfl⟩

set_option maxHeartbeats 800000 in
theorem index_yes_bb (f : FuncId) (cap : Array Value) (A : Option Addr) (n c q : Nat) (vs : Nat → Value) (p : Nat → Bool) (w : World) (hx : IsVals w A n vs)
    (hcf : ∀ (av : Array Value) (w : World), (callFunc f av).run Try.prog w = .ok (.enter f av) w)
    (hf : ∀ j, j < n → Calls Try.prog f (#[vs j] ++ cap) w fun e w' => e = .returned (.bool (p j)) ∧ w = w') (hq : q < n) (hno : ∀ j, j < q → p j = false) (hyes : p q = true) :
    Calls Try.prog 106 #[.slice A n c, .func (.func f) #[] cap] w fun e w' => e = .returned (.int .i64 (q : Int)) ∧ w = w' := by
  have HF := Asd.mk hf
  have HX := Asd.mk hx
  have HN := Asd.mk hno
  have HY := Asd.mk hyes
  have hm := hx.1
  clear hf hx hno hyes
  go_enter Try.func106, Try.ntmps106
  go_wp2
  go_loop [8] (fun i => ∃ k : Nat, k ≤ q ∧ i = .int .i64 (k : Int)) (fun i => n - (intOf i).toNat)
  case atStart => exact ⟨0, by omega, rfl⟩
  case round =>
    obtain ⟨k, hk, rfl⟩ := hrel
    obtain ⟨b, o, rfl, hc⟩ := HX.out.2 (by omega)
    have ck := hc k (by omega)
    have HC := Asd.mk (HF.out k (by omega))
    generalize vs k = v at ck HC
    by_cases hlt : k < q
    · have HP := Asd.mk (HN.out k hlt)
      clear hc
      go_wp2_with fail
      refine HC.out.mono ?_
      rintro e w' ⟨rfl, rfl⟩
      rw [HP.out]
      go_wp2
      go_round
      case rel => exact ⟨k + 1, by omega, by go_num⟩
      case measure => simp [intOf]; omega
    · obtain rfl : q = k := by omega
      clear hc
      go_wp2_with fail
      refine HC.out.mono ?_
      rintro e w' ⟨rfl, rfl⟩
      rw [HY.out]
      go_wp2
      go_ret
      exact ⟨rfl, rfl⟩

theorem contains_bb (f : FuncId) (cap : Array Value) (A : Option Addr) (n c : Nat) (vs : Nat → Value) (p : Nat → Bool) (w : World) (hx : IsVals w A n vs)
    (hcf : ∀ (av : Array Value) (w : World), (callFunc f av).run Try.prog w = .ok (.enter f av) w)
    (hf : ∀ j, j < n → Calls Try.prog f (#[vs j] ++ cap) w fun e w' => e = .returned (.bool (p j)) ∧ w = w') :
    Calls Try.prog 73 #[.slice A n c, .func (.func f) #[] cap] w fun e w' => e = .returned (.bool (anyN n p)) ∧ w = w' := by
  rcases anyN_first n p with ⟨h, h1⟩ | ⟨q, h, hq, h1, h2⟩
  · have HA := Asd.mk h
    have HC := Asd.mk (index_no_bb f cap A n c vs p w hx hcf hf h1)
    clear hx hf h hcf h1
    go_enter Try.func73, Try.ntmps73
    go_wp2_with (go_at_call 106; refine HC.out.mono ?_; rintro e w' ⟨rfl, rfl⟩)
    go_ret
    exact ⟨ret_eq (by rw [HA.out]; rfl), rfl⟩
  · have HA := Asd.mk h
    have HC := Asd.mk (index_yes_bb f cap A n c q vs p w hx hcf hf hq h1 h2)
    clear hx hf h h1 h2 hcf
    go_enter Try.func73, Try.ntmps73
    go_wp2_with (go_at_call 106; refine HC.out.mono ?_; rintro e w' ⟨rfl, rfl⟩)
    go_ret
    exact ⟨ret_eq (by rw [HA.out]; rfl), rfl⟩


set_option maxHeartbeats 800000 in
theorem index_no_int (f : FuncId) (cap : Array Value) (A : Option Addr) (n c : Nat) (vs : Nat → Value) (p : Nat → Bool) (w : World) (hx : IsVals w A n vs)
    (hcf : ∀ (av : Array Value) (w : World), (callFunc f av).run Try.prog w = .ok (.enter f av) w)
    (hf : ∀ j, j < n → Calls Try.prog f (#[vs j] ++ cap) w fun e w' => e = .returned (.bool (p j)) ∧ w = w') (hno : ∀ j, j < n → p j = false) :
    Calls Try.prog 107 #[.slice A n c, .func (.func f) #[] cap] w fun e w' => e = .returned (.int .i64 (-1)) ∧ w = w' := by
  have HF := Asd.mk hf
  have HX := Asd.mk hx
  have HN := Asd.mk hno
  have hm := hx.1
  clear hf hx hno
  go_enter Try.func107, Try.ntmps107
  go_wp2
  go_loop [8] (fun i => ∃ k : Nat, k ≤ n ∧ i = .int .i64 (k : Int)) (fun i => n - (intOf i).toNat)
  case atStart => exact ⟨0, by omega, rfl⟩
  case round =>
    obtain ⟨k, hk, rfl⟩ := hrel
    by_cases hlt : k < n
    · obtain ⟨b, o, rfl, hc⟩ := HX.out.2 (by omega)
      have ck := hc k hlt
      have HC := Asd.mk (HF.out k hlt)
      have HP := Asd.mk (HN.out k hlt)
      generalize vs k = v at ck HC
      clear hc
      go_wp2_with fail
      refine HC.out.mono ?_
      rintro e w' ⟨rfl, rfl⟩
      rw [HP.out]
      go_wp2
      go_round
      case rel => exact ⟨k + 1, by omega, by go_num⟩
      case measure => simp [intOf]; omega
    · go_wp2
      go_ret
      exact ⟨rfl, rfl⟩

set_option maxHeartbeats 800000 in
theorem index_yes_int (f : FuncId) (cap : Array Value) (A : Option Addr) (n c q : Nat) (vs : Nat → Value) (p : Nat → Bool) (w : World) (hx : IsVals w A n vs)
    (hcf : ∀ (av : Array Value) (w : World), (callFunc f av).run Try.prog w = .ok (.enter f av) w)
    (hf : ∀ j, j < n → Calls Try.prog f (#[vs j] ++ cap) w fun e w' => e = .returned (.bool (p j)) ∧ w = w') (hq : q < n) (hno : ∀ j, j < q → p j = false) (hyes : p q = true) :
    Calls Try.prog 107 #[.slice A n c, .func (.func f) #[] cap] w fun e w' => e = .returned (.int .i64 (q : Int)) ∧ w = w' := by
  have HF := Asd.mk hf
  have HX := Asd.mk hx
  have HN := Asd.mk hno
  have HY := Asd.mk hyes
  have hm := hx.1
  clear hf hx hno hyes
  go_enter Try.func107, Try.ntmps107
  go_wp2
  go_loop [8] (fun i => ∃ k : Nat, k ≤ q ∧ i = .int .i64 (k : Int)) (fun i => n - (intOf i).toNat)
  case atStart => exact ⟨0, by omega, rfl⟩
  case round =>
    obtain ⟨k, hk, rfl⟩ := hrel
    obtain ⟨b, o, rfl, hc⟩ := HX.out.2 (by omega)
    have ck := hc k (by omega)
    have HC := Asd.mk (HF.out k (by omega))
    generalize vs k = v at ck HC
    by_cases hlt : k < q
    · have HP := Asd.mk (HN.out k hlt)
      clear hc
      go_wp2_with fail
      refine HC.out.mono ?_
      rintro e w' ⟨rfl, rfl⟩
      rw [HP.out]
      go_wp2
      go_round
      case rel => exact ⟨k + 1, by omega, by go_num⟩
      case measure => simp [intOf]; omega
    · obtain rfl : q = k := by omega
      clear hc
      go_wp2_with fail
      refine HC.out.mono ?_
      rintro e w' ⟨rfl, rfl⟩
      rw [HY.out]
      go_wp2
      go_ret
      exact ⟨rfl, rfl⟩

theorem contains_int (f : FuncId) (cap : Array Value) (A : Option Addr) (n c : Nat) (vs : Nat → Value) (p : Nat → Bool) (w : World) (hx : IsVals w A n vs)
    (hcf : ∀ (av : Array Value) (w : World), (callFunc f av).run Try.prog w = .ok (.enter f av) w)
    (hf : ∀ j, j < n → Calls Try.prog f (#[vs j] ++ cap) w fun e w' => e = .returned (.bool (p j)) ∧ w = w') :
    Calls Try.prog 74 #[.slice A n c, .func (.func f) #[] cap] w fun e w' => e = .returned (.bool (anyN n p)) ∧ w = w' := by
  rcases anyN_first n p with ⟨h, h1⟩ | ⟨q, h, hq, h1, h2⟩
  · have HA := Asd.mk h
    have HC := Asd.mk (index_no_int f cap A n c vs p w hx hcf hf h1)
    clear hx hf h hcf h1
    go_enter Try.func74, Try.ntmps74
    go_wp2_with (go_at_call 107; refine HC.out.mono ?_; rintro e w' ⟨rfl, rfl⟩)
    go_ret
    exact ⟨ret_eq (by rw [HA.out]; rfl), rfl⟩
  · have HA := Asd.mk h
    have HC := Asd.mk (index_yes_int f cap A n c q vs p w hx hcf hf hq h1 h2)
    clear hx hf h h1 h2 hcf
    go_enter Try.func74, Try.ntmps74
    go_wp2_with (go_at_call 107; refine HC.out.mono ?_; rintro e w' ⟨rfl, rfl⟩)
    go_ret
    exact ⟨ret_eq (by rw [HA.out]; rfl), rfl⟩


set_option maxHeartbeats 800000 in
theorem index_no_byte (f : FuncId) (cap : Array Value) (A : Option Addr) (n c : Nat) (vs : Nat → Value) (p : Nat → Bool) (w : World) (hx : IsVals w A n vs)
    (hcf : ∀ (av : Array Value) (w : World), (callFunc f av).run Try.prog w = .ok (.enter f av) w)
    (hf : ∀ j, j < n → Calls Try.prog f (#[vs j] ++ cap) w fun e w' => e = .returned (.bool (p j)) ∧ w = w') (hno : ∀ j, j < n → p j = false) :
    Calls Try.prog 109 #[.slice A n c, .func (.func f) #[] cap] w fun e w' => e = .returned (.int .i64 (-1)) ∧ w = w' := by
  have HF := Asd.mk hf
  have HX := Asd.mk hx
  have HN := Asd.mk hno
  have hm := hx.1
  clear hf hx hno
  go_enter Try.func109, Try.ntmps109
  go_wp2
  go_loop [8] (fun i => ∃ k : Nat, k ≤ n ∧ i = .int .i64 (k : Int)) (fun i => n - (intOf i).toNat)
  case atStart => exact ⟨0, by omega, rfl⟩
  case round =>
    obtain ⟨k, hk, rfl⟩ := hrel
    by_cases hlt : k < n
    · obtain ⟨b, o, rfl, hc⟩ := HX.out.2 (by omega)
      have ck := hc k hlt
      have HC := Asd.mk (HF.out k hlt)
      have HP := Asd.mk (HN.out k hlt)
      generalize vs k = v at ck HC
      clear hc
      go_wp2_with fail
      refine HC.out.mono ?_
      rintro e w' ⟨rfl, rfl⟩
      rw [HP.out]
      go_wp2
      go_round
      case rel => exact ⟨k + 1, by omega, by go_num⟩
      case measure => simp [intOf]; omega
    · go_wp2
      go_ret
      exact ⟨rfl, rfl⟩

set_option maxHeartbeats 800000 in
theorem index_yes_byte (f : FuncId) (cap : Array Value) (A : Option Addr) (n c q : Nat) (vs : Nat → Value) (p : Nat → Bool) (w : World) (hx : IsVals w A n vs)
    (hcf : ∀ (av : Array Value) (w : World), (callFunc f av).run Try.prog w = .ok (.enter f av) w)
    (hf : ∀ j, j < n → Calls Try.prog f (#[vs j] ++ cap) w fun e w' => e = .returned (.bool (p j)) ∧ w = w') (hq : q < n) (hno : ∀ j, j < q → p j = false) (hyes : p q = true) :
    Calls Try.prog 109 #[.slice A n c, .func (.func f) #[] cap] w fun e w' => e = .returned (.int .i64 (q : Int)) ∧ w = w' := by
  have HF := Asd.mk hf
  have HX := Asd.mk hx
  have HN := Asd.mk hno
  have HY := Asd.mk hyes
  have hm := hx.1
  clear hf hx hno hyes
  go_enter Try.func109, Try.ntmps109
  go_wp2
  go_loop [8] (fun i => ∃ k : Nat, k ≤ q ∧ i = .int .i64 (k : Int)) (fun i => n - (intOf i).toNat)
  case atStart => exact ⟨0, by omega, rfl⟩
  case round =>
    obtain ⟨k, hk, rfl⟩ := hrel
    obtain ⟨b, o, rfl, hc⟩ := HX.out.2 (by omega)
    have ck := hc k (by omega)
    have HC := Asd.mk (HF.out k (by omega))
    generalize vs k = v at ck HC
    by_cases hlt : k < q
    · have HP := Asd.mk (HN.out k hlt)
      clear hc
      go_wp2_with fail
      refine HC.out.mono ?_
      rintro e w' ⟨rfl, rfl⟩
      rw [HP.out]
      go_wp2
      go_round
      case rel => exact ⟨k + 1, by omega, by go_num⟩
      case measure => simp [intOf]; omega
    · obtain rfl : q = k := by omega
      clear hc
      go_wp2_with fail
      refine HC.out.mono ?_
      rintro e w' ⟨rfl, rfl⟩
      rw [HY.out]
      go_wp2
      go_ret
      exact ⟨rfl, rfl⟩

theorem contains_byte (f : FuncId) (cap : Array Value) (A : Option Addr) (n c : Nat) (vs : Nat → Value) (p : Nat → Bool) (w : World) (hx : IsVals w A n vs)
    (hcf : ∀ (av : Array Value) (w : World), (callFunc f av).run Try.prog w = .ok (.enter f av) w)
    (hf : ∀ j, j < n → Calls Try.prog f (#[vs j] ++ cap) w fun e w' => e = .returned (.bool (p j)) ∧ w = w') :
    Calls Try.prog 83 #[.slice A n c, .func (.func f) #[] cap] w fun e w' => e = .returned (.bool (anyN n p)) ∧ w = w' := by
  rcases anyN_first n p with ⟨h, h1⟩ | ⟨q, h, hq, h1, h2⟩
  · have HA := Asd.mk h
    have HC := Asd.mk (index_no_byte f cap A n c vs p w hx hcf hf h1)
    clear hx hf h hcf h1
    go_enter Try.func83, Try.ntmps83
    go_wp2_with (go_at_call 109; refine HC.out.mono ?_; rintro e w' ⟨rfl, rfl⟩)
    go_ret
    exact ⟨ret_eq (by rw [HA.out]; rfl), rfl⟩
  · have HA := Asd.mk h
    have HC := Asd.mk (index_yes_byte f cap A n c q vs p w hx hcf hf hq h1 h2)
    clear hx hf h h1 h2 hcf
    go_enter Try.func83, Try.ntmps83
    go_wp2_with (go_at_call 109; refine HC.out.mono ?_; rintro e w' ⟨rfl, rfl⟩)
    go_ret
    exact ⟨ret_eq (by rw [HA.out]; rfl), rfl⟩

end Go.Proofs.Ytnohhmopiflboaa.Nod
