/- bytes.Compare; whether keys rise. -/
import Derived.Test.YtnohhmopiflboaaNode4
import Derived.Lib.Bytealg
import Derived.Laws.Externs
set_option linter.unusedVariables false
set_option linter.unusedSimpArgs false
namespace Go.Proofs.Ytnohhmopiflboaa.Nod
open Go.RowKit Go.Proofs.Ytnohhmopiflboaa.Base Go.Proofs.Ytnohhmopiflboaa.Byt Go.Proofs.Ytnohhmopiflboaa.Rd

theorem run_loadBytes {P : Program} (w : World) (xs : List UInt8) : ∀ (b o : Nat) (acc : ByteArray), (∀ j, j < xs.length → w.cell? ⟨b, o + j, none⟩ = some (bcell (xs.getD j 0))) →
    (Extern.Bytes.loadBytes ⟨b, o, none⟩ xs.length acc).run P w = .ok ⟨acc.data ++ xs.toArray⟩ w := by
  induction xs with
  | nil => intro b o acc _; obtain ⟨d⟩ := acc; simp [Extern.Bytes.loadBytes]
  | cons x xs ih =>
    intro b o acc h
    have h0 := h 0 (by simp)
    simp only [Nat.add_zero, List.getD_cons_zero, bcell] at h0
    have e : ((⟨b, o, none⟩ : Addr).add 1) = ⟨b, o + 1, none⟩ := addr_add b o 1
    simp only [Extern.Bytes.loadBytes, List.length_cons, Sem.run_bind, run_load, h0, Result.andThen, e]
    rw [ih b (o + 1) _ (fun j hj => by
      have := h (j + 1) (by simpa using hj)
      rw [show o + 1 + j = o + (j + 1) by omega, this]
      simp)]
    obtain ⟨d⟩ := acc
    simp [ByteArray.push]
theorem run_bytesOf {P : Program} {w : World} {A : Option Addr} {n : Nat} (c : Nat) {xs : List UInt8} (h : IsBytes w A n xs) :
    (Extern.Bytes.bytesOf (.slice A n c)).run P w = .ok ⟨xs.toArray⟩ w := by
  cases A with
  | none =>
    obtain ⟨rfl, rfl⟩ := none_zero h
    rfl
  | some a =>
    simp only [Extern.Bytes.bytesOf]
    rcases Nat.eq_zero_or_pos n with h0 | h0
    · have hx : xs = [] := List.length_eq_zero_iff.1 (h.1.trans h0)
      subst hx
      subst h0
      rfl
    · obtain ⟨b, o, e, hc⟩ := h.2.2 h0
      cases e
      have := run_loadBytes (P := P) w xs b o ByteArray.empty (fun j hj => hc j (by have := h.1; omega))
      rw [h.1] at this
      rw [this]
      have e : ByteArray.empty.data ++ xs.toArray = xs.toArray := by show (#[] : Array UInt8) ++ xs.toArray = _; simp
      rw [e]
theorem run_compare {P : Program} {w : World} {A B : Option Addr} {n m : Nat} (c d : Nat) {xs ys : List UInt8} (h : IsBytes w A n xs) (k : IsBytes w B m ys) :
    (Extern.BytealgCompare.compare #[.slice A n c, .slice B m d]).run P w = .ok (.int .i64 (Lib.compareBytes xs ys)) w := by
  change Sem.run P (do pure (goInt (Extern.BytealgCompare.cmp (← Extern.Bytes.bytesOf (.slice A n c)) (← Extern.Bytes.bytesOf (.slice B m d))))) w = _
  simp only [Sem.run_bind, run_bytesOf c h, run_bytesOf d k, Sem.run_pure, Result.andThen]
  rw [Lib.cmp_eq]
  rfl

theorem find_cmp : Extern.find Try.f112 = some Extern.BytealgCompare.compare := by rfl
theorem compare_calls (A B : Option Addr) (n m c d : Nat) (xs ys : List UInt8) (w : World) (h : IsBytes w A n xs) (k : IsBytes w B m ys) :
    Calls Try.prog 105 #[.slice A n c, .slice B m d] w fun e w' => e = .returned (.int .i64 (Lib.compareBytes xs ys)) ∧ w = w' := by
  have hcall : ∀ av w, (callFunc 112 av).run Try.prog w = ((Extern.BytealgCompare.compare av).run Try.prog w).andThen fun v w' => .ok (.value v) w' :=
    fun av w => run_callFunc_extern Try.func112 (by kernel_rfl) (by kernel_rfl) (by rfl) find_cmp av w
  have hr := run_compare (P := Try.prog) c d h k
  clear h k
  go_enter Try.func105, Try.ntmps105
  go_wp2
  go_ret
  exact ⟨rfl, rfl⟩

/-- Is a key not below the next one? -/
def badPair (a b : PB) : Bool := decide (0 ≤ Lib.compareBytes a b)
theorem bad_eq (a b : PB) : badPair a b = (Op.bytesLess b a || b == a) := by
  unfold badPair
  induction a generalizing b with
  | nil => cases b <;> simp [Lib.compareBytes, Op.bytesLess]
  | cons x a ih =>
    cases b with
    | nil => simp [Lib.compareBytes, Op.bytesLess]
    | cons y b =>
      have := ih b
      simp only [Lib.compareBytes, Op.bytesLess]
      by_cases h1 : x < y
      · have h2 : ¬ y < x := fun h => UInt8.lt_irrefl x (UInt8.lt_trans h1 h)
        have h3 : ¬ y = x := by rintro rfl; exact UInt8.lt_irrefl _ h1
        simp [h1, h2, h3]
      · by_cases h2 : y < x
        · simp [h1, h2]
        · have h3 : x = y := UInt8.le_antisymm (UInt8.not_lt.1 h2) (UInt8.not_lt.1 h1)
          subst h3
          simp only [h1, if_false]
          rw [this]
          simp [h1]

def risingB (ks : List PB) : Bool := (List.range (ks.length - 1)).all fun i => !badPair (ks.getD i []) (ks.getD (i + 1) [])
theorem rising_true {ks : List PB} : risingB ks = true ↔ ∀ i, i + 1 < ks.length → badPair (ks.getD i []) (ks.getD (i + 1) []) = false := by
  simp only [risingB, List.all_eq_true, List.mem_range, Bool.not_eq_true']
  constructor
  · intro h i hi; exact h i (by omega)
  · intro h i hi; exact h i (by omega)
theorem rising_false {ks : List PB} (h : risingB ks = false) : ∃ q, q + 1 < ks.length ∧ badPair (ks.getD q []) (ks.getD (q + 1) []) = true ∧ ∀ i, i < q → badPair (ks.getD i []) (ks.getD (i + 1) []) = false := by
  have main : ∀ n, (∀ i, i < n → badPair (ks.getD i []) (ks.getD (i + 1) []) = false) ∨ ∃ q, q < n ∧ badPair (ks.getD q []) (ks.getD (q + 1) []) = true ∧ ∀ i, i < q → badPair (ks.getD i []) (ks.getD (i + 1) []) = false := by
    intro n
    induction n with
    | zero => exact .inl fun i hi => absurd hi (by omega)
    | succ n ih =>
      rcases ih with h | ⟨q, h1, h2, h3⟩
      · cases hv : badPair (ks.getD n []) (ks.getD (n + 1) []) with
        | true => exact .inr ⟨n, by omega, hv, h⟩
        | false =>
          refine .inl fun i hi => ?_
          rcases Nat.lt_succ_iff_lt_or_eq.1 hi with h' | rfl
          · exact h i h'
          · exact hv
      · exact .inr ⟨q, by omega, h2, h3⟩
  rcases main (ks.length - 1) with h1 | ⟨q, h1, h2, h3⟩
  · rw [rising_true.2 (fun i hi => h1 i (by omega))] at h; cases h
  · exact ⟨q, by omega, h2, h3⟩

theorem same_of {P : Program} {f : FuncId} {args : Array Value} {w : World} {v : Value} (h : Calls P f args w fun e w' => e = .returned v ∧ w = w') : Calls P f args w fun e w' => e = .returned v ∧ w' = w :=
  h.mono fun _ _ ⟨h1, h2⟩ => ⟨h1, h2.symm⟩
theorem getD_of {α : Type} (l : List α) (d : α) (k : Nat) (h : k < l.length) : l.getD k d = l[k] := by simp [List.getD, h]

def Quiet (w : World) (v : Value) (e : Ending) (w' : World) : Prop := e = .returned v ∧ ∃ m, w' = w.drewN m

set_option maxHeartbeats 1600000 in
theorem rising_yes (A : Option Addr) (n c : Nat) (ks : List PB) (w : World) (h : IsSl rB 1 w A n ks) (hn : n ≤ 140737488351232) (hr : risingB ks = true) :
    Calls Try.prog 70 #[.slice A n c] w (Quiet w (.bool true)) := by
  have H := Asd.mk h
  have HR := Asd.mk (rising_true.1 hr)
  have HL := Asd.mk h.1
  clear h hr
  go_enter Try.func70, Try.ntmps70
  go_wp2
  go_loopw [3] (fun i wr => ∃ (j m : Nat), j ≤ n ∧ i = .int .i64 ((j : Int) + 1) ∧ wr = w.drewN m) (fun i _ => n + 1 - (intOf i).toNat)
  case atStart => exact ⟨0, 0, by omega, by go_num, rfl⟩
  case round =>
    obtain ⟨j, m, hj, rfl, hw⟩ := hrel
    have HW := Asd.mk hw
    by_cases hlt : j + 1 < n
    · have hh : IsSl rB 1 wr A n ks := by rw [hw]; exact H.out
      obtain ⟨b, o, Ak, nk, ck, e1, _, q0, ib0, _, _⟩ := key_at hh j (by have := HL.out; omega)
      obtain ⟨b', o', Ak2, nk2, ck2, e2, _, q1, ib1, _, _⟩ := key_at hh (j + 1) (by have := HL.out; omega)
      rw [e1] at e2
      cases e2
      subst e1
      have hbp := HR.out j (by have := HL.out; omega)
      rw [getD_of _ _ j (by have := HL.out; omega), getD_of _ _ (j + 1) (by have := HL.out; omega)] at hbp
      have hneg : decide (0 ≤ Lib.compareBytes (ks[j]'(by have := HL.out; omega)) (ks[j + 1]'(by have := HL.out; omega))) = false := hbp
      have HC := Asd.mk (fun nq => same_of (compare_calls Ak Ak2 nk nk2 ck ck2 _ _ (wr.drewN nq) (ib0.drewN nq) (ib1.drewN nq)))
      generalize Lib.compareBytes (ks[j]'(by have := HL.out; omega)) (ks[j + 1]'(by have := HL.out; omega)) = r at hneg HC
      clear ib0 ib1 hh hbp hw
      go_upto_region 4 with fail
      go_quiet (first | (go_at_call 105; exact Calls.quiet_of_same (HC.out _)))
      go_wp2
      go_roundw
      case rel => exact ⟨j + 1, m + nq, by omega, by go_num, by rw [HW.out, World.drewN_drewN]⟩
      case measure => simp [intOf]; omega
    · clear hw
      go_wp2
      go_ret
      exact ⟨rfl, m, HW.out⟩

set_option maxHeartbeats 1600000 in
theorem rising_no (A : Option Addr) (n c q : Nat) (ks : List PB) (w : World) (h : IsSl rB 1 w A n ks) (hn : n ≤ 140737488351232) (hq : q + 1 < n) (hbad : badPair (ks.getD q []) (ks.getD (q + 1) []) = true)
    (hgood : ∀ i, i < q → badPair (ks.getD i []) (ks.getD (i + 1) []) = false) :
    Calls Try.prog 70 #[.slice A n c] w (Quiet w (.bool false)) := by
  have H := Asd.mk h
  have HG := Asd.mk hgood
  have HBD := Asd.mk hbad
  have HL := Asd.mk h.1
  clear h hbad hgood
  go_enter Try.func70, Try.ntmps70
  go_wp2
  go_loopw [3] (fun i wr => ∃ (j m : Nat), j ≤ q ∧ i = .int .i64 ((j : Int) + 1) ∧ wr = w.drewN m) (fun i _ => n + 1 - (intOf i).toNat)
  case atStart => exact ⟨0, 0, by omega, by go_num, rfl⟩
  case round =>
    obtain ⟨j, m, hj, rfl, hw⟩ := hrel
    have HW := Asd.mk hw
    have hh : IsSl rB 1 wr A n ks := by rw [hw]; exact H.out
    obtain ⟨b, o, Ak, nk, ck, e1, _, q0, ib0, _, _⟩ := key_at hh j (by have := HL.out; omega)
    obtain ⟨b', o', Ak2, nk2, ck2, e2, _, q1, ib1, _, _⟩ := key_at hh (j + 1) (by have := HL.out; omega)
    rw [e1] at e2
    cases e2
    subst e1
    have HC := Asd.mk (fun nq => same_of (compare_calls Ak Ak2 nk nk2 ck ck2 _ _ (wr.drewN nq) (ib0.drewN nq) (ib1.drewN nq)))
    by_cases hlt : j < q
    · have hbp := HG.out j hlt
      rw [getD_of _ _ j (by have := HL.out; omega), getD_of _ _ (j + 1) (by have := HL.out; omega)] at hbp
      have hneg : decide (0 ≤ Lib.compareBytes (ks[j]'(by have := HL.out; omega)) (ks[j + 1]'(by have := HL.out; omega))) = false := hbp
      generalize Lib.compareBytes (ks[j]'(by have := HL.out; omega)) (ks[j + 1]'(by have := HL.out; omega)) = r at hneg HC
      clear ib0 ib1 hh hbp hw
      go_upto_region 4 with fail
      go_quiet (first | (go_at_call 105; exact Calls.quiet_of_same (HC.out _)))
      go_wp2
      go_roundw
      case rel => exact ⟨j + 1, m + nq, by omega, by go_num, by rw [HW.out, World.drewN_drewN]⟩
      case measure => simp [intOf]; omega
    · obtain rfl : q = j := by omega
      have hbp := HBD.out
      rw [getD_of _ _ q (by have := HL.out; omega), getD_of _ _ (q + 1) (by have := HL.out; omega)] at hbp
      have hneg : decide (0 ≤ Lib.compareBytes (ks[q]'(by have := HL.out; omega)) (ks[q + 1]'(by have := HL.out; omega))) = true := hbp
      generalize Lib.compareBytes (ks[q]'(by have := HL.out; omega)) (ks[q + 1]'(by have := HL.out; omega)) = r at hneg HC
      clear ib0 ib1 hh hbp hw
      go_upto_region 4 with fail
      go_quiet (first | (go_at_call 105; exact Calls.quiet_of_same (HC.out _)))
      go_wp2
      go_ret
      exact ⟨rfl, m + nq, by rw [HW.out, World.drewN_drewN]⟩

theorem rising_calls (A : Option Addr) (n c : Nat) (ks : List PB) (w : World) (h : IsSl rB 1 w A n ks) (hn : n ≤ 140737488351232) :
    Calls Try.prog 70 #[.slice A n c] w (Quiet w (.bool (risingB ks))) := by
  cases hr : risingB ks with
  | true => exact rising_yes A n c ks w h hn hr
  | false =>
    obtain ⟨q, h1, h2, h3⟩ := rising_false hr
    exact rising_no A n c q ks w h hn (by have := h.1; omega) h2 h3
end Go.Proofs.Ytnohhmopiflboaa.Nod
