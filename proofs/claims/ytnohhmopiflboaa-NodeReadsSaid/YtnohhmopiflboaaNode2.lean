/- Package node and its reference: cells, sizes, which fields are right. -/
import Derived.Test.YtnohhmopiflboaaNode1
set_option linter.unusedVariables false
set_option linter.unusedSimpArgs false
namespace Go.Proofs.Ytnohhmopiflboaa.Nod
open Go.RowKit Go.Proofs.Ytnohhmopiflboaa.Base Go.Proofs.Ytnohhmopiflboaa.Byt Go.Proofs.Ytnohhmopiflboaa.Rd

/-- A cell's size: its key's length, its value's, the first page of a long one. -/
def csz (nk nv : Nat) (over : Int) : Int := if over = 0 then 3 + nk + nv else 5 + nk
def cRight (nk nv : Nat) (over size : Int) : Bool :=
  decide ((nk : Int) ≤ 128) && ((decide (over = 0) && decide ((nv : Int) ≤ 64) && decide (size = (nv : Int))) || (isPage over && decide ((nv : Int) = 0) && decide (64 < size) && decide (size ≤ 2048)))
theorem int_beq (a b : Int) : (a == b) = decide (a = b) := by by_cases h : a = b <;> simp [h]
theorem isPage_zero : isPage 0 = false := rfl

set_option maxHeartbeats 800000 in
theorem csize_calls (Ak Av : Option Addr) (nk nv ck cv : Nat) (over size : Int) (w : World) (hk : nk ≤ 140737488351232) (hv : nv ≤ 140737488351232) :
    Calls Try.prog 39 #[.agg #[.slice Ak nk ck, .slice Av nv cv, .int .i64 over, .int .i64 size]] w fun e w' => e = .returned (.int .i64 (csz nk nv over)) ∧ Below w.heap.size w w' := by
  by_cases h : over = 0
  · subst h
    go_enter Try.func39, Try.ntmps39
    go_wp2
    go_ret
    exact ⟨ret_eq (by simp [csz]), (Below.refl _ _).alloc (Nat.le_refl _) _⟩
  · have h' : (over != 0) = true := by rw [bne_iff_ne]; exact h
    have H := Asd.mk h
    clear h
    go_enter Try.func39, Try.ntmps39
    go_wp2
    go_ret
    exact ⟨ret_eq (by simp [csz, H.out]), (Below.refl _ _).alloc (Nat.le_refl _) _⟩

set_option maxRecDepth 100000 in
set_option maxHeartbeats 1600000 in
theorem right_calls (Ak Av : Option Addr) (nk nv ck cv : Nat) (over size : Int) (w : World) (hk : nk ≤ 140737488351232) (hv : nv ≤ 140737488351232) :
    Calls Try.prog 69 #[.agg #[.slice Ak nk ck, .slice Av nv cv, .int .i64 over, .int .i64 size]] w fun e w' => e = .returned (.bool (cRight nk nv over size)) ∧ Below w.heap.size w w' := by
  go_enter Try.func69, Try.ntmps69
  go_wp2_with (go_at_call 48; refine (page_calls _ _).mono ?_; rintro e w' ⟨rfl, rfl⟩)
  all_goals
    go_ret
    refine ⟨ret_eq ?_, (Below.refl _ _).alloc (Nat.le_refl _) _⟩
    simp_all [cRight, int_beq, isPage_zero]
    try omega

set_option maxRecDepth 100000 in
set_option maxHeartbeats 1600000 in
theorem rcell_calls (Ak Av : Option Addr) (nk nv ck cv : Nat) (over size : Int) (w : World) (hk : nk ≤ 140737488351232) (hv : nv ≤ 140737488351232) :
    Calls Try.prog 75 #[.agg #[.slice Ak nk ck, .slice Av nv cv, .int .i64 over, .int .i64 size]] w fun e w' => e = .returned (.bool (cRight nk nv over size)) ∧ Below w.heap.size w w' := by
  go_enter Try.func75, Try.ntmps75
  go_wp2_with (go_at_call 51; refine (rpage_calls _ _).mono ?_; rintro e w' ⟨rfl, rfl⟩)
  all_goals
    go_ret
    refine ⟨ret_eq ?_, (Below.refl _ _).alloc (Nat.le_refl _) _⟩
    simp_all [cRight, int_beq, isPage_zero]
    try omega
end Go.Proofs.Ytnohhmopiflboaa.Nod
