-- PRINTED BY print.sh 35421559b90ae4d0a3588c463048766b98c2df88dd9212a6774a882060cdf62d: not written by this session
import Derived.Test.YtcefmhofidoloaaGreatDoorPsymbolx0
namespace Go.Proofs.YtcefmhofidoloaaGreatDoor.Psymbol
open Go.RowKit Go.Proofs.YtcefmhofidoloaaGreatDoorW.PrintWords Go.Proofs.YtcefmhofidoloaaGreatDoorW.PrintLast Go.Proofs.YtcefmhofidoloaaGreatDoorW.PrintMore
attribute [local go_sem] max2_int min2_int max_two min_two max_three min_three max_four min_four   -- for this text's walks alone
set_option linter.unusedVariables false
set_option linter.unusedSimpArgs false

/-! ### quarryref12_symbol: function 121 -/
def quarryref12_symbol.j0 : Nat → ByteArray → Option (ByteArray)
  | 0, _ => none
  | k + 1, x0 => if 0 < (x0.size : Int) then (if (bt x0 0) = 40 then (if 0 ≤ 1 then (if 1 ≤ (x0.size : Int) then (some (x0.extract 0 1)) else (none)) else (none)) else (if (bt x0 0) = 41 then (if 0 ≤ 1 then (if 1 ≤ (x0.size : Int) then (some (x0.extract 0 1)) else (none)) else (none)) else (if (bt x0 0) = 44 then (if 0 ≤ 1 then (if 1 ≤ (x0.size : Int) then (some (x0.extract 0 1)) else (none)) else (none)) else (if (bt x0 0) = 46 then (if 0 ≤ 1 then (if 1 ≤ (x0.size : Int) then (some (x0.extract 0 1)) else (none)) else (none)) else (if (bt x0 0) = 42 then (if 0 ≤ 1 then (if 1 ≤ (x0.size : Int) then (some (x0.extract 0 1)) else (none)) else (none)) else (if (bt x0 0) = 61 then (if 0 ≤ 1 then (if 1 ≤ (x0.size : Int) then (some (x0.extract 0 1)) else (none)) else (none)) else (if (bt x0 0) = 60 then (if 0 ≤ 1 then (if 1 ≤ (x0.size : Int) then (some (x0.extract 0 1)) else (none)) else (none)) else (if (bt x0 0) = 62 then (if 0 ≤ 1 then (if 1 ≤ (x0.size : Int) then (some (x0.extract 0 1)) else (none)) else (none)) else (if (bt x0 0) = 43 then (if 0 ≤ 1 then (if 1 ≤ (x0.size : Int) then (some (x0.extract 0 1)) else (none)) else (none)) else (if (bt x0 0) = 45 then (if 0 ≤ 1 then (if 1 ≤ (x0.size : Int) then (some (x0.extract 0 1)) else (none)) else (none)) else (if (bt x0 0) = 47 then (if 0 ≤ 1 then (if 1 ≤ (x0.size : Int) then (some (x0.extract 0 1)) else (none)) else (none)) else (if (bt x0 0) = 37 then (if 0 ≤ 1 then (if 1 ≤ (x0.size : Int) then (some (x0.extract 0 1)) else (none)) else (none)) else (if (bt x0 0) = 59 then (if 0 ≤ 1 then (if 1 ≤ (x0.size : Int) then (some (x0.extract 0 1)) else (none)) else (none)) else (some (⟨#[]⟩ : ByteArray))))))))))))))) else (none)
def quarryref12_symbol.f (k : Nat) (a0 : ByteArray) : Option (ByteArray) := if (a0.size : Int) ≥ 2 then (if 0 ≤ 2 then (if 2 ≤ (a0.size : Int) then (if (a0.extract 0 2).toList = ([60, 62] : List UInt8) then (some (a0.extract 0 2)) else (if (a0.extract 0 2).toList = ([60, 61] : List UInt8) then (some (a0.extract 0 2)) else (if (a0.extract 0 2).toList = ([62, 61] : List UInt8) then (some (a0.extract 0 2)) else (if (a0.extract 0 2).toList = ([124, 124] : List UInt8) then (some (a0.extract 0 2)) else (quarryref12_symbol.j0 k a0))))) else (none)) else (none)) else (quarryref12_symbol.j0 k a0)
theorem quarryref12_symbol.mono_l : ∀ k, (∀ y0, LeO (quarryref12_symbol.j0 k y0) (quarryref12_symbol.j0 (k + 1) y0))
  | 0 => fun _ r h => by simp [quarryref12_symbol.j0] at h
  | k + 1 => by
    have ih0 := quarryref12_symbol.mono_l k
    · intro y0
      unfold quarryref12_symbol.j0
      repeat' first
      | (with_reducible exact ih0 _)
      | (with_reducible exact LeO.refl _)
      | (with_reducible exact LeO.none _)
      | (with_reducible refine LeO.ite ?_ ?_)
      | (with_reducible refine LeO.bind ?_ (fun _ => ?_))
      | exact ih0 _
      | exact LeO.none _
      | refine LeO.ite ?_ ?_
      | refine LeO.bind ?_ (fun _ => ?_)
theorem quarryref12_symbol.mono : ∀ a0 k, LeO (quarryref12_symbol.f k a0) (quarryref12_symbol.f (k + 1) a0) := by
  intro a0 k
  have ih0 := quarryref12_symbol.mono_l k
  unfold quarryref12_symbol.f
  repeat' first
      | (with_reducible exact ih0 _)
      | (with_reducible exact LeO.refl _)
      | (with_reducible exact LeO.none _)
      | (with_reducible refine LeO.ite ?_ ?_)
      | (with_reducible refine LeO.bind ?_ (fun _ => ?_))
      | exact ih0 _
      | exact LeO.none _
      | refine LeO.ite ?_ ?_
      | refine LeO.bind ?_ (fun _ => ?_)
set_option maxHeartbeats 8000000 in
set_option maxRecDepth 100000 in
theorem quarryref12_symbol.calls (k : Nat) (a0 : ByteArray) (r : ByteArray) (w : World) (h : quarryref12_symbol.f k a0 = some r) :
    Calls Tryz.prog 121 #[.string a0] w fun e w' => e = .returned (.string r) ∧ Drawn0 w w' := by
  have H : (if (a0.size : Int) ≥ 2 then (if 0 ≤ 2 then (if 2 ≤ (a0.size : Int) then (if (a0.extract 0 2).toList = ([60, 62] : List UInt8) then (some (a0.extract 0 2)) else (if (a0.extract 0 2).toList = ([60, 61] : List UInt8) then (some (a0.extract 0 2)) else (if (a0.extract 0 2).toList = ([62, 61] : List UInt8) then (some (a0.extract 0 2)) else (if (a0.extract 0 2).toList = ([124, 124] : List UInt8) then (some (a0.extract 0 2)) else (quarryref12_symbol.j0 k a0))))) else (none)) else (none)) else (quarryref12_symbol.j0 k a0)) = some r := h
  clear h
  have HC2 := Aside0.mk H
  clear H
  go_enter Tryz.func121, Tryz.ntmps121
  go_upto_if 5 with (fail)
  go_cut [] (fun wc => ∃ (kq : Nat), Aside0 (quarryref12_symbol.j0 kq a0 = some r) ∧ Aside0 (kq ≤ k) ∧ Drawn0 w wc)
  case first =>
    have H := HC2.out
    clear HC2
    by_cases c3 : (a0.size : Int) ≥ 2
    · rw [if_pos c3] at H
      have c3b0 : decide (2 ≤ (a0.size : Int)) = true := decide_eq_true c3
      have c3b1 : decide (2 ≤ a0.size) = true := decide_eq_true (by omega)
      clear c3
      (first | rw [c3b0] | (simp only [i64_w, i32_w]; rw [c3b0]) | skip)
      by_cases c4 : 0 ≤ 2
      · rw [if_pos c4] at H
        have c4b0 := eq_true c4
        have c4b1 : decide (0 ≤ 2) = true := decide_eq_true c4
        clear c4
        by_cases c5 : 2 ≤ (a0.size : Int)
        · rw [if_pos c5] at H
          have c5b0 := eq_true c5
          have c5b1 : decide (2 ≤ (a0.size : Int)) = true := decide_eq_true c5
          clear c5
          by_cases c6 : (a0.extract 0 2).toList = ([60, 62] : List UInt8)
          · rw [if_pos c6] at H
            have c6b0 : ((a0.extract 0 2).toList == ([60, 62] : List UInt8)) = true := beq_iff_eq.mpr c6
            have c6b1 : ((a0.extract 0 2).toList != ([60, 62] : List UInt8)) = false := bne_eq_false_iff_eq.mpr c6
            clear c6
            have c7b0 := eq_true (of_decide_eq_true (by first | (with_reducible assumption) | assumption) : 0 ≤ 2)
            have c8b0 := eq_true (of_decide_eq_true (by first | (with_reducible assumption) | assumption) : 2 ≤ (a0.size : Int))
            obtain rfl := Option.some.inj H
            go_wp2
            go_ret
            exact ⟨by first | rfl | (simp; done) | (simp [*]; done), by repeat (first | exact Drawn0.refl _ | apply Drawn0.step)⟩
          · rw [if_neg c6] at H
            have c6b0 : ((a0.extract 0 2).toList == ([60, 62] : List UInt8)) = false := beq_eq_false_iff_ne.mpr c6
            have c6b1 : ((a0.extract 0 2).toList != ([60, 62] : List UInt8)) = true := bne_iff_ne.mpr c6
            by_cases c9 : (a0.extract 0 2).toList = ([60, 61] : List UInt8)
            · rw [if_pos c9] at H
              have c9b0 : ((a0.extract 0 2).toList == ([60, 61] : List UInt8)) = true := beq_iff_eq.mpr c9
              have c9b1 : ((a0.extract 0 2).toList != ([60, 61] : List UInt8)) = false := bne_eq_false_iff_eq.mpr c9
              clear c9
              have c10b0 := eq_true (of_decide_eq_true (by first | (with_reducible assumption) | assumption) : 0 ≤ 2)
              have c11b0 := eq_true (of_decide_eq_true (by first | (with_reducible assumption) | assumption) : 2 ≤ (a0.size : Int))
              obtain rfl := Option.some.inj H
              go_wp2
              go_ret
              exact ⟨by first | rfl | (simp; done) | (simp [*]; done), by repeat (first | exact Drawn0.refl _ | apply Drawn0.step)⟩
            · rw [if_neg c9] at H
              have c9b0 : ((a0.extract 0 2).toList == ([60, 61] : List UInt8)) = false := beq_eq_false_iff_ne.mpr c9
              have c9b1 : ((a0.extract 0 2).toList != ([60, 61] : List UInt8)) = true := bne_iff_ne.mpr c9
              by_cases c12 : (a0.extract 0 2).toList = ([62, 61] : List UInt8)
              · rw [if_pos c12] at H
                have c12b0 : ((a0.extract 0 2).toList == ([62, 61] : List UInt8)) = true := beq_iff_eq.mpr c12
                have c12b1 : ((a0.extract 0 2).toList != ([62, 61] : List UInt8)) = false := bne_eq_false_iff_eq.mpr c12
                clear c12
                have c13b0 := eq_true (of_decide_eq_true (by first | (with_reducible assumption) | assumption) : 0 ≤ 2)
                have c14b0 := eq_true (of_decide_eq_true (by first | (with_reducible assumption) | assumption) : 2 ≤ (a0.size : Int))
                obtain rfl := Option.some.inj H
                go_wp2
                go_ret
                exact ⟨by first | rfl | (simp; done) | (simp [*]; done), by repeat (first | exact Drawn0.refl _ | apply Drawn0.step)⟩
              · rw [if_neg c12] at H
                have c12b0 : ((a0.extract 0 2).toList == ([62, 61] : List UInt8)) = false := beq_eq_false_iff_ne.mpr c12
                have c12b1 : ((a0.extract 0 2).toList != ([62, 61] : List UInt8)) = true := bne_iff_ne.mpr c12
                by_cases c15 : (a0.extract 0 2).toList = ([124, 124] : List UInt8)
                · rw [if_pos c15] at H
                  have c15b0 : ((a0.extract 0 2).toList == ([124, 124] : List UInt8)) = true := beq_iff_eq.mpr c15
                  have c15b1 : ((a0.extract 0 2).toList != ([124, 124] : List UInt8)) = false := bne_eq_false_iff_eq.mpr c15
                  clear c15
                  have c16b0 := eq_true (of_decide_eq_true (by first | (with_reducible assumption) | assumption) : 0 ≤ 2)
                  have c17b0 := eq_true (of_decide_eq_true (by first | (with_reducible assumption) | assumption) : 2 ≤ (a0.size : Int))
                  obtain rfl := Option.some.inj H
                  go_wp2
                  go_ret
                  exact ⟨by first | rfl | (simp; done) | (simp [*]; done), by repeat (first | exact Drawn0.refl _ | apply Drawn0.step)⟩
                · rw [if_neg c15] at H
                  have c15b0 : ((a0.extract 0 2).toList == ([124, 124] : List UInt8)) = false := beq_eq_false_iff_ne.mpr c15
                  have c15b1 : ((a0.extract 0 2).toList != ([124, 124] : List UInt8)) = true := bne_iff_ne.mpr c15
                  have H' := Aside0.mk H
                  clear H
                  go_wp2
                  go_meet
                  case rel => exact ⟨_, H', ⟨by first | omega | exact Nat.le_refl _⟩, by repeat (first | exact Drawn0.refl _ | apply Drawn0.step)⟩
        · rw [if_neg c5] at H
          exact absurd H (by simp)
      · rw [if_neg c4] at H
        exact absurd H (by simp)
    · rw [if_neg c3] at H
      have c3b0 : decide (2 ≤ (a0.size : Int)) = false := decide_eq_false c3
      have c3b1 : decide (2 ≤ a0.size) = false := decide_eq_false (by omega)
      clear c3
      (first | rw [c3b0] | (simp only [i64_w, i32_w]; rw [c3b0]) | skip)
      have H' := Aside0.mk H
      clear H
      go_wp2
      go_meet
      case rel => exact ⟨_, H', ⟨by first | omega | exact Nat.le_refl _⟩, by repeat (first | exact Drawn0.refl _ | apply Drawn0.step)⟩
  case rest =>
    clear HC2
    try clear c1
    try clear p2
    try clear c3
    try clear c3b0
    try clear c3b1
    try clear c4
    try clear c4b0
    try clear c4b1
    try clear c5
    try clear c5b0
    try clear c5b1
    try clear c6
    try clear c6b0
    try clear c6b1
    try clear c7
    try clear c7b0
    try clear c8
    try clear c8b0
    try clear c9
    try clear c9b0
    try clear c9b1
    try clear c10
    try clear c10b0
    try clear c11
    try clear c11b0
    try clear c12
    try clear c12b0
    try clear c12b1
    try clear c13
    try clear c13b0
    try clear c14
    try clear c14b0
    try clear c15
    try clear c15b0
    try clear c15b1
    try clear c16
    try clear c16b0
    try clear c17
    try clear c17b0
    obtain ⟨kq, HA, HJ1, ⟨mc1, rfl⟩⟩ := hcut
    cases kq with
    | zero => exact absurd HA.out (by simp [quarryref12_symbol.j0])
    | succ kj1 =>
      have H := HA.out
      clear HA
      simp only [quarryref12_symbol.j0] at H
      by_cases c18 : 0 < (a0.size : Int)
      · rw [if_pos c18] at H
        have c18b0 : decide (0 < (a0.size : Int)) = true := decide_eq_true c18
        have c18b1 : decide (0 < a0.size) = true := decide_eq_true (by omega)
        clear c18
        by_cases c20 : (bt a0 0) = 40
        · rw [if_pos c20] at H
          have c20b0 : ((bt a0 0) == 40) = true := beq_iff_eq.mpr c20
          have c20b1 : ((bt a0 0) != 40) = false := bne_eq_false_iff_eq.mpr c20
          clear c20
          by_cases c21 : 0 ≤ 1
          · rw [if_pos c21] at H
            have c21b0 := eq_true c21
            have c21b1 : decide (0 ≤ 1) = true := decide_eq_true c21
            clear c21
            by_cases c22 : 1 ≤ (a0.size : Int)
            · rw [if_pos c22] at H
              have c22b0 := eq_true c22
              have c22b1 : decide (1 ≤ (a0.size : Int)) = true := decide_eq_true c22
              clear c22
              obtain rfl := Option.some.inj H
              have p19 : 0 ≤ (0 : Int) := (by omega)
              have q19 : 0 < a0.size := (by have : (0 : Int) < (a0.size : Int) := of_decide_eq_true (by first | (with_reducible assumption) | assumption); omega)
              have hx19 : ∀ h : 0 < a0.size, ((a0[0]'h).toNat : Int) = bt a0 0 := bt_at a0 0
              clear p19
              have qi19 : (0 < (a0.size : Int)) = True := eq_true (of_decide_eq_true (by first | (with_reducible assumption) | assumption))
              replace q19 := eq_true q19
              go_wp2
              go_ret
              exact ⟨by first | rfl | (simp; done) | (simp [*]; done), by repeat (first | exact Drawn0.refl _ | apply Drawn0.step)⟩
            · rw [if_neg c22] at H
              exact absurd H (by simp)
          · rw [if_neg c21] at H
            exact absurd H (by simp)
        · rw [if_neg c20] at H
          have c20b0 : ((bt a0 0) == 40) = false := beq_eq_false_iff_ne.mpr c20
          have c20b1 : ((bt a0 0) != 40) = true := bne_iff_ne.mpr c20
          by_cases c23 : (bt a0 0) = 41
          · rw [if_pos c23] at H
            have c23b0 : ((bt a0 0) == 41) = true := beq_iff_eq.mpr c23
            have c23b1 : ((bt a0 0) != 41) = false := bne_eq_false_iff_eq.mpr c23
            clear c23
            by_cases c24 : 0 ≤ 1
            · rw [if_pos c24] at H
              have c24b0 := eq_true c24
              have c24b1 : decide (0 ≤ 1) = true := decide_eq_true c24
              clear c24
              by_cases c25 : 1 ≤ (a0.size : Int)
              · rw [if_pos c25] at H
                have c25b0 := eq_true c25
                have c25b1 : decide (1 ≤ (a0.size : Int)) = true := decide_eq_true c25
                clear c25
                obtain rfl := Option.some.inj H
                have p19 : 0 ≤ (0 : Int) := (by omega)
                have q19 : 0 < a0.size := (by have : (0 : Int) < (a0.size : Int) := of_decide_eq_true (by first | (with_reducible assumption) | assumption); omega)
                have hx19 : ∀ h : 0 < a0.size, ((a0[0]'h).toNat : Int) = bt a0 0 := bt_at a0 0
                clear p19
                have qi19 : (0 < (a0.size : Int)) = True := eq_true (of_decide_eq_true (by first | (with_reducible assumption) | assumption))
                replace q19 := eq_true q19
                go_wp2
                go_ret
                exact ⟨by first | rfl | (simp; done) | (simp [*]; done), by repeat (first | exact Drawn0.refl _ | apply Drawn0.step)⟩
              · rw [if_neg c25] at H
                exact absurd H (by simp)
            · rw [if_neg c24] at H
              exact absurd H (by simp)
          · rw [if_neg c23] at H
            have c23b0 : ((bt a0 0) == 41) = false := beq_eq_false_iff_ne.mpr c23
            have c23b1 : ((bt a0 0) != 41) = true := bne_iff_ne.mpr c23
            by_cases c26 : (bt a0 0) = 44
            · rw [if_pos c26] at H
              have c26b0 : ((bt a0 0) == 44) = true := beq_iff_eq.mpr c26
              have c26b1 : ((bt a0 0) != 44) = false := bne_eq_false_iff_eq.mpr c26
              clear c26
              by_cases c27 : 0 ≤ 1
              · rw [if_pos c27] at H
                have c27b0 := eq_true c27
                have c27b1 : decide (0 ≤ 1) = true := decide_eq_true c27
                clear c27
                by_cases c28 : 1 ≤ (a0.size : Int)
                · rw [if_pos c28] at H
                  have c28b0 := eq_true c28
                  have c28b1 : decide (1 ≤ (a0.size : Int)) = true := decide_eq_true c28
                  clear c28
                  obtain rfl := Option.some.inj H
                  have p19 : 0 ≤ (0 : Int) := (by omega)
                  have q19 : 0 < a0.size := (by have : (0 : Int) < (a0.size : Int) := of_decide_eq_true (by first | (with_reducible assumption) | assumption); omega)
                  have hx19 : ∀ h : 0 < a0.size, ((a0[0]'h).toNat : Int) = bt a0 0 := bt_at a0 0
                  clear p19
                  have qi19 : (0 < (a0.size : Int)) = True := eq_true (of_decide_eq_true (by first | (with_reducible assumption) | assumption))
                  replace q19 := eq_true q19
                  go_wp2
                  go_ret
                  exact ⟨by first | rfl | (simp; done) | (simp [*]; done), by repeat (first | exact Drawn0.refl _ | apply Drawn0.step)⟩
                · rw [if_neg c28] at H
                  exact absurd H (by simp)
              · rw [if_neg c27] at H
                exact absurd H (by simp)
            · rw [if_neg c26] at H
              have c26b0 : ((bt a0 0) == 44) = false := beq_eq_false_iff_ne.mpr c26
              have c26b1 : ((bt a0 0) != 44) = true := bne_iff_ne.mpr c26
              by_cases c29 : (bt a0 0) = 46
              · rw [if_pos c29] at H
                have c29b0 : ((bt a0 0) == 46) = true := beq_iff_eq.mpr c29
                have c29b1 : ((bt a0 0) != 46) = false := bne_eq_false_iff_eq.mpr c29
                clear c29
                by_cases c30 : 0 ≤ 1
                · rw [if_pos c30] at H
                  have c30b0 := eq_true c30
                  have c30b1 : decide (0 ≤ 1) = true := decide_eq_true c30
                  clear c30
                  by_cases c31 : 1 ≤ (a0.size : Int)
                  · rw [if_pos c31] at H
                    have c31b0 := eq_true c31
                    have c31b1 : decide (1 ≤ (a0.size : Int)) = true := decide_eq_true c31
                    clear c31
                    obtain rfl := Option.some.inj H
                    have p19 : 0 ≤ (0 : Int) := (by omega)
                    have q19 : 0 < a0.size := (by have : (0 : Int) < (a0.size : Int) := of_decide_eq_true (by first | (with_reducible assumption) | assumption); omega)
                    have hx19 : ∀ h : 0 < a0.size, ((a0[0]'h).toNat : Int) = bt a0 0 := bt_at a0 0
                    clear p19
                    have qi19 : (0 < (a0.size : Int)) = True := eq_true (of_decide_eq_true (by first | (with_reducible assumption) | assumption))
                    replace q19 := eq_true q19
                    go_wp2
                    go_ret
                    exact ⟨by first | rfl | (simp; done) | (simp [*]; done), by repeat (first | exact Drawn0.refl _ | apply Drawn0.step)⟩
                  · rw [if_neg c31] at H
                    exact absurd H (by simp)
                · rw [if_neg c30] at H
                  exact absurd H (by simp)
              · rw [if_neg c29] at H
                have c29b0 : ((bt a0 0) == 46) = false := beq_eq_false_iff_ne.mpr c29
                have c29b1 : ((bt a0 0) != 46) = true := bne_iff_ne.mpr c29
                by_cases c32 : (bt a0 0) = 42
                · rw [if_pos c32] at H
                  have c32b0 : ((bt a0 0) == 42) = true := beq_iff_eq.mpr c32
                  have c32b1 : ((bt a0 0) != 42) = false := bne_eq_false_iff_eq.mpr c32
                  clear c32
                  by_cases c33 : 0 ≤ 1
                  · rw [if_pos c33] at H
                    have c33b0 := eq_true c33
                    have c33b1 : decide (0 ≤ 1) = true := decide_eq_true c33
                    clear c33
                    by_cases c34 : 1 ≤ (a0.size : Int)
                    · rw [if_pos c34] at H
                      have c34b0 := eq_true c34
                      have c34b1 : decide (1 ≤ (a0.size : Int)) = true := decide_eq_true c34
                      clear c34
                      obtain rfl := Option.some.inj H
                      have p19 : 0 ≤ (0 : Int) := (by omega)
                      have q19 : 0 < a0.size := (by have : (0 : Int) < (a0.size : Int) := of_decide_eq_true (by first | (with_reducible assumption) | assumption); omega)
                      have hx19 : ∀ h : 0 < a0.size, ((a0[0]'h).toNat : Int) = bt a0 0 := bt_at a0 0
                      clear p19
                      have qi19 : (0 < (a0.size : Int)) = True := eq_true (of_decide_eq_true (by first | (with_reducible assumption) | assumption))
                      replace q19 := eq_true q19
                      go_wp2
                      go_ret
                      exact ⟨by first | rfl | (simp; done) | (simp [*]; done), by repeat (first | exact Drawn0.refl _ | apply Drawn0.step)⟩
                    · rw [if_neg c34] at H
                      exact absurd H (by simp)
                  · rw [if_neg c33] at H
                    exact absurd H (by simp)
                · rw [if_neg c32] at H
                  have c32b0 : ((bt a0 0) == 42) = false := beq_eq_false_iff_ne.mpr c32
                  have c32b1 : ((bt a0 0) != 42) = true := bne_iff_ne.mpr c32
                  by_cases c35 : (bt a0 0) = 61
                  · rw [if_pos c35] at H
                    have c35b0 : ((bt a0 0) == 61) = true := beq_iff_eq.mpr c35
                    have c35b1 : ((bt a0 0) != 61) = false := bne_eq_false_iff_eq.mpr c35
                    clear c35
                    by_cases c36 : 0 ≤ 1
                    · rw [if_pos c36] at H
                      have c36b0 := eq_true c36
                      have c36b1 : decide (0 ≤ 1) = true := decide_eq_true c36
                      clear c36
                      by_cases c37 : 1 ≤ (a0.size : Int)
                      · rw [if_pos c37] at H
                        have c37b0 := eq_true c37
                        have c37b1 : decide (1 ≤ (a0.size : Int)) = true := decide_eq_true c37
                        clear c37
                        obtain rfl := Option.some.inj H
                        have p19 : 0 ≤ (0 : Int) := (by omega)
                        have q19 : 0 < a0.size := (by have : (0 : Int) < (a0.size : Int) := of_decide_eq_true (by first | (with_reducible assumption) | assumption); omega)
                        have hx19 : ∀ h : 0 < a0.size, ((a0[0]'h).toNat : Int) = bt a0 0 := bt_at a0 0
                        clear p19
                        have qi19 : (0 < (a0.size : Int)) = True := eq_true (of_decide_eq_true (by first | (with_reducible assumption) | assumption))
                        replace q19 := eq_true q19
                        go_wp2
                        go_ret
                        exact ⟨by first | rfl | (simp; done) | (simp [*]; done), by repeat (first | exact Drawn0.refl _ | apply Drawn0.step)⟩
                      · rw [if_neg c37] at H
                        exact absurd H (by simp)
                    · rw [if_neg c36] at H
                      exact absurd H (by simp)
                  · rw [if_neg c35] at H
                    have c35b0 : ((bt a0 0) == 61) = false := beq_eq_false_iff_ne.mpr c35
                    have c35b1 : ((bt a0 0) != 61) = true := bne_iff_ne.mpr c35
                    by_cases c38 : (bt a0 0) = 60
                    · rw [if_pos c38] at H
                      have c38b0 : ((bt a0 0) == 60) = true := beq_iff_eq.mpr c38
                      have c38b1 : ((bt a0 0) != 60) = false := bne_eq_false_iff_eq.mpr c38
                      clear c38
                      by_cases c39 : 0 ≤ 1
                      · rw [if_pos c39] at H
                        have c39b0 := eq_true c39
                        have c39b1 : decide (0 ≤ 1) = true := decide_eq_true c39
                        clear c39
                        by_cases c40 : 1 ≤ (a0.size : Int)
                        · rw [if_pos c40] at H
                          have c40b0 := eq_true c40
                          have c40b1 : decide (1 ≤ (a0.size : Int)) = true := decide_eq_true c40
                          clear c40
                          obtain rfl := Option.some.inj H
                          have p19 : 0 ≤ (0 : Int) := (by omega)
                          have q19 : 0 < a0.size := (by have : (0 : Int) < (a0.size : Int) := of_decide_eq_true (by first | (with_reducible assumption) | assumption); omega)
                          have hx19 : ∀ h : 0 < a0.size, ((a0[0]'h).toNat : Int) = bt a0 0 := bt_at a0 0
                          clear p19
                          have qi19 : (0 < (a0.size : Int)) = True := eq_true (of_decide_eq_true (by first | (with_reducible assumption) | assumption))
                          replace q19 := eq_true q19
                          go_wp2
                          go_ret
                          exact ⟨by first | rfl | (simp; done) | (simp [*]; done), by repeat (first | exact Drawn0.refl _ | apply Drawn0.step)⟩
                        · rw [if_neg c40] at H
                          exact absurd H (by simp)
                      · rw [if_neg c39] at H
                        exact absurd H (by simp)
                    · rw [if_neg c38] at H
                      have c38b0 : ((bt a0 0) == 60) = false := beq_eq_false_iff_ne.mpr c38
                      have c38b1 : ((bt a0 0) != 60) = true := bne_iff_ne.mpr c38
                      by_cases c41 : (bt a0 0) = 62
                      · rw [if_pos c41] at H
                        have c41b0 : ((bt a0 0) == 62) = true := beq_iff_eq.mpr c41
                        have c41b1 : ((bt a0 0) != 62) = false := bne_eq_false_iff_eq.mpr c41
                        clear c41
                        by_cases c42 : 0 ≤ 1
                        · rw [if_pos c42] at H
                          have c42b0 := eq_true c42
                          have c42b1 : decide (0 ≤ 1) = true := decide_eq_true c42
                          clear c42
                          by_cases c43 : 1 ≤ (a0.size : Int)
                          · rw [if_pos c43] at H
                            have c43b0 := eq_true c43
                            have c43b1 : decide (1 ≤ (a0.size : Int)) = true := decide_eq_true c43
                            clear c43
                            obtain rfl := Option.some.inj H
                            have p19 : 0 ≤ (0 : Int) := (by omega)
                            have q19 : 0 < a0.size := (by have : (0 : Int) < (a0.size : Int) := of_decide_eq_true (by first | (with_reducible assumption) | assumption); omega)
                            have hx19 : ∀ h : 0 < a0.size, ((a0[0]'h).toNat : Int) = bt a0 0 := bt_at a0 0
                            clear p19
                            have qi19 : (0 < (a0.size : Int)) = True := eq_true (of_decide_eq_true (by first | (with_reducible assumption) | assumption))
                            replace q19 := eq_true q19
                            go_wp2
                            go_ret
                            exact ⟨by first | rfl | (simp; done) | (simp [*]; done), by repeat (first | exact Drawn0.refl _ | apply Drawn0.step)⟩
                          · rw [if_neg c43] at H
                            exact absurd H (by simp)
                        · rw [if_neg c42] at H
                          exact absurd H (by simp)
                      · rw [if_neg c41] at H
                        have c41b0 : ((bt a0 0) == 62) = false := beq_eq_false_iff_ne.mpr c41
                        have c41b1 : ((bt a0 0) != 62) = true := bne_iff_ne.mpr c41
                        by_cases c44 : (bt a0 0) = 43
                        · rw [if_pos c44] at H
                          have c44b0 : ((bt a0 0) == 43) = true := beq_iff_eq.mpr c44
                          have c44b1 : ((bt a0 0) != 43) = false := bne_eq_false_iff_eq.mpr c44
                          clear c44
                          by_cases c45 : 0 ≤ 1
                          · rw [if_pos c45] at H
                            have c45b0 := eq_true c45
                            have c45b1 : decide (0 ≤ 1) = true := decide_eq_true c45
                            clear c45
                            by_cases c46 : 1 ≤ (a0.size : Int)
                            · rw [if_pos c46] at H
                              have c46b0 := eq_true c46
                              have c46b1 : decide (1 ≤ (a0.size : Int)) = true := decide_eq_true c46
                              clear c46
                              obtain rfl := Option.some.inj H
                              have p19 : 0 ≤ (0 : Int) := (by omega)
                              have q19 : 0 < a0.size := (by have : (0 : Int) < (a0.size : Int) := of_decide_eq_true (by first | (with_reducible assumption) | assumption); omega)
                              have hx19 : ∀ h : 0 < a0.size, ((a0[0]'h).toNat : Int) = bt a0 0 := bt_at a0 0
                              clear p19
                              have qi19 : (0 < (a0.size : Int)) = True := eq_true (of_decide_eq_true (by first | (with_reducible assumption) | assumption))
                              replace q19 := eq_true q19
                              go_wp2
                              go_ret
                              exact ⟨by first | rfl | (simp; done) | (simp [*]; done), by repeat (first | exact Drawn0.refl _ | apply Drawn0.step)⟩
                            · rw [if_neg c46] at H
                              exact absurd H (by simp)
                          · rw [if_neg c45] at H
                            exact absurd H (by simp)
                        · rw [if_neg c44] at H
                          have c44b0 : ((bt a0 0) == 43) = false := beq_eq_false_iff_ne.mpr c44
                          have c44b1 : ((bt a0 0) != 43) = true := bne_iff_ne.mpr c44
                          by_cases c47 : (bt a0 0) = 45
                          · rw [if_pos c47] at H
                            have c47b0 : ((bt a0 0) == 45) = true := beq_iff_eq.mpr c47
                            have c47b1 : ((bt a0 0) != 45) = false := bne_eq_false_iff_eq.mpr c47
                            clear c47
                            by_cases c48 : 0 ≤ 1
                            · rw [if_pos c48] at H
                              have c48b0 := eq_true c48
                              have c48b1 : decide (0 ≤ 1) = true := decide_eq_true c48
                              clear c48
                              by_cases c49 : 1 ≤ (a0.size : Int)
                              · rw [if_pos c49] at H
                                have c49b0 := eq_true c49
                                have c49b1 : decide (1 ≤ (a0.size : Int)) = true := decide_eq_true c49
                                clear c49
                                obtain rfl := Option.some.inj H
                                have p19 : 0 ≤ (0 : Int) := (by omega)
                                have q19 : 0 < a0.size := (by have : (0 : Int) < (a0.size : Int) := of_decide_eq_true (by first | (with_reducible assumption) | assumption); omega)
                                have hx19 : ∀ h : 0 < a0.size, ((a0[0]'h).toNat : Int) = bt a0 0 := bt_at a0 0
                                clear p19
                                have qi19 : (0 < (a0.size : Int)) = True := eq_true (of_decide_eq_true (by first | (with_reducible assumption) | assumption))
                                replace q19 := eq_true q19
                                go_wp2
                                go_ret
                                exact ⟨by first | rfl | (simp; done) | (simp [*]; done), by repeat (first | exact Drawn0.refl _ | apply Drawn0.step)⟩
                              · rw [if_neg c49] at H
                                exact absurd H (by simp)
                            · rw [if_neg c48] at H
                              exact absurd H (by simp)
                          · rw [if_neg c47] at H
                            have c47b0 : ((bt a0 0) == 45) = false := beq_eq_false_iff_ne.mpr c47
                            have c47b1 : ((bt a0 0) != 45) = true := bne_iff_ne.mpr c47
                            by_cases c50 : (bt a0 0) = 47
                            · rw [if_pos c50] at H
                              have c50b0 : ((bt a0 0) == 47) = true := beq_iff_eq.mpr c50
                              have c50b1 : ((bt a0 0) != 47) = false := bne_eq_false_iff_eq.mpr c50
                              clear c50
                              by_cases c51 : 0 ≤ 1
                              · rw [if_pos c51] at H
                                have c51b0 := eq_true c51
                                have c51b1 : decide (0 ≤ 1) = true := decide_eq_true c51
                                clear c51
                                by_cases c52 : 1 ≤ (a0.size : Int)
                                · rw [if_pos c52] at H
                                  have c52b0 := eq_true c52
                                  have c52b1 : decide (1 ≤ (a0.size : Int)) = true := decide_eq_true c52
                                  clear c52
                                  obtain rfl := Option.some.inj H
                                  have p19 : 0 ≤ (0 : Int) := (by omega)
                                  have q19 : 0 < a0.size := (by have : (0 : Int) < (a0.size : Int) := of_decide_eq_true (by first | (with_reducible assumption) | assumption); omega)
                                  have hx19 : ∀ h : 0 < a0.size, ((a0[0]'h).toNat : Int) = bt a0 0 := bt_at a0 0
                                  clear p19
                                  have qi19 : (0 < (a0.size : Int)) = True := eq_true (of_decide_eq_true (by first | (with_reducible assumption) | assumption))
                                  replace q19 := eq_true q19
                                  go_wp2
                                  go_ret
                                  exact ⟨by first | rfl | (simp; done) | (simp [*]; done), by repeat (first | exact Drawn0.refl _ | apply Drawn0.step)⟩
                                · rw [if_neg c52] at H
                                  exact absurd H (by simp)
                              · rw [if_neg c51] at H
                                exact absurd H (by simp)
                            · rw [if_neg c50] at H
                              have c50b0 : ((bt a0 0) == 47) = false := beq_eq_false_iff_ne.mpr c50
                              have c50b1 : ((bt a0 0) != 47) = true := bne_iff_ne.mpr c50
                              by_cases c53 : (bt a0 0) = 37
                              · rw [if_pos c53] at H
                                have c53b0 : ((bt a0 0) == 37) = true := beq_iff_eq.mpr c53
                                have c53b1 : ((bt a0 0) != 37) = false := bne_eq_false_iff_eq.mpr c53
                                clear c53
                                by_cases c54 : 0 ≤ 1
                                · rw [if_pos c54] at H
                                  have c54b0 := eq_true c54
                                  have c54b1 : decide (0 ≤ 1) = true := decide_eq_true c54
                                  clear c54
                                  by_cases c55 : 1 ≤ (a0.size : Int)
                                  · rw [if_pos c55] at H
                                    have c55b0 := eq_true c55
                                    have c55b1 : decide (1 ≤ (a0.size : Int)) = true := decide_eq_true c55
                                    clear c55
                                    obtain rfl := Option.some.inj H
                                    have p19 : 0 ≤ (0 : Int) := (by omega)
                                    have q19 : 0 < a0.size := (by have : (0 : Int) < (a0.size : Int) := of_decide_eq_true (by first | (with_reducible assumption) | assumption); omega)
                                    have hx19 : ∀ h : 0 < a0.size, ((a0[0]'h).toNat : Int) = bt a0 0 := bt_at a0 0
                                    clear p19
                                    have qi19 : (0 < (a0.size : Int)) = True := eq_true (of_decide_eq_true (by first | (with_reducible assumption) | assumption))
                                    replace q19 := eq_true q19
                                    go_wp2
                                    go_ret
                                    exact ⟨by first | rfl | (simp; done) | (simp [*]; done), by repeat (first | exact Drawn0.refl _ | apply Drawn0.step)⟩
                                  · rw [if_neg c55] at H
                                    exact absurd H (by simp)
                                · rw [if_neg c54] at H
                                  exact absurd H (by simp)
                              · rw [if_neg c53] at H
                                have c53b0 : ((bt a0 0) == 37) = false := beq_eq_false_iff_ne.mpr c53
                                have c53b1 : ((bt a0 0) != 37) = true := bne_iff_ne.mpr c53
                                by_cases c56 : (bt a0 0) = 59
                                · rw [if_pos c56] at H
                                  have c56b0 : ((bt a0 0) == 59) = true := beq_iff_eq.mpr c56
                                  have c56b1 : ((bt a0 0) != 59) = false := bne_eq_false_iff_eq.mpr c56
                                  clear c56
                                  by_cases c57 : 0 ≤ 1
                                  · rw [if_pos c57] at H
                                    have c57b0 := eq_true c57
                                    have c57b1 : decide (0 ≤ 1) = true := decide_eq_true c57
                                    clear c57
                                    by_cases c58 : 1 ≤ (a0.size : Int)
                                    · rw [if_pos c58] at H
                                      have c58b0 := eq_true c58
                                      have c58b1 : decide (1 ≤ (a0.size : Int)) = true := decide_eq_true c58
                                      clear c58
                                      obtain rfl := Option.some.inj H
                                      have p19 : 0 ≤ (0 : Int) := (by omega)
                                      have q19 : 0 < a0.size := (by have : (0 : Int) < (a0.size : Int) := of_decide_eq_true (by first | (with_reducible assumption) | assumption); omega)
                                      have hx19 : ∀ h : 0 < a0.size, ((a0[0]'h).toNat : Int) = bt a0 0 := bt_at a0 0
                                      clear p19
                                      have qi19 : (0 < (a0.size : Int)) = True := eq_true (of_decide_eq_true (by first | (with_reducible assumption) | assumption))
                                      replace q19 := eq_true q19
                                      go_wp2
                                      go_ret
                                      exact ⟨by first | rfl | (simp; done) | (simp [*]; done), by repeat (first | exact Drawn0.refl _ | apply Drawn0.step)⟩
                                    · rw [if_neg c58] at H
                                      exact absurd H (by simp)
                                  · rw [if_neg c57] at H
                                    exact absurd H (by simp)
                                · rw [if_neg c56] at H
                                  have c56b0 : ((bt a0 0) == 59) = false := beq_eq_false_iff_ne.mpr c56
                                  have c56b1 : ((bt a0 0) != 59) = true := bne_iff_ne.mpr c56
                                  obtain rfl := Option.some.inj H
                                  have p19 : 0 ≤ (0 : Int) := (by omega)
                                  have q19 : 0 < a0.size := (by have : (0 : Int) < (a0.size : Int) := of_decide_eq_true (by first | (with_reducible assumption) | assumption); omega)
                                  have hx19 : ∀ h : 0 < a0.size, ((a0[0]'h).toNat : Int) = bt a0 0 := bt_at a0 0
                                  clear p19
                                  have qi19 : (0 < (a0.size : Int)) = True := eq_true (of_decide_eq_true (by first | (with_reducible assumption) | assumption))
                                  replace q19 := eq_true q19
                                  go_wp2
                                  go_ret
                                  exact ⟨by first | rfl | (simp; done) | (simp [*]; done), by repeat (first | exact Drawn0.refl _ | apply Drawn0.step)⟩
      · rw [if_neg c18] at H
        exact absurd H (by simp)

end Go.Proofs.YtcefmhofidoloaaGreatDoor.Psymbol
