/- text: a quoted text. -/
import Derived.Test.YtcefmhofidoloaaGreatDoorLx1
import Derived.Test.YtcefmhofidoloaaGreatDoorBld
set_option linter.unusedVariables false
set_option linter.unusedSimpArgs false
namespace Go.Proofs.YtcefmhofidoloaaGreatDoor.Lex
open Go.RowKit Go.Proofs.YtcefmhofidoloaaGreatDoor.Base Go.Proofs.YtcefmhofidoloaaGreatDoor.App Go.Proofs.YtcefmhofidoloaaGreatDoor.Byt

theorem textP_q0 : textP [39] = some ([], 1) := by rw [textP.eq_def]; rfl
theorem textP_q1 {d : UInt8} (h : d ≠ 39) (r : List UInt8) : textP (39 :: d :: r) = some ([], 1) := by rw [textP.eq_def]; simp [h]
theorem textP_q2 (r : List UInt8) : textP (39 :: 39 :: r) = (textP r).map (fun x => (39 :: x.1, x.2 + 2)) := by rw [textP.eq_def]; rfl
theorem textP_c {c : UInt8} (h : c ≠ 39) (r : List UInt8) : textP (c :: r) = (textP r).map (fun x => (c :: x.1, x.2 + 1)) := by rw [textP.eq_def]; simp [h]
theorem textP_nil : textP [] = none := by rw [textP.eq_def]
def textO (r : List UInt8) : List UInt8 × Nat := match textP r with | none => ([], 0) | some x => (x.1, x.2 + 1)

/-- What is read so far. -/
def TextSt (r : List UInt8) (l : List UInt8) (k : Nat) (q : List UInt8) : Prop := 1 ≤ k ∧ textP r = (textP q).map (fun x => (l ++ x.1, x.2 + (k - 1)))
theorem TextSt.done {r l q : List UInt8} {k : Nat} (h : TextSt r l k q) (hq : textP q = some ([], 1)) : textO r = (l, k + 1) := by
  have h1 := h.1
  rw [textO, h.2, hq]
  simp
  omega
theorem TextSt.none {r l : List UInt8} {k : Nat} (h : TextSt r l k []) : textO r = ([], 0) := by
  rw [textO, h.2, textP_nil]; rfl
theorem TextSt.step {r l q : List UInt8} {k : Nat} {c : UInt8} (h : TextSt r l k (c :: q)) (hc : c ≠ 39) : TextSt r (l ++ [c]) (k + 1) q := by
  refine ⟨by omega, ?_⟩
  have h1 := h.1
  rw [h.2, textP_c hc, Option.map_map]
  congr 1
  funext x
  simp
  omega
theorem TextSt.two {r l q : List UInt8} {k : Nat} (h : TextSt r l k (39 :: 39 :: q)) : TextSt r (l ++ [39]) (k + 2) q := by
  refine ⟨by omega, ?_⟩
  have h1 := h.1
  rw [h.2, textP_q2, Option.map_map]
  congr 1
  funext x
  simp
  omega

set_option maxRecDepth 100000 in
set_option maxHeartbeats 3200000 in
theorem text_calls (s : ByteArray) (w : World) (h1 : 1 ≤ s.size) (hs : s.size ≤ 1048576) :
    Calls Tryz.prog 113 #[.string s] w fun e w' => e = .returned (.tuple #[.string ⟨(textO (s.data.toList.drop 1)).1.toArray⟩, .int .i64 ((textO (s.data.toList.drop 1)).2 : Nat)]) ∧ Below w.heap.size w w' := by
  have HBF := Asd.mk (bld_fresh w)
  have HB2 : Asd (Below w.heap.size w (w.alloc (.cells #[.pointer none, .slice none 0 0] 149))) := Asd.mk (below_alloc (Below.refl _ w) _)
  have HL2 : Asd (w.heap.size ≤ (w.alloc (.cells #[.pointer none, .slice none 0 0] 149)).heap.size) := Asd.mk (by simp)
  have HLN : Asd (s.data.toList.length = s.size) := Asd.mk rfl
  go_enter Tryz.func113, Tryz.ntmps113
  go_upto_region 2 with fail
  generalize w.alloc (.cells #[.pointer none, .slice none 0 0] 149) = w2 at HBF HB2 HL2 ⊢
  generalize hb : w.heap.size = b at HBF HL2 HB2 ⊢
  have HBW := Asd.mk hb
  clear hb
  go_wp2
  go_loopw [5] (fun i wr => ∃ (k : Nat) (l : List UInt8), k ≤ s.size ∧ l.length ≤ k ∧ i = .int .i64 (k : Int) ∧ Asd (TextSt (s.data.toList.drop 1) l k (s.data.toList.drop k)) ∧ Asd (Lib.IsBuilder 149 5 b b (Lib.byteCells l) wr) ∧ Asd (Below b w2 wr)) (fun i _ => s.size - (intOf i).toNat)
  case atStart => exact ⟨1, [], h1, by simp, rfl, ⟨⟨Nat.le_refl _, by simp⟩⟩, HBF, ⟨Below.refl _ _⟩⟩
  case round =>
    obtain ⟨k, l, hk, hl, rfl, HT, HBD, HBR⟩ := hrel
    by_cases hlt : k < s.size
    · have HD := Asd.mk (drop_cons s k hlt)
      rw [HD.out] at HT
      have hc := s[k].toNat_lt
      by_cases h39 : s[k].toNat = 39
      · have h39' : s[k] = 39 := UInt8.toNat_inj.mp h39
        rw [h39'] at HT
        by_cases hlast : k + 1 = s.size
        · have HO : Asd (textO (s.data.toList.drop 1) = (l, s.size)) := Asd.mk (by
            rw [HT.out.done (by rw [List.drop_of_length_le (by rw [HLN.out]; omega)]; exact textP_q0), hlast])
          go_wp2_with fail
          refine (Tryz.Builder_String_any b b _ wr HBD.out (by have := HL2.out; have := HBR.out.size; omega)).mono ?_
          rintro e w5 ⟨rfl, hb5⟩
          have HBE : Asd (Below b w w5) := Asd.mk (HB2.out.trans (HBR.out.trans hb5))
          clear hb5
          go_wp2
          refine bodyPost_ret (results_tmp2 rfl _ _ _) rfl ?_
          exact ⟨ret_eq (by rw [HO.out]; rfl), by rw [HBW.out]; exact HBE.out⟩
        · have hlt2 : k + 1 < s.size := by omega
          have HD2 := Asd.mk (drop_cons s (k + 1) hlt2)
          rw [HD2.out] at HT
          have hd := s[k + 1].toNat_lt
          by_cases h39d : s[k + 1].toNat = 39
          · have h39d' : s[k + 1] = 39 := UInt8.toNat_inj.mp h39d
            rw [h39d'] at HT
            have HT2 := Asd.mk HT.out.two
            clear HT h39d' h39'
            go_wp2_with fail
            refine (Tryz.Builder_WriteByte b b _ _ wr HBD.out (by rw [byteCells_len]; omega) (by have := HL2.out; have := HBR.out.size; omega)).mono ?_
            rintro e w4 ⟨rfl, hbd, hb4⟩
            rw [show Lib.byteCells l ++ [Value.int .u8 39] = Lib.byteCells (l ++ [39]) by rw [byteCells_snoc]; rfl] at hbd
            have HBD4 := Asd.mk hbd
            have HB4 : Asd (Below b w2 w4) := Asd.mk (HBR.out.trans hb4)
            clear hbd hb4
            go_wp2
            go_roundw
            case rel => exact ⟨k + 2, l ++ [39], by omega, by simp; omega, by go_num, HT2, ⟨.inr HBD4.out⟩, HB4⟩
            case measure => simp [intOf]; omega
          · have HO : Asd (textO (s.data.toList.drop 1) = (l, k + 1)) := Asd.mk (HT.out.done (textP_q1 (fun h => h39d (by rw [h]; rfl)) _))
            go_wp2_with fail
            rotate_left
            · exfalso
              have := (‹((k : Int) + 1 == (s.size : Int)) = false ∧ ((s[k + 1].toNat : Int) != 39) = false›).2
              simp at this
              omega
            refine (Tryz.Builder_String_any b b _ wr HBD.out (by have := HL2.out; have := HBR.out.size; omega)).mono ?_
            rintro e w5 ⟨rfl, hb5⟩
            have HBE : Asd (Below b w w5) := Asd.mk (HB2.out.trans (HBR.out.trans hb5))
            clear hb5
            go_wp2
            refine bodyPost_ret (results_tmp2 rfl _ _ _) rfl ?_
            exact ⟨ret_eq (by rw [HO.out]; rfl), by rw [HBW.out]; exact HBE.out⟩
      · have HT2 := Asd.mk (HT.out.step (fun h => h39 (by rw [h]; rfl)))
        clear HT
        go_wp2_with fail
        refine (Tryz.Builder_WriteByte b b _ _ wr HBD.out (by rw [byteCells_len]; omega) (by have := HL2.out; have := HBR.out.size; omega)).mono ?_
        rintro e w4 ⟨rfl, hbd, hb4⟩
        rw [← byteCells_snoc] at hbd
        have HBD4 := Asd.mk hbd
        have HB4 : Asd (Below b w2 w4) := Asd.mk (HBR.out.trans hb4)
        clear hbd hb4
        go_wp2
        go_roundw
        case rel => exact ⟨k + 1, _, by omega, by simp; omega, by go_num, HT2, ⟨.inr HBD4.out⟩, HB4⟩
        case measure => simp [intOf]; omega
    · obtain rfl : k = s.size := by omega
      have HO : Asd (textO (s.data.toList.drop 1) = ([], 0)) := Asd.mk (TextSt.none (l := l) (k := s.size) (by
        have := HT.out
        rw [List.drop_of_length_le (Nat.le_of_eq HLN.out)] at this
        exact this))
      have HBE : Asd (Below b w wr) := Asd.mk (HB2.out.trans HBR.out)
      clear hlt
      go_wp2
      refine bodyPost_ret (results_tmp2 rfl _ _ _) rfl ?_
      exact ⟨ret_eq (by rw [HO.out]; rfl), by rw [HBW.out]; exact HBE.out⟩
end Go.Proofs.YtcefmhofidoloaaGreatDoor.Lex
