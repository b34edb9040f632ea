/- symbol. -/
import Derived.Test.YtcefmhofidoloaaGreatDoorLx1
set_option linter.unusedVariables false
set_option linter.unusedSimpArgs false
namespace Go.Proofs.YtcefmhofidoloaaGreatDoor.Lex
open Go.RowKit Go.Proofs.YtcefmhofidoloaaGreatDoor.Base Go.Proofs.YtcefmhofidoloaaGreatDoor.App Go.Proofs.YtcefmhofidoloaaGreatDoor.Byt

theorem pre2 (l : List UInt8) (a b : UInt8) : Lib.hasPrefix l [a, b] = true ↔ ∃ r, l = a :: b :: r := by
  unfold Lib.hasPrefix
  match l with
  | [] => simp [List.isPrefixOf]
  | [x] => simp [List.isPrefixOf]
  | x :: y :: r =>
    simp [List.isPrefixOf]
    constructor
    · rintro ⟨rfl, rfl⟩; exact ⟨rfl, rfl⟩
    · rintro ⟨rfl, rfl⟩; exact ⟨rfl, rfl⟩
theorem symP_two {l : List UInt8} {a b : UInt8} (h : Lib.hasPrefix l [a, b] = true) (hab : (a, b) ∈ [((60 : UInt8), (62 : UInt8)), (60, 61), (62, 61), (124, 124)]) : symP l = 2 := by
  obtain ⟨r, rfl⟩ := (pre2 l a b).mp h
  simp only [List.mem_cons, List.not_mem_nil, or_false, Prod.mk.injEq] at hab
  rw [symP, if_pos]
  simp only [List.head?_cons, Option.some.injEq]
  exact hab
def symBytes : List UInt8 := [40, 41, 44, 46, 42, 61, 60, 62, 43, 45, 47, 37, 59]
theorem indexByte_nn : ∀ (l : List UInt8) (c : UInt8), 0 ≤ Lib.indexByte l c ↔ c ∈ l
  | [], c => by simp [Lib.indexByte]
  | b :: l, c => by
    have ih := indexByte_nn l c
    have h1 := Lib.indexByte_ge l c
    unfold Lib.indexByte
    split
    · rename_i h
      have : b = c := by simpa using h
      simp [this]
    · rename_i h
      have hne : ¬ c = b := fun e => h (by simp [e])
      simp only [List.mem_cons, hne, false_or]
      split
      · rename_i h2
        have h3 : Lib.indexByte l c = -1 := by simpa using h2
        rw [← ih, h3]
        try decide
      · rename_i h2
        have h3 : ¬ Lib.indexByte l c = -1 := by simpa using h2
        rw [← ih]
        constructor <;> intro <;> omega
theorem symP_else {l : List UInt8} {c : UInt8} {r : List UInt8} (hl : l = c :: r) (h0 : Lib.hasPrefix l [60, 62] = false) (h1 : Lib.hasPrefix l [60, 61] = false) (h2 : Lib.hasPrefix l [62, 61] = false) (h3 : Lib.hasPrefix l [124, 124] = false) : symP l = if (0 : Int) ≤ Lib.indexByte symBytes c then 1 else 0 := by
  subst hl
  have hh : ∀ a b : UInt8, Lib.hasPrefix (c :: r) [a, b] = false → ¬ (c = a ∧ r.head? = some b) := by
    rintro a b h ⟨rfl, h'⟩
    have : Lib.hasPrefix (c :: r) [c, b] = true := (pre2 _ _ _).mpr (by
      cases r with
      | nil => cases h'
      | cons d r => simp at h'; subst h'; exact ⟨r, rfl⟩)
    rw [h] at this
    cases this
  rw [symP, if_neg]
  · by_cases hm : c ∈ symBytes
    · rw [if_pos (by exact hm), if_pos ((indexByte_nn _ _).mpr hm)]
    · rw [if_neg (by exact hm), if_neg (fun h => hm ((indexByte_nn _ _).mp h))]
  · rintro (h | h | h | h)
    · exact hh _ _ h0 h
    · exact hh _ _ h1 h
    · exact hh _ _ h2 h
    · exact hh _ _ h3 h

set_option maxRecDepth 100000 in
set_option maxHeartbeats 3200000 in
theorem symbol_calls (s : ByteArray) (w : World) (h1 : 1 ≤ s.size) (hs : s.size ≤ 1048576) :
    Calls Tryz.prog 114 #[.string s] w fun e w' => e = .returned (.int .i64 (symP s.data.toList : Nat)) ∧ w' = w := by
  have HD0 := Asd.mk (drop_cons s 0 h1)
  have HT : Asd (∀ a b : UInt8, Lib.hasPrefix s.data.toList [a, b] = true → (a, b) ∈ [((60 : UInt8), (62 : UInt8)), (60, 61), (62, 61), (124, 124)] → symP s.data.toList = 2) := Asd.mk fun a b h => symP_two h
  have HE : Asd (Lib.hasPrefix s.data.toList [60, 62] = false → Lib.hasPrefix s.data.toList [60, 61] = false → Lib.hasPrefix s.data.toList [62, 61] = false → Lib.hasPrefix s.data.toList [124, 124] = false → symP s.data.toList = if (0 : Int) ≤ Lib.indexByte symBytes s[0] then 1 else 0) := Asd.mk (symP_else (by simpa using HD0.out))
  have hc := s[0].toNat_lt
  clear HD0
  have i0 : ∀ w, (Instr.index 208 (.agg #[.string ⟨#[60, 62]⟩, .string ⟨#[60, 61]⟩, .string ⟨#[62, 61]⟩, .string ⟨#[124, 124]⟩]) (.int .i64 0)).run Tryz.prog w = .ok (.string ⟨#[60, 62]⟩) w := fun _ => by kernel_rfl
  have i1 : ∀ w, (Instr.index 208 (.agg #[.string ⟨#[60, 62]⟩, .string ⟨#[60, 61]⟩, .string ⟨#[62, 61]⟩, .string ⟨#[124, 124]⟩]) (.int .i64 1)).run Tryz.prog w = .ok (.string ⟨#[60, 61]⟩) w := fun _ => by kernel_rfl
  have i2 : ∀ w, (Instr.index 208 (.agg #[.string ⟨#[60, 62]⟩, .string ⟨#[60, 61]⟩, .string ⟨#[62, 61]⟩, .string ⟨#[124, 124]⟩]) (.int .i64 2)).run Tryz.prog w = .ok (.string ⟨#[62, 61]⟩) w := fun _ => by kernel_rfl
  have i3 : ∀ w, (Instr.index 208 (.agg #[.string ⟨#[60, 62]⟩, .string ⟨#[60, 61]⟩, .string ⟨#[62, 61]⟩, .string ⟨#[124, 124]⟩]) (.int .i64 3)).run Tryz.prog w = .ok (.string ⟨#[124, 124]⟩) w := fun _ => by kernel_rfl
  go_enter Tryz.func114, Tryz.ntmps114
  go_wp2
  go_loopw [6] (fun v wr => ∃ k : Nat, k ≤ 4 ∧ v = .int .i64 (k : Int) ∧ Asd (0 < k → Lib.hasPrefix s.data.toList [60, 62] = false) ∧ Asd (1 < k → Lib.hasPrefix s.data.toList [60, 61] = false) ∧ Asd (2 < k → Lib.hasPrefix s.data.toList [62, 61] = false) ∧ Asd (3 < k → Lib.hasPrefix s.data.toList [124, 124] = false) ∧ wr = w) (fun v _ => 4 - (intOf v).toNat)
  case atStart => exact ⟨0, by omega, rfl, ⟨fun h => absurd h (by omega)⟩, ⟨fun h => absurd h (by omega)⟩, ⟨fun h => absurd h (by omega)⟩, ⟨fun h => absurd h (by omega)⟩, by first | trivial | rfl⟩
  case round =>
    obtain ⟨k, hk, rfl, HK0, HK1, HK2, HK3, rfl⟩ := hrel
    obtain rfl | rfl | rfl | rfl | rfl : k = 0 ∨ k = 1 ∨ k = 2 ∨ k = 3 ∨ k = 4 := by omega
    · go_wp2_with fail
      refine (Tryz.strings_HasPrefix s ⟨#[60, 62]⟩ _).mono ?_
      rintro e w' ⟨rfl, rfl⟩
      rw [show (⟨#[60, 62]⟩ : ByteArray).data.toList = [60, 62] from rfl]
      cases hp : Lib.hasPrefix s.data.toList [60, 62] with
      | true =>
        have HO := Asd.mk (HT.out 60 62 hp (by decide))
        clear hp
        go_wp2
        go_ret
        exact ⟨ret_eq (by rw [HO.out]; rfl), rfl⟩
      | false =>
        have HP := Asd.mk hp
        clear hp
        go_wp2
        go_roundw
        case rel => exact ⟨1, by omega, by first | rfl | go_num, ⟨fun _ => HP.out⟩, ⟨fun _ => absurd ‹_› (by omega)⟩, ⟨fun _ => absurd ‹_› (by omega)⟩, ⟨fun _ => absurd ‹_› (by omega)⟩, by first | trivial | rfl⟩
        case measure => simp [intOf]
    · go_wp2_with fail
      refine (Tryz.strings_HasPrefix s ⟨#[60, 61]⟩ _).mono ?_
      rintro e w' ⟨rfl, rfl⟩
      rw [show (⟨#[60, 61]⟩ : ByteArray).data.toList = [60, 61] from rfl]
      cases hp : Lib.hasPrefix s.data.toList [60, 61] with
      | true =>
        have HO := Asd.mk (HT.out 60 61 hp (by decide))
        clear hp
        go_wp2
        go_ret
        exact ⟨ret_eq (by rw [HO.out]; rfl), rfl⟩
      | false =>
        have HP := Asd.mk hp
        clear hp
        go_wp2
        go_roundw
        case rel => exact ⟨2, by omega, by first | rfl | go_num, ⟨fun _ => HK0.out (by omega)⟩, ⟨fun _ => HP.out⟩, ⟨fun _ => absurd ‹_› (by omega)⟩, ⟨fun _ => absurd ‹_› (by omega)⟩, by first | trivial | rfl⟩
        case measure => simp [intOf]
    · go_wp2_with fail
      refine (Tryz.strings_HasPrefix s ⟨#[62, 61]⟩ _).mono ?_
      rintro e w' ⟨rfl, rfl⟩
      rw [show (⟨#[62, 61]⟩ : ByteArray).data.toList = [62, 61] from rfl]
      cases hp : Lib.hasPrefix s.data.toList [62, 61] with
      | true =>
        have HO := Asd.mk (HT.out 62 61 hp (by decide))
        clear hp
        go_wp2
        go_ret
        exact ⟨ret_eq (by rw [HO.out]; rfl), rfl⟩
      | false =>
        have HP := Asd.mk hp
        clear hp
        go_wp2
        go_roundw
        case rel => exact ⟨3, by omega, by first | rfl | go_num, ⟨fun _ => HK0.out (by omega)⟩, ⟨fun _ => HK1.out (by omega)⟩, ⟨fun _ => HP.out⟩, ⟨fun _ => absurd ‹_› (by omega)⟩, by first | trivial | rfl⟩
        case measure => simp [intOf]
    · go_wp2_with fail
      refine (Tryz.strings_HasPrefix s ⟨#[124, 124]⟩ _).mono ?_
      rintro e w' ⟨rfl, rfl⟩
      rw [show (⟨#[124, 124]⟩ : ByteArray).data.toList = [124, 124] from rfl]
      cases hp : Lib.hasPrefix s.data.toList [124, 124] with
      | true =>
        have HO := Asd.mk (HT.out 124 124 hp (by decide))
        clear hp
        go_wp2
        go_ret
        exact ⟨ret_eq (by rw [HO.out]; rfl), rfl⟩
      | false =>
        have HP := Asd.mk hp
        clear hp
        go_wp2
        go_roundw
        case rel => exact ⟨4, by omega, by first | rfl | go_num, ⟨fun _ => HK0.out (by omega)⟩, ⟨fun _ => HK1.out (by omega)⟩, ⟨fun _ => HK2.out (by omega)⟩, ⟨fun _ => HP.out⟩, by first | trivial | rfl⟩
        case measure => simp [intOf]
    · have HO := Asd.mk (HE.out (HK0.out (by omega)) (HK1.out (by omega)) (HK2.out (by omega)) (HK3.out (by omega)))
      go_wp2_with fail
      refine (Tryz.strings_IndexByte ⟨#[40, 41, 44, 46, 42, 61, 60, 62, 43, 45, 47, 37, 59]⟩ (s[0].toNat : Int) _).mono ?_
      rintro e w' ⟨rfl, rfl⟩
      rw [show ((s[0].toNat : Int).toNat.toUInt8) = s[0] by simp, show (⟨#[40, 41, 44, 46, 42, 61, 60, 62, 43, 45, 47, 37, 59]⟩ : ByteArray).data.toList = symBytes from rfl]
      generalize Lib.indexByte symBytes s[0] = ix at HO
      by_cases h0 : 0 ≤ ix
      · have HO2 : Asd (symP s.data.toList = 1) := Asd.mk (by rw [HO.out]; exact if_pos h0)
        go_wp2
        go_ret
        exact ⟨ret_eq (by rw [HO2.out]; rfl), rfl⟩
      · have HO2 : Asd (symP s.data.toList = 0) := Asd.mk (by rw [HO.out]; exact if_neg h0)
        go_wp2
        go_ret
        exact ⟨ret_eq (by rw [HO2.out]; rfl), rfl⟩
end Go.Proofs.YtcefmhofidoloaaGreatDoor.Lex
