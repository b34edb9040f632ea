/- How the program and the reference write a text, and a blob. -/
import Derived.Test.YtcefmhofidoloaaGreatDoorVal
import Derived.Test.YtcefmhofidoloaaGreatDoorLitp
import Derived.Test.YtcefmhofidoloaaGreatDoorBld
import Derived.Test.YtcefmhofidoloaaGreatDoorApp
set_option linter.unusedVariables false
set_option linter.unusedSimpArgs false
namespace Go.Proofs.YtcefmhofidoloaaGreatDoor.Lex
open Go.RowKit Go.Proofs.YtcefmhofidoloaaGreatDoor.Base Go.Proofs.YtcefmhofidoloaaGreatDoor.App

theorem shaped_below {w w' : World} (h : w.ShapedOpen Tryz.prog) (hb : Below w.heap.size w w') : w'.ShapedOpen Tryz.prog := h.keptBut (hb.frame (fun _ => False)) (fun _ h => h.elim)
def litText (s : List UInt8) : List UInt8 := 39 :: (quotes s ++ [39])
def hexB (n : Nat) : UInt8 := if n < 10 then UInt8.ofNat (48 + n) else UInt8.ofNat (55 + n)
def hexs (l : List UInt8) : List UInt8 := l.flatMap fun c => [hexB (c.toNat / 16), hexB (c.toNat % 16)]
def litBlob (s : List UInt8) : List UInt8 := 88 :: 39 :: (hexs s ++ [39])

theorem count_small (s : ByteArray) : Lib.countB s ⟨#[39]⟩ ≤ s.size := by
  show Lib.count s.data.toList [39] ≤ _
  rw [Lib.count_one]
  exact List.count_le_length

set_option maxRecDepth 100000 in
set_option maxHeartbeats 1600000 in
theorem lit_text (s : ByteArray) (w : World) (hs : s.size ≤ 1048576) (hsh : w.ShapedOpen Tryz.prog) :
    Calls Tryz.prog 57 #[.agg #[.int .i64 3, .int .i64 0, .string s]] w fun e w' => e = .returned (.string ⟨(litText s.data.toList).toArray⟩) ∧ Below w.heap.size w w' := by
  have HSH := Asd.mk hsh
  have HQ := Asd.mk (replace_quotes s.data.toList)
  have HC := Asd.mk (count_small s)
  clear hsh
  go_enter Tryz.func57, Tryz.ntmps57
  go_wp2_with fail
  refine (vcheck_calls 3 (.inl rfl) s _).mono ?_
  rintro e w1 ⟨rfl, hb1⟩
  have HB0 := Asd.mk (below_alloc (Below.refl _ w) (.cells #[.int .i64 3, .int .i64 0, .string s] 56))
  have HX := Asd.mk (blk_below hb1 (blk_new w (.cells #[.int .i64 3, .int .i64 0, .string s] 56)))
  have HB1 : Asd (Below w.heap.size w w1) := Asd.mk (below_step HB0.out hb1)
  have HSH1 := Asd.mk (shaped_below HSH.out HB1.out)
  have x0 := (blk_cell HX.out 0).trans rfl
  have x1 := (blk_cell HX.out 1).trans rfl
  have x2 := (blk_cell HX.out 2).trans rfl
  clear hb1
  go_wp2_with fail
  refine (Tryz.strings_ReplaceAll_shaped s ⟨#[39]⟩ ⟨#[39, 39]⟩ _ HSH1.out (by omega) (by decide) (by have := HC.out; have e : (⟨#[39, 39]⟩ : ByteArray).size = 2 := rfl; rw [e]; omega)).mono ?_
  rintro e w2 ⟨rfl, hb2⟩
  have HB2 : Asd (Below w.heap.size w w2) := Asd.mk (below_step HB1.out hb2)
  clear hb2
  rw [show (⟨#[39]⟩ : ByteArray).data.toList = [39] from rfl, show (⟨#[39, 39]⟩ : ByteArray).data.toList = [39, 39] from rfl, HQ.out]
  have hql : (⟨(quotes s.data.toList).toArray⟩ : ByteArray).size ≤ 2097152 := by
    have h1 := quotes_len s.data.toList
    have h2 : s.data.toList.length = s.size := rfl
    have h3 : (⟨(quotes s.data.toList).toArray⟩ : ByteArray).size = (quotes s.data.toList).length := by simp [ByteArray.size]
    omega
  have HE : Asd ((⟨#[39]⟩ : ByteArray) ++ ⟨(quotes s.data.toList).toArray⟩ ++ ⟨#[39]⟩ = ⟨(litText s.data.toList).toArray⟩) := Asd.mk (by
    rw [show (⟨#[39]⟩ : ByteArray) = ⟨[39].toArray⟩ from rfl, str_cat, str_cat]
    rfl)
  generalize (⟨(quotes s.data.toList).toArray⟩ : ByteArray) = qs at hql HE ⊢
  go_wp2
  go_ret
  exact ⟨ret_eq (by rw [← HE.out]; rfl), HB2.out⟩

theorem hexs_snoc (l : List UInt8) (c : UInt8) : hexs (l ++ [c]) = hexs l ++ [hexB (c.toNat / 16), hexB (c.toNat % 16)] := by simp [hexs]
theorem take_snoc (s : ByteArray) (k : Nat) (h : k < s.size) : s.data.toList.take (k + 1) = s.data.toList.take k ++ [s[k]] := by
  rw [List.take_succ_eq_append_getElem (by simpa using h)]; rfl
def hexDigits : ByteArray := ⟨#[48, 49, 50, 51, 52, 53, 54, 55, 56, 57, 65, 66, 67, 68, 69, 70]⟩
theorem hex_at : ∀ n : Nat, (h : n < 16) → (⟨#[48, 49, 50, 51, 52, 53, 54, 55, 56, 57, 65, 66, 67, 68, 69, 70]⟩ : ByteArray)[n]'(h) = hexB n
  | 0, _ => rfl | 1, _ => rfl | 2, _ => rfl | 3, _ => rfl | 4, _ => rfl | 5, _ => rfl | 6, _ => rfl | 7, _ => rfl
  | 8, _ => rfl | 9, _ => rfl | 10, _ => rfl | 11, _ => rfl | 12, _ => rfl | 13, _ => rfl | 14, _ => rfl | 15, _ => rfl
  | n + 16, h => absurd h (by omega)
theorem hexs_len (l : List UInt8) : (hexs l).length = 2 * l.length := by
  induction l with
  | nil => rfl
  | cons c l ih =>
    simp only [hexs, List.flatMap_cons, List.length_append, List.length_cons, List.length_nil] at ih ⊢
    omega
theorem byteCells_len (l : List UInt8) : (Lib.byteCells l).length = l.length := by simp [Lib.byteCells]
theorem byteCells_snoc (l : List UInt8) (c : UInt8) : Lib.byteCells (l ++ [c]) = Lib.byteCells l ++ [.int .u8 c.toNat] := by simp [Lib.byteCells]
theorem bld_fresh (w : World) : Lib.IsBuilder 149 5 w.heap.size w.heap.size [] (w.alloc (.cells #[.pointer none, .slice none 0 0] 149)) :=
  .inl ⟨Nat.le_refl _, .slice none 0 0, blk_new _ _, World.ownsRow_nil _ _ _ _, by simp [Value.ownBlock]⟩

set_option maxRecDepth 100000 in
set_option maxHeartbeats 1600000 in
theorem lit_blob (s : ByteArray) (w : World) (hs : s.size ≤ 1048576) :
    Calls Tryz.prog 57 #[.agg #[.int .i64 4, .int .i64 0, .string s]] w fun e w' => e = .returned (.string ⟨(litBlob s.data.toList).toArray⟩) ∧ Below w.heap.size w w' := by
  go_enter Tryz.func57, Tryz.ntmps57
  go_wp2_with fail
  refine (vcheck_calls 4 (.inr rfl) s _).mono ?_
  rintro e w1 ⟨rfl, hb1⟩
  have HB0 := Asd.mk (below_alloc (Below.refl _ w) (.cells #[.int .i64 4, .int .i64 0, .string s] 56))
  have HX := Asd.mk (blk_below hb1 (blk_new w (.cells #[.int .i64 4, .int .i64 0, .string s] 56)))
  have HB1 : Asd (Below w.heap.size w w1) := Asd.mk (below_step HB0.out hb1)
  have x0 := (blk_cell HX.out 0).trans rfl
  have HBF := Asd.mk (bld_fresh w1)
  have HB2 : Asd (Below w.heap.size w (w1.alloc (.cells #[.pointer none, .slice none 0 0] 149))) := Asd.mk (below_alloc HB1.out _)
  have HX2 := Asd.mk (blk_alloc HX.out (.cells #[.pointer none, .slice none 0 0] 149))
  have HL2 : Asd (w1.heap.size ≤ (w1.alloc (.cells #[.pointer none, .slice none 0 0] 149)).heap.size) := Asd.mk (by simp)
  clear hb1
  go_upto_region 14 with fail
  generalize w1.alloc (.cells #[.pointer none, .slice none 0 0] 149) = w2 at HBF HB2 HX2 HL2 ⊢
  generalize hb : w1.heap.size = b at HBF HL2 ⊢
  have HBW : Asd (w.heap.size < b) := Asd.mk (by have := blk_lt HX.out; omega)
  clear x0 hb
  go_wp2_with fail
  refine (Tryz.Builder_WriteString b b [] ⟨#[88, 39]⟩ w2 HBF.out (by decide) HL2.out).mono ?_
  rintro e w3 ⟨rfl, hbd, hb3⟩
  have HBD3 := Asd.mk hbd
  have HB3 := Asd.mk hb3
  have x2 := (blk_cell ((hb3.block w.heap.size (by have := HBW.out; omega)).trans HX2.out) 2).trans rfl
  clear hbd hb3
  go_wp2
  go_loopw [34] (fun i wr => ∃ k : Nat, k ≤ s.size ∧ i = .int .i64 (k : Int) ∧ Asd (Lib.BuilderAt 149 5 b b (.pointer (some ⟨b, 0, none⟩)) (Lib.byteCells (88 :: 39 :: hexs (s.data.toList.take k))) wr) ∧ Asd (Below b w2 wr)) (fun i _ => s.size - (intOf i).toNat)
  case atStart => exact ⟨0, by omega, rfl, ⟨HBD3.out⟩, ⟨HB3.out⟩⟩
  case round =>
    obtain ⟨k, hk, rfl, HBD, HBR⟩ := hrel
    have x2 := (blk_cell ((HBR.out.block w.heap.size (by have := HBW.out; omega)).trans HX2.out) 2).trans rfl
    by_cases hlt : k < s.size
    · have hc := s[k].toNat_lt
      generalize hck : s[k] = c at hc
      go_wp2_with fail
      have HLK := Asd.mk (hexs_len (s.data.toList.take k))
      have htk : (s.data.toList.take k).length ≤ k := by rw [List.length_take]; omega
      refine (Tryz.Builder_WriteByte b b _ _ wr (.inr HBD.out) (by rw [byteCells_len]; simp only [List.length_cons]; have := HLK.out; omega) (by have := HL2.out; have := HBR.out.size; omega)).mono ?_
      rintro e w4 ⟨rfl, hbd, hb4⟩
      have HBD4 := Asd.mk hbd
      have HB4 : Asd (Below b w2 w4) := Asd.mk (HBR.out.trans hb4)
      rw [hex_at _ (by omega)] at HBD4
      clear hbd hb4
      go_wp2_with fail
      refine (Tryz.Builder_WriteByte b b _ _ w4 (.inr HBD4.out) (by rw [List.length_append, byteCells_len]; simp only [List.length_cons, List.length_nil]; have := HLK.out; omega) (by have := HL2.out; have := HB4.out.size; omega)).mono ?_
      rintro e w5 ⟨rfl, hbd, hb5⟩
      have HB5 : Asd (Below b w2 w5) := Asd.mk (HB4.out.trans hb5)
      rw [hex_at _ (by omega)] at hbd
      have HBD5 : Asd (Lib.BuilderAt 149 5 b b (.pointer (some ⟨b, 0, none⟩)) (Lib.byteCells (88 :: 39 :: hexs (s.data.toList.take (k + 1)))) w5) := Asd.mk (by
        rw [take_snoc s k hlt, hexs_snoc, hck]
        rw [show ((88 : UInt8) :: 39 :: (hexs (s.data.toList.take k) ++ [hexB (c.toNat / 16), hexB (c.toNat % 16)])) = (88 :: 39 :: hexs (s.data.toList.take k)) ++ [hexB (c.toNat / 16)] ++ [hexB (c.toNat % 16)] by simp, byteCells_snoc, byteCells_snoc]
        exact hbd)
      clear hbd hb5 htk hck
      go_wp2
      go_roundw
      case rel => exact ⟨k + 1, by omega, by go_num, HBD5, HB5⟩
      case measure => simp [intOf]; omega
    · obtain rfl : k = s.size := by omega
      have HLK := Asd.mk (hexs_len (s.data.toList.take s.size))
      have htk : (s.data.toList.take s.size).length ≤ s.size := by rw [List.length_take]; omega
      clear hlt
      go_wp2_with fail
      refine (Tryz.Builder_WriteByte b b _ _ wr (.inr HBD.out) (by rw [byteCells_len]; simp only [List.length_cons]; have := HLK.out; omega) (by have := HL2.out; have := HBR.out.size; omega)).mono ?_
      rintro e w4 ⟨rfl, hbd, hb4⟩
      have HB4 : Asd (Below b w2 w4) := Asd.mk (HBR.out.trans hb4)
      have HBD4 : Asd (Lib.BuilderAt 149 5 b b (.pointer (some ⟨b, 0, none⟩)) (Lib.byteCells (litBlob s.data.toList)) w4) := Asd.mk (by
        rw [show litBlob s.data.toList = (88 :: 39 :: hexs (s.data.toList.take s.size)) ++ [39] by rw [List.take_of_length_le (Nat.le_of_eq (show s.data.toList.length = s.size from rfl))]; simp [litBlob], byteCells_snoc]
        exact hbd)
      clear hbd hb4 htk HLK
      go_wp2_with fail
      refine (Tryz.Builder_String_any b b _ w4 (.inr HBD4.out) (by have := HL2.out; have := HB4.out.size; omega)).mono ?_
      rintro e w5 ⟨rfl, hb5⟩
      have HBE : Asd (Below w.heap.size w w5) := Asd.mk (HB2.out.trans ((HB4.out.trans hb5).mono (by have := HBW.out; omega)))
      clear hb5
      go_wp2
      go_ret
      exact ⟨rfl, HBE.out⟩
end Go.Proofs.YtcefmhofidoloaaGreatDoor.Lex
