/- blob. -/
import Derived.Test.YtcefmhofidoloaaGreatDoorLx8
import Derived.Test.YtcefmhofidoloaaGreatDoorBld
set_option linter.unusedVariables false
set_option linter.unusedSimpArgs false
namespace Go.Proofs.YtcefmhofidoloaaGreatDoor.Lex
open Go.RowKit Go.Proofs.YtcefmhofidoloaaGreatDoor.Base Go.Proofs.YtcefmhofidoloaaGreatDoor.App Go.Proofs.YtcefmhofidoloaaGreatDoor.Byt

theorem ext_list (s : ByteArray) (a b : Nat) : (s.extract a b).data.toList = (s.data.toList.take b).drop a := by
  simp [ByteArray.data_extract, List.extract_eq_take_drop, List.drop_take]
theorem ext_size (s : ByteArray) (a b : Nat) : (s.extract a b).size = min b s.size - a := by
  simp [ByteArray.size_extract]
theorem takeW_le (p : UInt8 → Bool) : ∀ l : List UInt8, (l.takeWhile p).length ≤ l.length
  | [] => Nat.le_refl _
  | c :: r => by
    rw [List.takeWhile_cons]
    have := takeW_le p r
    split
    · simp only [List.length_cons]; omega
    · simp
theorem below_drewN' (w : World) (n : Nat) : Below w.heap.size w (w.drewN n) :=
  have h := Below.refl w.heap.size w
  ⟨h.os, h.tape, h.output, h.size, h.block⟩
theorem two_at {D : List UInt8} {k : Nat} (h : k + 2 ≤ D.length) : ∃ a b, D.drop k = a :: b :: D.drop (k + 2) ∧ (D.take (k + 2)).drop k = [a, b] := by
  refine ⟨D[k], D[k + 1], ?_, ?_⟩
  · rw [List.drop_eq_getElem_cons (by omega), List.drop_eq_getElem_cons (by omega)]
  · rw [List.drop_take, show k + 2 - k = 2 by omega, List.drop_eq_getElem_cons (by omega), List.drop_eq_getElem_cons (by omega)]
    rfl

theorem own_below {W W' : World} {B : Nat} {e : TypeId} {s : Nat} {v : Value} {n : Nat} {xs : List Value} (h : W.ownsRow B e s v n xs) (hb : Below W.heap.size W W') : W'.ownsRow B e s v n xs :=
  h.kept (row := none) ⟨hb.os, hb.tape, hb.output, hb.size, fun j hj _ => hb.block j hj⟩ (by cases hv : v.ownBlock <;> simp)
theorem bld_at_old {B b : Nat} {p : Value} {bs : List Value} {w w' : World} (h : Lib.BuilderAt 149 5 B b p bs w) (hb : Below w.heap.size w w') : Lib.BuilderAt 149 5 B b p bs w' := by
  obtain ⟨h1, v, h2, h3, h4⟩ := h
  exact ⟨h1, v, blk_below hb h2, own_below h3 hb, h4⟩
theorem bld_old {B b : Nat} {bs : List Value} {w w' : World} (h : Lib.IsBuilder 149 5 B b bs w) (hb : Below w.heap.size w w') : Lib.IsBuilder 149 5 B b bs w' := by
  rcases h with h | h
  · exact .inl (bld_at_old h hb)
  · exact .inr (bld_at_old h hb)
theorem byte_of {n : Nat} (h : n < 256) : Value.int .u8 (n : Int) = .int .u8 ((UInt8.ofNat n).toNat : Int) := by
  rw [UInt8.toNat_ofNat', Nat.mod_eq_of_lt h]
set_option maxRecDepth 100000 in
set_option maxHeartbeats 3200000 in
theorem blob_calls (s : ByteArray) (w : World) (h1 : 1 ≤ s.size) (hs : s.size ≤ 1048576) (hw : LexW w) :
    Calls Tryz.prog 106 #[.string s] w fun e w' => e = .returned (.tuple #[.string ⟨(blobO (s.data.toList.drop 1)).1.toArray⟩, .int .i64 ((blobO (s.data.toList.drop 1)).2 : Nat)]) ∧ Below w.heap.size w w' := by
  have HW := Asd.mk hw
  clear hw
  have HXL : Asd ((s.extract 1 s.size).data.toList = s.data.toList.drop 1) := Asd.mk (by
    rw [ext_list, List.take_of_length_le (Nat.le_of_eq (show s.data.toList.length = s.size from rfl))])
  have HXS : Asd ((s.extract 1 s.size).size ≤ 1048576) := Asd.mk (by rw [ext_size]; omega)
  have HTL : Asd (((s.data.toList.drop 1).takeWhile (· != 39)).length ≤ 1048576) := Asd.mk (by
    have h := takeW_le (· != (39 : UInt8)) (s.data.toList.drop 1)
    rw [List.length_drop] at h
    have : s.data.toList.length = s.size := rfl
    omega)
  go_enter Tryz.func106, Tryz.ntmps106
  generalize hR : s.data.toList.drop 1 = R at HXL HTL ⊢
  clear hR
  go_wp2_with fail
  refine (Tryz.strings_Cut_shaped (s.extract 1 s.size) ⟨#[39]⟩ _ HW.out.shaped (by have := HXS.out; omega)).mono ?_
  rintro e w1 ⟨rfl, n0, rfl⟩
  rw [HXL.out, show (⟨#[39]⟩ : ByteArray).data.toList = [39] from rfl]
  have HB1 := Asd.mk (below_drewN' w n0)
  have HW1 := Asd.mk (HW.out.below HB1.out)
  generalize w.drewN n0 = w1 at HB1 HW1 ⊢
  generalize (Lib.cut R [39]).2.1 = rest
  by_cases hm : 39 ∈ R
  · obtain ⟨c1, c2⟩ := cut_yes hm
    have HG : Asd (∀ l, unhex (R.takeWhile (· != 39)) = some l → blobO R = (l, (R.takeWhile (· != 39)).length + 2)) := Asd.mk fun l h => blobO_good hm h
    have HNG : Asd (unhex (R.takeWhile (· != 39)) = none → blobO R = ([], 0)) := Asd.mk fun h => blobO_bad h
    rw [c1, c2]
    clear c1 c2 hm
    generalize R.takeWhile (· != 39) = D at HG HNG HTL ⊢
    have HDL : Asd ((⟨D.toArray⟩ : ByteArray).data.toList = D) := Asd.mk (by simp)
    have HDS : Asd ((⟨D.toArray⟩ : ByteArray).size = D.length) := Asd.mk (by simp [ByteArray.size])
    generalize (⟨D.toArray⟩ : ByteArray) = d at HDL HDS ⊢
    have hds : d.size ≤ 1048576 := by rw [HDS.out]; exact HTL.out
    by_cases hpar : d.size % 2 = 0
    · have e0 : (d.size : Int).tmod 2 = 0 := by rw [Int.tmod_eq_emod_of_nonneg (by omega)]; omega
      have e1 : (d.size : Int) % 2 = 0 := by omega
      have HPAR := Asd.mk hpar
      clear hpar
      have HBF := Asd.mk (bld_fresh w1)
      have HB2 : Asd (Below w.heap.size w (w1.alloc (.cells #[.pointer none, .slice none 0 0] 149))) := Asd.mk (below_alloc HB1.out _)
      have HW2 : Asd (LexW (w1.alloc (.cells #[.pointer none, .slice none 0 0] 149))) := Asd.mk (HW1.out.below (below_alloc (Below.refl _ _) _))
      have HL2 : Asd (w1.heap.size ≤ (w1.alloc (.cells #[.pointer none, .slice none 0 0] 149)).heap.size) := Asd.mk (by simp)
      have HBW : Asd (w.heap.size ≤ w1.heap.size) := Asd.mk HB1.out.size
      go_upto_region 5 with fail
      generalize w1.alloc (.cells #[.pointer none, .slice none 0 0] 149) = w2 at HBF HB2 HL2 HW2 ⊢
      generalize w1.heap.size = b at HBF HL2 HBW ⊢
      clear e0 e1
      go_wp2
      go_loopw [8] (fun v wr => ∃ (k : Nat) (l : List UInt8), k ≤ d.size ∧ v = .int .i64 (k : Int) ∧ Asd (k % 2 = 0) ∧ Asd (l.length ≤ k) ∧ Asd (BlobSt D l (D.drop k)) ∧ Asd (Lib.IsBuilder 149 5 b b (Lib.byteCells l) wr) ∧ Asd (Below b w2 wr) ∧ Asd (LexW wr)) (fun v _ => d.size - (intOf v).toNat)
      case atStart => exact ⟨0, [], by omega, rfl, ⟨rfl⟩, ⟨Nat.le_refl _⟩, ⟨by unfold BlobSt; simp⟩, HBF, ⟨Below.refl _ _⟩, HW2⟩
      case round =>
        obtain ⟨k, l, hk, rfl, HK2, HLL, HS, HBD, HBR, HWR⟩ := hrel
        by_cases hlt : k < d.size
        · have hk2 : k + 2 ≤ d.size := by have := HK2.out; have := HPAR.out; omega
          obtain ⟨a, b', hd1, hd2⟩ := two_at (D := D) (k := k) (by rw [← HDS.out]; exact hk2)
          have HE : Asd ((d.extract k (k + 2)).data.toList = [a, b']) := Asd.mk (by rw [ext_list, HDL.out, hd2])
          have HES : Asd ((d.extract k (k + 2)).size = 2) := Asd.mk (by rw [ext_size]; omega)
          rw [hd1] at HS
          clear hd1 hd2
          go_wp2_with fail
          refine (parse_calls (d.extract k (k + 2)) _ HES.out HWR.out).mono ?_
          rintro e w3 ⟨hb3, he⟩
          rw [HE.out, hexT_two] at he
          have HB3 : Asd (Below b w2 w3) := Asd.mk (HBR.out.trans (hb3.mono (by have := HL2.out; have := HBR.out.size; omega)))
          have HW3 := Asd.mk (HWR.out.below hb3)
          have HBD3 := Asd.mk (bld_old HBD.out hb3)
          clear hb3
          cases hx : hexPair a b' with
          | none =>
            rw [hx] at he
            obtain ⟨p, rfl⟩ := he
            have HO := Asd.mk (HNG.out (HS.out.stop hx))
            have HBE : Asd (Below w.heap.size w w3) := Asd.mk (HB2.out.trans (HB3.out.mono HBW.out))
            clear hx
            go_wp2
            refine bodyPost_ret (results_tmp2 rfl _ _ _) rfl ?_
            exact ⟨ret_eq (by rw [HO.out]; rfl), HBE.out⟩
          | some n =>
            rw [hx] at he
            obtain rfl := he
            have hn := hexPair_lt hx
            have HAS := Asd.mk (hexPair_ascii hx)
            have HS2 := Asd.mk (HS.out.step hx)
            have HBY := Asd.mk (byte_of hn)
            have hw8 : IntKind.u8.wrap (n : Int) = (n : Int) := by
              simp [IntKind.wrap, IntKind.signed, IntKind.bits]
              omega
            clear hx
            go_wp2_with fail
            refine (any_calls (d.extract k (k + 2)) ⟨#[43, 45, 95]⟩ _ (by decide) (by rw [HES.out]; decide) (by rw [HE.out]; exact HAS.out.1) (by rw [HE.out]; exact HAS.out.2)).mono ?_
            rintro e w4 ⟨rfl, hb4⟩
            have HB4 : Asd (Below b w2 w4) := Asd.mk (HB3.out.trans (hb4.mono (by have := HL2.out; have := HB3.out.size; omega)))
            have HW4 := Asd.mk (HW3.out.below hb4)
            have HBD4 := Asd.mk (bld_old HBD3.out hb4)
            clear hb4
            go_wp2_with fail
            refine (Tryz.Builder_WriteByte b b _ _ w4 HBD4.out (by rw [byteCells_len]; have := HLL.out; omega) (by have := HL2.out; have := HB4.out.size; omega)).mono ?_
            rintro e w5 ⟨rfl, hbd, hb5⟩
            rw [HBY.out, ← byteCells_snoc] at hbd
            have HBD5 := Asd.mk hbd
            have HB5 : Asd (Below b w2 w5) := Asd.mk (HB4.out.trans hb5)
            have HW5 : Asd (LexW w5) := Asd.mk (HW.out.below (HB2.out.trans (HB5.out.mono HBW.out)))
            clear hbd hb5
            go_wp2
            go_roundw
            case rel => exact ⟨k + 2, _, hk2, by go_num, ⟨by have := HK2.out; omega⟩, ⟨by have := HLL.out; simp; omega⟩, HS2, ⟨.inr HBD5.out⟩, HB5, HW5⟩
            case measure => simp [intOf]; omega
        · obtain rfl : k = d.size := by omega
          have HO := Asd.mk (HG.out l (BlobSt.done (by
            have := HS.out
            rwa [List.drop_of_length_le (by rw [HDS.out]; exact Nat.le_refl _)] at this)))
          clear hlt
          go_wp2_with fail
          refine (Tryz.Builder_String_any b b _ wr HBD.out (by have := HL2.out; have := HBR.out.size; omega)).mono ?_
          rintro e w5 ⟨rfl, hb5⟩
          have HBE : Asd (Below w.heap.size w w5) := Asd.mk (HB2.out.trans ((HBR.out.trans hb5).mono HBW.out))
          clear hb5
          go_wp2
          refine bodyPost_ret (results_tmp2 rfl _ _ _) rfl ?_
          exact ⟨ret_eq (by rw [HO.out, ← HDS.out]; rfl), HBE.out⟩
    · have hp1 : d.size % 2 = 1 := by omega
      have e0 : (d.size : Int).tmod 2 = 1 := by rw [Int.tmod_eq_emod_of_nonneg (by omega)]; omega
      have e1 : (d.size : Int) % 2 = 1 := by omega
      have HO := Asd.mk (HNG.out (unhex_odd (d.size / 2) D (by rw [← HDS.out]; omega)))
      clear hpar hp1
      go_wp2
      refine bodyPost_ret (results_tmp2 rfl _ _ _) rfl ?_
      exact ⟨ret_eq (by rw [HO.out]; rfl), HB1.out⟩
  · obtain ⟨c1, c2⟩ := cut_no hm
    have HO := Asd.mk (blobO_no hm)
    rw [c2]
    clear c1 c2 hm
    generalize (⟨(Lib.cut R [39]).1.toArray⟩ : ByteArray) = d
    go_wp2
    refine bodyPost_ret (results_tmp2 rfl _ _ _) rfl ?_
    exact ⟨ret_eq (by rw [HO.out]; rfl), HB1.out⟩
end Go.Proofs.YtcefmhofidoloaaGreatDoor.Lex
