/- How the reference writes a blob. -/
import Derived.Test.YtcefmhofidoloaaDoorRlit
import Derived.Deep.RegionHeld3
set_option linter.unusedVariables false
set_option linter.unusedSimpArgs false
namespace Go.Proofs.YtcefmhofidoloaaDoor.Lex
open Go.RowKit Go.Proofs.YtcefmhofidoloaaDoor.Base Go.Proofs.YtcefmhofidoloaaDoor.App Go.Proofs.YtcefmhofidoloaaDoor.Byt

set_option maxRecDepth 100000 in
set_option maxHeartbeats 3200000 in
theorem rlit_blob (s : ByteArray) (w : World) (hs : s.size ≤ 1048576) :
    Calls Tryd.prog 19 #[.agg #[.int .i64 4, .int .i64 0, .string s]] w fun e w' => e = .returned (.string ⟨(litBlob s.data.toList).toArray⟩) ∧ Below w.heap.size w w' := by
  go_enter Tryd.func19, Tryd.ntmps19
  go_wp2_with fail
  refine (rcheck_calls 4 (.inr rfl) s _).mono ?_
  rintro e w1 ⟨rfl, hb1⟩
  have HB0 := Asd.mk (below_alloc (Below.refl _ w) (.cells #[.int .i64 4, .int .i64 0, .string s] 46))
  have HX := Asd.mk (blk_below hb1 (blk_new w (.cells #[.int .i64 4, .int .i64 0, .string s] 46)))
  have HB1 : Asd (Below w.heap.size w w1) := Asd.mk (below_step HB0.out hb1)
  have x0 := (blk_cell HX.out 0).trans rfl
  have y0 := (blk_cell (blk_alloc HX.out (.cells #[.int .u8 39] 5)) 0).trans rfl
  have HO0 : Asd (((w1.alloc (.cells #[.int .u8 39] 5)).alloc (.cells #[.int .u8 88, .int .u8 39] 5)).ownsRow w1.heap.size 5 1 (.slice (some ⟨w1.heap.size + 1, 0, none⟩) 2 2) 2 (bcells [88, 39])) := Asd.mk (own_made (xs := [88, 39]) (by
    have h := blk_new (w1.alloc (.cells #[.int .u8 39] 5)) (.cells #[.int .u8 88, .int .u8 39] 5)
    rw [show (w1.alloc (.cells #[.int .u8 39] 5)).heap.size = w1.heap.size + 1 by simp] at h
    exact h) (Nat.le_succ _) (by simp))
  have HBW : Asd (w.heap.size < w1.heap.size) := Asd.mk (blk_lt HX.out)
  clear hb1
  go_wp2
  go_loopw [3, 4] (fun v3 v4 wr => ∃ (k m c : Nat) (A : Option Addr), k ≤ s.size ∧ v4 = .int .i64 (k : Int) ∧ v3 = .slice A m c ∧ Asd (wr.ownsRow w1.heap.size 5 1 (.slice A m c) m (bcells (88 :: 39 :: hexs (s.data.toList.take k)))) ∧ Asd (Below w1.heap.size w1 wr)) (fun _ v4 _ => s.size - (intOf v4).toNat)
  case atStart => exact ⟨0, 2, 2, _, by omega, rfl, rfl, ⟨HO0.out⟩, ⟨below_alloc (below_alloc (Below.refl _ _) _) _⟩⟩
  case round =>
    obtain ⟨k, m, c, A, hk, rfl, rfl, HO, HBR⟩ := hrel
    have HXR := Asd.mk (blk_below HBR.out HX.out)
    have x0 := (blk_cell HXR.out 0).trans rfl
    have x2 := (blk_cell HXR.out 2).trans rfl
    have hm : m ≤ 2097154 := by
      have h1 := HO.out.1
      have h2 := hexs_len (s.data.toList.take k)
      have h3 : (s.data.toList.take k).length ≤ k := by rw [List.length_take]; omega
      simp only [bcells, List.length_map, List.length_cons, Nat.mul_one] at h1
      omega
    have hsz : w1.heap.size ≤ wr.heap.size := HBR.out.size
    by_cases hlt : k < s.size
    · have hc := s[k].toNat_lt
      have HTS := Asd.mk (take_snoc s k hlt)
      generalize hsk : s[k] = b at hc HTS
      have e1 : IntKind.u8.wrap ((b.toNat : Int).tdiv 16) = ((b.toNat / 16 : Nat) : Int) := by
        simp [IntKind.wrap, IntKind.signed, IntKind.bits]
        omega
      have e2 : (b.toNat : Int).tmod 16 = ((b.toNat % 16 : Nat) : Int) := by rw [Int.tmod_eq_emod_of_nonneg (by omega)]; omega
      have e1b : (b.toNat : Int) / 16 = ((b.toNat / 16 : Nat) : Int) := by omega
      have e1c : (b.toNat : Int).tdiv 16 = ((b.toNat / 16 : Nat) : Int) := by rw [Int.tdiv_eq_ediv_of_nonneg (by omega)]; omega
      have e1d : IntKind.u8.wrap ((b.toNat / 16 : Nat) : Int) = ((b.toNat / 16 : Nat) : Int) := by
        simp [IntKind.wrap, IntKind.signed, IntKind.bits]
        omega
      have e2b : (b.toNat : Int) % 16 = ((b.toNat % 16 : Nat) : Int) := by omega
      have HN1 : Asd (b.toNat / 16 < 16) := Asd.mk (by omega)
      have HN2 : Asd (b.toNat % 16 < 16) := Asd.mk (by omega)
      have HTS2 : Asd (hexs (s.data.toList.take (k + 1)) = hexs (s.data.toList.take k) ++ [hexB (b.toNat / 16), hexB (b.toNat % 16)]) := Asd.mk (by rw [HTS.out, hexs_snoc])
      generalize b.toNat / 16 = n1 at e1 e1b e1c e1d HN1 HTS2
      generalize b.toNat % 16 = n2 at e2 e2b HN2 HTS2
      have hn1 := HN1.out
      have hn2 := HN2.out
      have hn1a : (0 : Int) ≤ (n1 : Int) := by omega
      have hn1b : (n1 : Int) < 16 := by omega
      have hn2a : (0 : Int) ≤ (n2 : Int) := by omega
      have hn2b : (n2 : Int) < 16 := by omega
      have g1 := hex_at n1 hn1
      have g2 := hex_at n2 hn2
      have HOA : Asd (∀ o, (wr.drew.alloc o).ownsRow w1.heap.size 5 1 (.slice A m c) m (bcells (88 :: 39 :: hexs (s.data.toList.take k)))) := Asd.mk fun o => World.ownsRow.alloc (w := wr.drew) HO.out o
      have HBD := Asd.mk (HBR.out.drew)
      go_upto_region 21 with fail
      go_region_held3 (fun _ => True)
        (trivial)
        (first
          | (refine step_src (by rfl) _ _ _ (by rfl) rowB (.slice A m c) (by rfl) (n := m) (HOA.out _) (some ⟨wr.heap.size, 0, none⟩) 2 2 (by rfl) (Feeds.of_block (size := 1) (blk_new wr.drew _) rfl (by simp [Value.oneCell'])) (by unfold maxLen; omega) (by omega) (by simp; omega) ?_
             intro A9 c9 w9 ho9 hg9
             have HB9 : Asd (Below w1.heap.size w1 w9) := Asd.mk (below_own (below_alloc HBD.out _) (HOA.out _) hg9 (Nat.le_refl _))
             have HO9 : Asd (w9.ownsRow w1.heap.size 5 1 (.slice A9 (m + 2) c9) (m + 2) (bcells (88 :: 39 :: hexs (s.data.toList.take (k + 1))))) := Asd.mk (by
               rw [HTS2.out]
               simpa [bcells, bcell] using ho9)
             clear ho9 hg9)
          | fail)
      all_goals
        go_wp2
        go_roundw
        case rel => exact ⟨k + 1, _, _, _, by omega, by go_num, rfl, HO9, HB9⟩
        case measure => simp [intOf]; omega
    · obtain rfl : k = s.size := by omega
      have HOA := Asd.mk (HO.out.alloc (.cells #[.int .u8 39] 5))
      have HF := Asd.mk (Feeds.of_block (size := 1) (m := 1) (c := 1) (blk_new wr (.cells #[.int .u8 39] 5)) rfl (by simp [Value.oneCell']))
      have HTK := Asd.mk (List.take_of_length_le (Nat.le_of_eq (show s.data.toList.length = s.size from rfl)))
      clear hlt
      go_wp2_with (at_builtin; refine wpList_src rfl (.tmp 62) (.tmp 63) _ rfl rowB _ rfl HOA.out (some ⟨wr.heap.size, 0, none⟩) 1 1 rfl HF.out (by unfold maxLen; omega) (by omega) (by simp; omega) ?_)
      intro A9 c9 w9 ho9 hg9
      have HB9 : Asd (Below w1.heap.size w1 w9) := Asd.mk (below_own (below_alloc HBR.out _) HOA.out hg9 (Nat.le_refl _))
      have HO9 : w9.ownsRow w1.heap.size 5 1 (.slice A9 (m + 1) c9) (m + 1) (bcells (litBlob s.data.toList)) := by
        rw [HTK.out] at ho9
        simpa [bcells, bcell, litBlob] using ho9
      obtain ⟨A8, c8, e8, hib, _⟩ := of_own HO9 (by omega)
      injection e8 with e1 e2 e3
      subst e1 e3
      have hcv := run_string 61 9 5 Tryd.underlying61 Tryd.underlying5 Tryd.underlying9 c9 hib
      have HBE : Asd (Below w.heap.size w w9) := Asd.mk (HB1.out.trans (HB9.out.mono HB1.out.size))
      clear ho9 hg9 HO9 hib
      generalize hrr : (⟨(litBlob s.data.toList).toArray⟩ : ByteArray) = rr at hcv
      have HRR := Asd.mk hrr
      clear hrr
      go_wp2
      go_ret
      exact ⟨ret_eq (by rw [HRR.out]; rfl), HBE.out⟩
end Go.Proofs.YtcefmhofidoloaaDoor.Lex
