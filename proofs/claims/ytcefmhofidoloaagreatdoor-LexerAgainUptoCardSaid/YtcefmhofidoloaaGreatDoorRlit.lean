/- How the reference writes a text, and a blob. -/
import Derived.Test.YtcefmhofidoloaaGreatDoorLit
import Derived.Test.YtcefmhofidoloaaGreatDoorNum
set_option linter.unusedVariables false
set_option linter.unusedSimpArgs false
namespace Go.Proofs.YtcefmhofidoloaaGreatDoor.Lex
open Go.RowKit Go.Proofs.YtcefmhofidoloaaGreatDoor.Base Go.Proofs.YtcefmhofidoloaaGreatDoor.App Go.Proofs.YtcefmhofidoloaaGreatDoor.Byt

set_option maxRecDepth 100000 in
set_option maxHeartbeats 1600000 in
theorem rcheck_calls (k : Int) (hk : k = 3 ∨ k = 4) (s : ByteArray) (w : World) :
    Calls Tryz.prog 170 #[.agg #[.int .i64 k, .int .i64 0, .string s]] w fun e w' => e = .returned (.int .i64 0) ∧ Below w.heap.size w w' := by
  rcases hk with rfl | rfl
  · go_enter Tryz.func170, Tryz.ntmps170
    go_wp2
    go_ret
    exact ⟨rfl, below_alloc (Below.refl _ _) _⟩
  · go_enter Tryz.func170, Tryz.ntmps170
    go_wp2
    go_ret
    exact ⟨rfl, below_alloc (Below.refl _ _) _⟩

theorem infoU8 : (Tryz.prog.info? 5).map (fun i => (i.zero, i.size, i.bytes)) = some (some (.int .u8 0), 1, 1) := by kernel_rfl
theorem rowB : RowT Tryz.prog 120 5 1 1 := ⟨Tryz.underlying120, by obtain ⟨i, h1, h2, h3, h4⟩ := info_parts infoU8; exact ⟨i, _, h1, h2, h3, h4, rfl⟩, by decide⟩

theorem bcells_length (l : List UInt8) : (bcells l).length = l.length := by simp [bcells]
theorem own_made {w : World} {B b : Nat} {xs : List UInt8} (h : w.heap[b]? = some (.cells (bcells xs).toArray 5 (0, 0))) (hB : B ≤ b) (hl : xs.length ≤ 100000) : w.ownsRow B 5 1 (.slice (some ⟨b, 0, none⟩) xs.length xs.length) xs.length (bcells xs) :=
  ⟨by rw [bcells_length]; omega, .inr ⟨b, xs.length, _, rfl, hB, h, Nat.le_refl _, by unfold maxLen; omega, by simp [bcells], by rw [List.take_of_length_le (by simp [bcells])]⟩⟩

set_option maxRecDepth 100000 in
set_option maxHeartbeats 3200000 in
theorem rlit_text (s : ByteArray) (w : World) (hs : s.size ≤ 1048576) :
    Calls Tryz.prog 99 #[.agg #[.int .i64 3, .int .i64 0, .string s]] w fun e w' => e = .returned (.string ⟨(litText s.data.toList).toArray⟩) ∧ Below w.heap.size w w' := by
  go_enter Tryz.func99, Tryz.ntmps99
  go_wp2_with fail
  refine (rcheck_calls 3 (.inl rfl) s _).mono ?_
  rintro e w1 ⟨rfl, hb1⟩
  have HB0 := Asd.mk (below_alloc (Below.refl _ w) (.cells #[.int .i64 3, .int .i64 0, .string s] 56))
  have HX := Asd.mk (blk_below hb1 (blk_new w (.cells #[.int .i64 3, .int .i64 0, .string s] 56)))
  have HB1 : Asd (Below w.heap.size w w1) := Asd.mk (below_step HB0.out hb1)
  have x0 := (blk_cell HX.out 0).trans rfl
  have y0 := (blk_cell (blk_alloc HX.out (.cells #[.int .u8 39] 5)) 0).trans rfl
  have HO0 : Asd ((w1.alloc (.cells #[.int .u8 39] 5)).ownsRow w1.heap.size 5 1 (.slice (some ⟨w1.heap.size, 0, none⟩) 1 1) 1 (bcells [39])) := Asd.mk (own_made (xs := [39]) (blk_new w1 _) (Nat.le_refl _) (by simp))
  have HBW : Asd (w.heap.size < w1.heap.size) := Asd.mk (blk_lt HX.out)
  clear hb1
  go_wp2
  go_loopw [3, 4] (fun v3 v4 wr => ∃ (k m c : Nat) (A : Option Addr), k ≤ s.size ∧ v4 = .int .i64 (k : Int) ∧ v3 = .slice A m c ∧ Asd (wr.ownsRow w1.heap.size 5 1 (.slice A m c) m (bcells (39 :: quotes (s.data.toList.take k)))) ∧ Asd (Below w1.heap.size w1 wr)) (fun _ v4 _ => s.size - (intOf v4).toNat)
  case atStart => exact ⟨0, 1, 1, _, by omega, rfl, rfl, ⟨HO0.out⟩, ⟨below_alloc (Below.refl _ _) _⟩⟩
  case round =>
    obtain ⟨k, m, c, A, hk, rfl, rfl, HO, HBR⟩ := hrel
    have HXR := Asd.mk (blk_below HBR.out HX.out)
    have x0 := (blk_cell HXR.out 0).trans rfl
    have x2 := (blk_cell HXR.out 2).trans rfl
    have hm : m ≤ 2097153 := by
      have h1 := HO.out.1
      have h2 := quotes_len (s.data.toList.take k)
      have h3 : (s.data.toList.take k).length ≤ k := by rw [List.length_take]; omega
      simp only [bcells, List.length_map, List.length_cons, Nat.mul_one] at h1
      omega
    have hsz : w1.heap.size ≤ wr.heap.size := HBR.out.size
    by_cases hlt : k < s.size
    · have hc := s[k].toNat_lt
      have HTS := Asd.mk (take_snoc s k hlt)
      generalize hsk : s[k] = b at hc HTS
      by_cases h39 : b = 39
      · subst h39
        have HOA := Asd.mk (HO.out.alloc (.cells #[.int .u8 39, .int .u8 39] 5))
        have HF := Asd.mk (Feeds.of_block (size := 1) (m := 2) (c := 2) (blk_new wr (.cells #[.int .u8 39, .int .u8 39] 5)) rfl (by simp [Value.oneCell']))
        go_wp2_with (at_builtin; refine wpList_src rfl (.tmp 59) (.tmp 60) _ rfl rowB _ rfl HOA.out (some ⟨wr.heap.size, 0, none⟩) 2 2 rfl HF.out (by unfold maxLen; omega) (by omega) (by simp; omega) ?_)
        intro A9 c9 w9 ho9 hg9
        have HO9 : Asd (w9.ownsRow w1.heap.size 5 1 (.slice A9 (m + 2) c9) (m + 2) (bcells (39 :: quotes (s.data.toList.take (k + 1))))) := Asd.mk (by
          rw [HTS.out, quotes_append]
          simpa [bcells, bcell, quotes, quote1] using ho9)
        have HB9 : Asd (Below w1.heap.size w1 w9) := Asd.mk (below_own (below_alloc HBR.out _) HOA.out hg9 (Nat.le_refl _))
        clear ho9 hg9
        go_wp2
        go_roundw
        case rel => exact ⟨k + 1, _, _, _, by omega, by go_num, rfl, HO9, HB9⟩
        case measure => simp [intOf]; omega
      · have hne : ((b.toNat : Int) == 39) = false := by
          rw [beq_eq_false_iff_ne]
          intro e
          exact h39 (UInt8.toNat_inj.1 (show b.toNat = 39 by omega))
        have HOA := Asd.mk (HO.out.alloc (.cells #[.int .u8 (b.toNat : Int)] 5))
        have HF := Asd.mk (Feeds.of_block (size := 1) (m := 1) (c := 1) (blk_new wr (.cells #[.int .u8 (b.toNat : Int)] 5)) rfl (by simp [Value.oneCell']))
        have H39 := Asd.mk h39
        clear h39
        go_wp2_with (at_builtin; refine wpList_src rfl (.tmp 39) (.tmp 41) _ rfl rowB _ rfl HOA.out (some ⟨wr.heap.size, 0, none⟩) 1 1 rfl HF.out (by unfold maxLen; omega) (by omega) (by simp; omega) ?_)
        intro A9 c9 w9 ho9 hg9
        have HO9 : Asd (w9.ownsRow w1.heap.size 5 1 (.slice A9 (m + 1) c9) (m + 1) (bcells (39 :: quotes (s.data.toList.take (k + 1))))) := Asd.mk (by
          rw [HTS.out, quotes_append]
          simpa [bcells, bcell, quotes, quote1, H39.out] using ho9)
        have HB9 : Asd (Below w1.heap.size w1 w9) := Asd.mk (below_own (below_alloc HBR.out _) HOA.out hg9 (Nat.le_refl _))
        clear ho9 hg9
        go_wp2
        go_roundw
        case rel => exact ⟨k + 1, _, _, _, by omega, by go_num, rfl, HO9, HB9⟩
        case measure => simp [intOf]; omega
    · obtain rfl : k = s.size := by omega
      have HOA := Asd.mk (HO.out.alloc (.cells #[.int .u8 39] 5))
      have HF := Asd.mk (Feeds.of_block (size := 1) (m := 1) (c := 1) (blk_new wr (.cells #[.int .u8 39] 5)) rfl (by simp [Value.oneCell']))
      have HTK := Asd.mk (List.take_of_length_le (Nat.le_of_eq (show s.data.toList.length = s.size from rfl)))
      clear hlt
      go_wp2_with (at_builtin; refine wpList_src rfl (.tmp 62) (.tmp 63) _ rfl rowB _ rfl HOA.out (some ⟨wr.heap.size, 0, none⟩) 1 1 rfl HF.out (by unfold maxLen; omega) (by omega) (by simp; omega) ?_)
      intro A9 c9 w9 ho9 hg9
      have HB9 : Asd (Below w1.heap.size w1 w9) := Asd.mk (below_own (below_alloc HBR.out _) HOA.out hg9 (Nat.le_refl _))
      have HO9 : w9.ownsRow w1.heap.size 5 1 (.slice A9 (m + 1) c9) (m + 1) (bcells (litText s.data.toList)) := by
        rw [HTK.out] at ho9
        simpa [bcells, bcell, litText] using ho9
      obtain ⟨A8, c8, e8, hib, _⟩ := of_own HO9 (by omega)
      injection e8 with e1 e2 e3
      subst e1 e3
      have hcv := run_string 120 9 5 Tryz.underlying120 Tryz.underlying5 Tryz.underlying9 c9 hib
      have HBE : Asd (Below w.heap.size w w9) := Asd.mk (HB1.out.trans (HB9.out.mono HB1.out.size))
      clear ho9 hg9 HO9 hib
      generalize hrr : (⟨(litText s.data.toList).toArray⟩ : ByteArray) = rr at hcv
      have HRR := Asd.mk hrr
      clear hrr
      go_wp2
      go_ret
      exact ⟨ret_eq (by rw [HRR.out]; rfl), HBE.out⟩
end Go.Proofs.YtcefmhofidoloaaGreatDoor.Lex
