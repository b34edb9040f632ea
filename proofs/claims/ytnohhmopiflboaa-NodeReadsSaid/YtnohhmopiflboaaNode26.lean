/- The reference's Piece. -/
import Derived.Test.YtnohhmopiflboaaNode25
set_option linter.unusedVariables false
set_option linter.unusedSimpArgs false
namespace Go.Proofs.Ytnohhmopiflboaa.Nod
open Go.RowKit Go.Proofs.Ytnohhmopiflboaa.Base Go.Proofs.Ytnohhmopiflboaa.Byt Go.Proofs.Ytnohhmopiflboaa.Rd Go.Proofs.Ytnohhmopiflboaa.App

set_option maxRecDepth 100000 in
set_option maxHeartbeats 1600000 in
theorem rpiece_calls (A : Option Addr) (n c : Nat) (xs : PB) (next : Int) (w : World) (h : IsBytes w A n xs) (hc : A = none → c = 0) :
    Calls Try.prog 30 #[.slice A n c, .int .i64 next] w (Pieces w xs next) := by
  have hl := h.1
  have hn := h.2.1
  have HF := Asd.mk (src_bytes h hc)
  cases hok : pieceOk xs.length next with
  | false =>
    have HN : Asd (pieceN xs next = 3) := Asd.mk (by simp [pieceN, hok])
    have HL : Asd (pieceL xs next = []) := Asd.mk (by simp [pieceL, hok])
    rw [hl] at hok
    clear h
    by_cases h0 : n < 1
    · clear hok
      go_enter Try.func30, Try.ntmps30
      go_wp2
      go_ret2
      exact ⟨.slice none 0 0, ret_eq (by rw [HN.out]; rfl), by rw [HL.out]; exact World.ownsRow_nil _ _ _ _, Below.refl _ _⟩
    by_cases h1 : 503 < n
    · clear hok
      go_enter Try.func30, Try.ntmps30
      go_wp2
      go_ret2
      exact ⟨.slice none 0 0, ret_eq (by rw [HN.out]; rfl), by rw [HL.out]; exact World.ownsRow_nil _ _ _ _, Below.refl _ _⟩
    have h2 : ¬ next = 0 ∧ isPage next = false := by
      simp only [pieceOk, Bool.and_eq_false_iff, Bool.or_eq_false_iff, decide_eq_false_iff_not] at hok
      rcases hok with (hok | hok) | hok
      · omega
      · omega
      · exact hok
    have h3 : (next != 0) = true := by rw [bne_iff_ne]; exact h2.1
    have HP := Asd.mk h2.2
    have h5 := h2.1
    clear hok h2
    go_enter Try.func30, Try.ntmps30
    go_wp2_with (go_at_call 51; refine (rpage_calls _ _).mono ?_; rintro e w' ⟨rfl, rfl⟩; rw [HP.out])
    go_ret2
    exact ⟨.slice none 0 0, ret_eq (by rw [HN.out]; rfl), by rw [HL.out]; exact World.ownsRow_nil _ _ _ _, Below.refl _ _⟩
  | true =>
    have HN : Asd (pieceN xs next = 0) := Asd.mk (by simp [pieceN, hok])
    have HL : Asd (pieceL xs next = pieceB xs next) := Asd.mk (by simp [pieceL, hok])
    rw [hl] at hok
    have h2 : 1 ≤ n ∧ n ≤ 503 ∧ (0 ≤ next ∧ next ≤ 4096) ∧ (next = 0 ∨ isPage next = true) := by
      simp only [pieceOk, Bool.and_eq_true, Bool.or_eq_true, decide_eq_true_eq] at hok
      refine ⟨hok.1.1, hok.1.2, ?_, hok.2⟩
      rcases hok.2 with h | h
      · omega
      · have := page_pos h; omega
    obtain ⟨h20, h21, ⟨h22, h24⟩, h23⟩ := h2
    have HLN := Asd.mk hl
    have HFN : Asd (∀ k : Int, Feeds ((w.alloc (.cells #[.int .u8 3] 5)).alloc (.cells (bcells (le2 k)).toArray 5)) (some ⟨w.heap.size + 1, 0, none⟩) 2 2 1 (bcells (le2 k))) := Asd.mk fun k => by
      have e : (w.alloc (.cells #[.int .u8 3] 5)).heap.size = w.heap.size + 1 := by simp
      have hb := blk_new (w.alloc (.cells #[.int .u8 3] 5)) (.cells (bcells (le2 k)).toArray 5)
      rw [e] at hb
      exact feeds_two hb
    have HO : Asd (OwnM (w.alloc (.cells #[.int .u8 3] 5)) w.heap.size (some ⟨w.heap.size, 0, none⟩) 1 1 [3]) := Asd.mk (own_m (own_made (xs := [3]) (blk_new w _) (Nat.le_refl _) (by simp)) rfl)
    clear h hl hok
    by_cases hz : next = 0
    · subst hz
      clear h23
      go_enter Try.func30, Try.ntmps30
      go_wp2_with fail
      refine (rtwo_calls 0 _ (by omega) (by omega)).mono ?_
      rintro e w2' ⟨rfl, rfl⟩
      go_wp2_with (at_builtin; refine wpList_bytes rfl (.tmp 24) (.tmp 26) rfl w.heap.size (some ⟨w.heap.size, 0, none⟩) 1 1 rfl (HO.out.alloc _) (some ⟨w.heap.size + 1, 0, none⟩) 2 2 rfl (HFN.out 0) (by omega) (by simp; omega) ?_)
      intro P2 d2 w2 ho2 hg2
      have HO2 := Asd.mk ho2
      have HG2 : Asd (Below w.heap.size w w2) := Asd.mk ((below_alloc (below_alloc (Below.refl _ w) (.cells #[.int .u8 3] 5)) _).trans hg2.below)
      clear ho2 hg2
      go_wp2_with fail
      refine (rtwo_calls n w2 (by omega) (by omega)).mono ?_
      rintro e w3' ⟨rfl, rfl⟩
      have hgs := HG2.out.size
      go_wp2_with (at_builtin; refine wpList_bytes rfl (.tmp 28) (.tmp 31) rfl w.heap.size P2 3 d2 rfl (HO2.out.alloc _) (some ⟨w2.heap.size, 0, none⟩) 2 2 rfl (feeds_two (blk_new w2 _)) (by omega) (by simp; omega) ?_)
      intro P3 d3 w3 ho3 hg3
      have HO3 := Asd.mk ho3
      have HG3 : Asd (Below w.heap.size w w3) := Asd.mk ((below_alloc HG2.out _).trans hg3.below)
      have HF3 := Asd.mk (HF.out.below HG3.out)
      clear ho3 hg3
      go_wp2_with (at_builtin; refine wpList_bytes rfl (.tmp 32) (.tmp 33) rfl w.heap.size P3 5 d3 rfl HO3.out A n c rfl HF3.out (by omega) HG3.out.size ?_)
      intro P4 d4 w4 ho4 hg4
      have HO4 := Asd.mk ho4
      have HG4 : Asd (Below w.heap.size w w4) := Asd.mk (HG3.out.trans hg4.below)
      clear ho4 hg4
      go_wp2_with fail
      refine (pad_m w.heap.size P4 (5 + n) d4 _ w4 HO4.out HG4.out.size (by omega)).mono ?_
      rintro e w5 ⟨P5, d5, rfl, ho5, hg5⟩
      have HO5 := Asd.mk ho5
      have HG5 : Asd (Below w.heap.size w w5) := Asd.mk (HG4.out.trans hg5)
      clear ho5 hg5
      go_wp2
      go_ret2
      refine ⟨.slice P5 508 d5, ret_eq (by rw [HN.out]; rfl), ?_, HG5.out⟩
      have e := HO5.out.own
      rw [HL.out, pieceB, HLN.out]
      simpa [List.append_assoc] using e
    · have h3 : (next != 0) = true := by rw [bne_iff_ne]; exact hz
      have HP : Asd (isPage next = true) := Asd.mk (by rcases h23 with h | h; exact absurd h hz; exact h)
      have h5 := hz
      clear h23 hz
      go_enter Try.func30, Try.ntmps30
      go_wp2_with (go_at_call 51; refine (rpage_calls _ _).mono ?_; rintro e w' ⟨rfl, rfl⟩; rw [HP.out])
      refine (rtwo_calls next _ (by omega) (by omega)).mono ?_
      rintro e w2' ⟨rfl, rfl⟩
      go_wp2_with (at_builtin; refine wpList_bytes rfl (.tmp 24) (.tmp 26) rfl w.heap.size (some ⟨w.heap.size, 0, none⟩) 1 1 rfl (HO.out.alloc _) (some ⟨w.heap.size + 1, 0, none⟩) 2 2 rfl (HFN.out next) (by omega) (by simp; omega) ?_)
      intro P2 d2 w2 ho2 hg2
      have HO2 := Asd.mk ho2
      have HG2 : Asd (Below w.heap.size w w2) := Asd.mk ((below_alloc (below_alloc (Below.refl _ w) (.cells #[.int .u8 3] 5)) _).trans hg2.below)
      clear ho2 hg2
      go_wp2_with fail
      refine (rtwo_calls n w2 (by omega) (by omega)).mono ?_
      rintro e w3' ⟨rfl, rfl⟩
      have hgs := HG2.out.size
      go_wp2_with (at_builtin; refine wpList_bytes rfl (.tmp 28) (.tmp 31) rfl w.heap.size P2 3 d2 rfl (HO2.out.alloc _) (some ⟨w2.heap.size, 0, none⟩) 2 2 rfl (feeds_two (blk_new w2 _)) (by omega) (by simp; omega) ?_)
      intro P3 d3 w3 ho3 hg3
      have HO3 := Asd.mk ho3
      have HG3 : Asd (Below w.heap.size w w3) := Asd.mk ((below_alloc HG2.out _).trans hg3.below)
      have HF3 := Asd.mk (HF.out.below HG3.out)
      clear ho3 hg3
      go_wp2_with (at_builtin; refine wpList_bytes rfl (.tmp 32) (.tmp 33) rfl w.heap.size P3 5 d3 rfl HO3.out A n c rfl HF3.out (by omega) HG3.out.size ?_)
      intro P4 d4 w4 ho4 hg4
      have HO4 := Asd.mk ho4
      have HG4 : Asd (Below w.heap.size w w4) := Asd.mk (HG3.out.trans hg4.below)
      clear ho4 hg4
      go_wp2_with fail
      refine (pad_m w.heap.size P4 (5 + n) d4 _ w4 HO4.out HG4.out.size (by omega)).mono ?_
      rintro e w5 ⟨P5, d5, rfl, ho5, hg5⟩
      have HO5 := Asd.mk ho5
      have HG5 : Asd (Below w.heap.size w w5) := Asd.mk (HG4.out.trans hg5)
      clear ho5 hg5
      go_wp2
      go_ret2
      refine ⟨.slice P5 508 d5, ret_eq (by rw [HN.out]; rfl), ?_, HG5.out⟩
      have e := HO5.out.own
      rw [HL.out, pieceB, HLN.out]
      simpa [List.append_assoc] using e
end Go.Proofs.Ytnohhmopiflboaa.Nod
