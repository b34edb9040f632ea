/- empty; pieces of long values: the program's Piece and the reference's. -/
import Derived.Test.YtnohhmopiflboaaNode24
set_option linter.unusedVariables false
set_option linter.unusedSimpArgs false
namespace Go.Proofs.Ytnohhmopiflboaa.Nod
open Go.RowKit Go.Proofs.Ytnohhmopiflboaa.Base Go.Proofs.Ytnohhmopiflboaa.Byt Go.Proofs.Ytnohhmopiflboaa.Rd Go.Proofs.Ytnohhmopiflboaa.App

def zeros (xs : PB) : Bool := xs.all (fun b => b == 0)
theorem nought_calls (b : UInt8) (w : World) : Calls Try.prog 84 #[bcell b] w fun e w' => e = .returned (.bool (!(b == 0))) ∧ w = w' := by
  by_cases h : b = 0
  · subst h
    show Calls _ _ #[.int .u8 0] _ _
    go_enter Try.func84, Try.ntmps84
    go_wp2
    go_ret
    exact ⟨rfl, rfl⟩
  · have h2 : (b == 0) = false := by simp [h]
    have h3 : ((b.toNat : Int) != 0) = true := by
      rw [bne_iff_ne]
      intro he
      apply h
      apply UInt8.toNat_inj.1
      simpa using he
    have H2 := Asd.mk h2
    simp only [bcell]
    clear h h2
    go_enter Try.func84, Try.ntmps84
    go_wp2
    go_ret
    exact ⟨ret_eq (by rw [H2.out]; rfl), rfl⟩
theorem empty_calls (A : Option Addr) (n c : Nat) (xs : PB) (w : World) (h : IsBytes w A n xs) :
    Calls Try.prog 49 #[.slice A n c] w fun e w' => e = .returned (.bool (zeros xs)) ∧ w = w' := by
  have H : Asd (∀ w', w = w' → Calls Try.prog 83 #[.slice A n c, .func (.func 84) #[] #[]] w' fun e w' => e = .returned (.bool (!zeros xs)) ∧ w = w') := Asd.mk fun w' hw => by
    subst hw
    unfold zeros
    rw [← anyN_list xs (fun b => b == 0) (fun j => if hj : j < xs.length then !(xs[j] == 0) else false) n h.1 (fun j hj => by simp [hj])]
    refine contains_byte _ #[] A n c (fun j => bcell (xs.getD j 0)) _ w ⟨h.2.1, h.2.2⟩ (enter_of Try.func84 (by rfl) (by rfl)) fun j hj => ?_
    have hjk : j < xs.length := by rw [h.1]; exact hj
    rw [dif_pos hjk]
    have e : xs.getD j 0 = xs[j] := by simp [List.getD, hjk]
    simp only [e]
    exact nought_calls _ w
  generalize hz : zeros xs = z at H
  have HZ := Asd.mk hz
  clear h hz
  go_enter Try.func49, Try.ntmps49
  go_wp2_with fail
  refine (H.out _ rfl).mono ?_
  rintro e w' ⟨rfl, rfl⟩
  go_wp2
  go_ret
  exact ⟨ret_eq (by cases z <;> rfl), rfl⟩

/-! ### Piece -/
def pieceOk (n : Nat) (next : Int) : Bool := decide (1 ≤ n) && decide (n ≤ 503) && (decide (next = 0) || isPage next)
def pieceB (xs : PB) (next : Int) : PB := padB (3 :: (le2 next ++ (le2 xs.length ++ xs)))
def pieceN (xs : PB) (next : Int) : Int := if pieceOk xs.length next then 0 else 3
def pieceL (xs : PB) (next : Int) : PB := if pieceOk xs.length next then pieceB xs next else []
def Pieces (w : World) (xs : PB) (next : Int) (e : Ending) (w' : World) : Prop :=
  ∃ v, e = .returned (.tuple #[v, .int .i64 (pieceN xs next)]) ∧ OwnB w' w.heap.size v (pieceL xs next) ∧ Below w.heap.size w w'

set_option maxRecDepth 100000 in
set_option maxHeartbeats 1600000 in
theorem piece_calls (A : Option Addr) (n c : Nat) (xs : PB) (next : Int) (w : World) (h : IsBytes w A n xs) (hc : A = none → c = 0) :
    Calls Try.prog 29 #[.slice A n c, .int .i64 next] w (Pieces w xs next) := by
  have hl := h.1
  have hn := h.2.1
  have HF := Asd.mk (src_bytes h hc)
  cases hok : pieceOk xs.length next with
  | false =>
    have HN : Asd (pieceN xs next = 3) := Asd.mk (by simp [pieceN, hok])
    have HL : Asd (pieceL xs next = []) := Asd.mk (by simp [pieceL, hok])
    rw [hl] at hok
    clear h
    by_cases h0 : n < 1
    · clear hok
      go_enter Try.func29, Try.ntmps29
      go_wp2
      go_ret2
      exact ⟨.slice none 0 0, ret_eq (by rw [HN.out]; rfl), by rw [HL.out]; exact World.ownsRow_nil _ _ _ _, Below.refl _ _⟩
    by_cases h1 : 503 < n
    · clear hok
      go_enter Try.func29, Try.ntmps29
      go_wp2
      go_ret2
      exact ⟨.slice none 0 0, ret_eq (by rw [HN.out]; rfl), by rw [HL.out]; exact World.ownsRow_nil _ _ _ _, Below.refl _ _⟩
    have h2 : ¬ next = 0 ∧ isPage next = false := by
      simp only [pieceOk, Bool.and_eq_false_iff, Bool.or_eq_false_iff, decide_eq_false_iff_not] at hok
      rcases hok with (hok | hok) | hok
      · omega
      · omega
      · exact hok
    have h3 : (next != 0) = true := by rw [bne_iff_ne]; exact h2.1
    have HP := Asd.mk h2.2
    have h5 := h2.1
    clear hok h2
    go_enter Try.func29, Try.ntmps29
    go_wp2_with (go_at_call 48; refine (page_calls _ _).mono ?_; rintro e w' ⟨rfl, rfl⟩; rw [HP.out])
    go_ret2
    exact ⟨.slice none 0 0, ret_eq (by rw [HN.out]; rfl), by rw [HL.out]; exact World.ownsRow_nil _ _ _ _, Below.refl _ _⟩
  | true =>
    have HN : Asd (pieceN xs next = 0) := Asd.mk (by simp [pieceN, hok])
    have HL : Asd (pieceL xs next = pieceB xs next) := Asd.mk (by simp [pieceL, hok])
    rw [hl] at hok
    have h2 : 1 ≤ n ∧ n ≤ 503 ∧ 0 ≤ next ∧ (next = 0 ∨ isPage next = true) := by
      simp only [pieceOk, Bool.and_eq_true, Bool.or_eq_true, decide_eq_true_eq] at hok
      refine ⟨hok.1.1, hok.1.2, ?_, hok.2⟩
      rcases hok.2 with h | h
      · omega
      · exact (page_pos h).1
    obtain ⟨h20, h21, h22, h23⟩ := h2
    have HLN := Asd.mk hl
    have HO : Asd (OwnM (w.alloc (.cells #[.int .u8 3] 5)) w.heap.size (some ⟨w.heap.size, 0, none⟩) 1 1 [3]) := Asd.mk (own_m (own_made (xs := [3]) (blk_new w _) (Nat.le_refl _) (by simp)) rfl)
    clear h hl hok
    by_cases hz : next = 0
    · subst hz
      clear h23
      go_enter Try.func29, Try.ntmps29
      go_wp2_with fail
      refine (two_m w.heap.size _ 1 1 [3] 0 _ HO.out (by simp) (by omega) (by omega)).mono ?_
      rintro e w2 ⟨P2, d2, rfl, ho2, hg2⟩
      have HO2 := Asd.mk ho2
      have HG2 : Asd (Below w.heap.size w w2) := Asd.mk ((below_alloc (Below.refl _ w) (.cells #[.int .u8 3] 5)).trans hg2.below)
      clear ho2 hg2
      go_wp2_with fail
      refine (two_m w.heap.size P2 3 d2 _ n w2 HO2.out HG2.out.size (by omega) (by omega)).mono ?_
      rintro e w3 ⟨P3, d3, rfl, ho3, hg3⟩
      have HO3 := Asd.mk ho3
      have HG3 : Asd (Below w.heap.size w w3) := Asd.mk (HG2.out.trans hg3.below)
      have HF3 := Asd.mk (HF.out.below HG3.out)
      clear ho3 hg3
      go_wp2_with (at_builtin; refine wpList_bytes rfl (.tmp 28) (.tmp 29) rfl w.heap.size P3 5 d3 rfl HO3.out A n c rfl HF3.out (by omega) HG3.out.size ?_)
      intro P4 d4 w4 ho4 hg4
      have HO4 := Asd.mk ho4
      have HG4 : Asd (Below w.heap.size w w4) := Asd.mk (HG3.out.trans hg4.below)
      clear ho4 hg4
      go_wp2_with fail
      refine (padded_m w.heap.size P4 (5 + n) d4 _ w4 HO4.out HG4.out.size (by omega) (by omega)).mono ?_
      rintro e w5 ⟨P5, d5, rfl, ho5, hg5⟩
      have HO5 := Asd.mk ho5
      have HG5 : Asd (Below w.heap.size w w5) := Asd.mk (HG4.out.trans hg5.below)
      clear ho5 hg5
      go_wp2
      go_ret2
      refine ⟨.slice P5 508 d5, ret_eq (by rw [HN.out]; rfl), ?_, HG5.out⟩
      have e := HO5.out.own
      rw [HL.out, pieceB, HLN.out]
      simpa [List.append_assoc] using e
    · have h3 : (next != 0) = true := by rw [bne_iff_ne]; exact hz
      have HP : Asd (isPage next = true) := Asd.mk (by rcases h23 with h | h; exact absurd h hz; exact h)
      have h5 := hz
      clear h23 hz
      go_enter Try.func29, Try.ntmps29
      go_wp2_with (go_at_call 48; refine (page_calls _ _).mono ?_; rintro e w' ⟨rfl, rfl⟩; rw [HP.out])
      refine (two_m w.heap.size _ 1 1 [3] next _ HO.out (by simp) (by omega) (by omega)).mono ?_
      rintro e w2 ⟨P2, d2, rfl, ho2, hg2⟩
      have HO2 := Asd.mk ho2
      have HG2 : Asd (Below w.heap.size w w2) := Asd.mk ((below_alloc (Below.refl _ w) (.cells #[.int .u8 3] 5)).trans hg2.below)
      clear ho2 hg2
      go_wp2_with fail
      refine (two_m w.heap.size P2 3 d2 _ n w2 HO2.out HG2.out.size (by omega) (by omega)).mono ?_
      rintro e w3 ⟨P3, d3, rfl, ho3, hg3⟩
      have HO3 := Asd.mk ho3
      have HG3 : Asd (Below w.heap.size w w3) := Asd.mk (HG2.out.trans hg3.below)
      have HF3 := Asd.mk (HF.out.below HG3.out)
      clear ho3 hg3
      go_wp2_with (at_builtin; refine wpList_bytes rfl (.tmp 28) (.tmp 29) rfl w.heap.size P3 5 d3 rfl HO3.out A n c rfl HF3.out (by omega) HG3.out.size ?_)
      intro P4 d4 w4 ho4 hg4
      have HO4 := Asd.mk ho4
      have HG4 : Asd (Below w.heap.size w w4) := Asd.mk (HG3.out.trans hg4.below)
      clear ho4 hg4
      go_wp2_with fail
      refine (padded_m w.heap.size P4 (5 + n) d4 _ w4 HO4.out HG4.out.size (by omega) (by omega)).mono ?_
      rintro e w5 ⟨P5, d5, rfl, ho5, hg5⟩
      have HO5 := Asd.mk ho5
      have HG5 : Asd (Below w.heap.size w w5) := Asd.mk (HG4.out.trans hg5.below)
      clear ho5 hg5
      go_wp2
      go_ret2
      refine ⟨.slice P5 508 d5, ret_eq (by rw [HN.out]; rfl), ?_, HG5.out⟩
      have e := HO5.out.own
      rw [HL.out, pieceB, HLN.out]
      simpa [List.append_assoc] using e
end Go.Proofs.Ytnohhmopiflboaa.Nod
