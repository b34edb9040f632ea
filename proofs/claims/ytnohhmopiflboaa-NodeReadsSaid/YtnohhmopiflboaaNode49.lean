/- The reference's Open. -/
import Derived.Test.YtnohhmopiflboaaNode48
import Derived.Test.YtnohhmopiflboaaNode29
set_option linter.unusedVariables false
set_option linter.unusedSimpArgs false
namespace Go.Proofs.Ytnohhmopiflboaa.Nod
open Go.RowKit Go.Proofs.Ytnohhmopiflboaa.Base Go.Proofs.Ytnohhmopiflboaa.Byt Go.Proofs.Ytnohhmopiflboaa.Rd Go.Proofs.Ytnohhmopiflboaa.App

theorem le2_at (a b : UInt8) : le2 ((a.toNat + 256 * b.toNat : Nat) : Int) = [a, b] := by
  have h1 := a.toNat_lt
  have h2 := b.toNat_lt
  unfold le2
  congr 1
  · apply UInt8.toNat_inj.1
    rw [UInt8.toNat_ofNat']
    omega
  · congr 1
    apply UInt8.toNat_inj.1
    rw [UInt8.toNat_ofNat']
    omega
theorem open_piece {xs : PB} (hl : xs.length = 508) (h0 : xs.getD 0 0 = 3) (hn : at2 xs 3 ≤ 503) :
    openOk xs = true ↔ pieceOk ((xs.drop 5).take (at2 xs 3)).length (at2 xs 1 : Nat) = true ∧ pieceB ((xs.drop 5).take (at2 xs 3)) (at2 xs 1 : Nat) = xs := by
  constructor
  · intro h
    unfold openOk at h
    simp only [Bool.and_eq_true, Bool.or_eq_true, decide_eq_true_eq] at h
    obtain ⟨⟨⟨⟨⟨_, _⟩, h3⟩, h4⟩, h5⟩, h6⟩ := h
    match xs, hl with
    | x0 :: x1 :: x2 :: x3 :: x4 :: r, hl =>
      have hr : r.length = 503 := by simpa using hl
      have e0 : x0 = 3 := h0
      have a1 : at2 (x0 :: x1 :: x2 :: x3 :: x4 :: r) 1 = x1.toNat + 256 * x2.toNat := rfl
      have a3 : at2 (x0 :: x1 :: x2 :: x3 :: x4 :: r) 3 = x3.toNat + 256 * x4.toNat := rfl
      have d5 : (x0 :: x1 :: x2 :: x3 :: x4 :: r).drop 5 = r := rfl
      rw [d5]
      generalize hnn : at2 (x0 :: x1 :: x2 :: x3 :: x4 :: r) 3 = nn at *
      have hlen : (r.take nn).length = nn := by rw [List.length_take]; omega
      have hz : zeros (r.drop nn) = true := by
        rw [← List.drop_drop, d5] at h6
        exact h6
      refine ⟨?_, ?_⟩
      · rw [hlen]
        unfold pieceOk
        simp only [Bool.and_eq_true, Bool.or_eq_true, decide_eq_true_eq]
        refine ⟨⟨h3, hn⟩, ?_⟩
        rcases h5 with h5 | h5
        · left; omega
        · right; exact h5
      · have e2 := zeros_eq hz
        have e3 : r = r.take nn ++ noughts (503 - nn) := by
          have e4 := List.take_append_drop nn r
          rw [e2, List.length_drop, hr] at e4
          exact e4.symm
        unfold pieceB padB
        have e9 : le2 ((nn : Nat) : Int) = [x3, x4] := by rw [a3]; exact le2_at x3 x4
        rw [hlen, a1, le2_at, e9, e0]
        have e5 : (3 :: ([x1, x2] ++ ([x3, x4] ++ r.take nn)) : PB).length = 5 + nn := by simp [hlen]; omega
        rw [e5, show 508 - (5 + nn) = 503 - nn by omega]
        simp only [List.cons_append, List.nil_append]
        rw [← e3]
  · rintro ⟨h1, h2⟩
    have := (piece_open h1).1
    rw [h2] at this
    exact this

set_option maxRecDepth 100000 in
set_option maxHeartbeats 3200000 in
theorem ropen_calls (A : Option Addr) (m c : Nat) (xs : PB) (w : World) (h : IsBytes w A m xs) (hmc : m ≤ c) :
    Calls Try.prog 28 #[.slice A m c] w (Opened w xs) := by
  have hl := h.1
  have hn := h.2.1
  by_cases hm : m = 508
  rotate_left
  · have HN := Asd.mk (opened_no (w := w) (w' := w) (show openOk xs = false by simp [openOk]; omega) (Below.refl _ _))
    have hne : ((m : Int) != 508) = true := by rw [bne_iff_ne]; omega
    clear h
    go_enter Try.func28, Try.ntmps28
    go_wp2
    (try simp only [Exit.inBlock, Exit.then])
    refine bodyPost_ret (results_tmp3 rfl _ _ _) rfl ?_
    exact HN.out
  subst hm
  obtain ⟨gb, o, rfl, hc⟩ := h.2.2 (by omega)
  have q0 := hc 0 (by omega)
  have q1 := hc 1 (by omega)
  have q2 := hc 2 (by omega)
  have q3 := hc 3 (by omega)
  have q4 := hc 4 (by omega)
  simp only [Nat.add_zero] at q0
  have HIB := Asd.mk h
  by_cases h0 : xs.getD 0 0 = 3
  rotate_left
  · have HN := Asd.mk (opened_no (w := w) (w' := w) (show openOk xs = false by simp [openOk]; intro _ hh; exact absurd (by simpa [List.getD] using hh) h0) (Below.refl _ _))
    generalize xs.getD 0 0 = y0 at q0 h0
    have h3 : ((y0.toNat : Int) != 3) = true := by
      rw [bne_iff_ne]
      intro he
      apply h0
      apply UInt8.toNat_inj.1
      show y0.toNat = 3
      omega
    simp only [bcell] at q0
    clear h hc h0 q1 q2 q3 q4
    go_enter Try.func28, Try.ntmps28
    go_wp2
    (try simp only [Exit.inBlock, Exit.then])
    refine bodyPost_ret (results_tmp3 rfl _ _ _) rfl ?_
    exact HN.out
  rw [h0] at q0
  have HA1 : Asd (at2 xs 1 = (xs.getD 1 0).toNat + 256 * (xs.getD 2 0).toNat) := Asd.mk rfl
  have HA3 : Asd (at2 xs 3 = (xs.getD 3 0).toNat + 256 * (xs.getD 4 0).toNat) := Asd.mk rfl
  have HIFF : Asd (at2 xs 3 ≤ 503 → (openOk xs = true ↔ pieceOk ((xs.drop 5).take (at2 xs 3)).length (at2 xs 1 : Nat) = true ∧ pieceB ((xs.drop 5).take (at2 xs 3)) (at2 xs 1 : Nat) = xs)) := Asd.mk fun h9 => open_piece hl h0 h9
  have HBIG : Asd (503 < at2 xs 3 → openOk xs = false) := Asd.mk fun h9 => by
    cases hh : openOk xs with
    | false => rfl
    | true =>
      unfold openOk at hh
      simp only [Bool.and_eq_true, Bool.or_eq_true, decide_eq_true_eq] at hh
      omega
  have HNO : Asd (openOk xs = false → ∀ w', Below w.heap.size w w' → Opened w xs (.returned (.tuple #[.slice none 0 0, .int .i64 0, .int .i64 10])) w') := Asd.mk fun h w' hb => opened_no h hb
  have hx1 := (xs.getD 1 0).toNat_lt
  have hx2 := (xs.getD 2 0).toNat_lt
  have hx3 := (xs.getD 3 0).toNat_lt
  have hx4 := (xs.getD 4 0).toNat_lt
  generalize xs.getD 1 0 = y1 at q1 HA1 hx1
  generalize xs.getD 2 0 = y2 at q2 HA1 hx2
  generalize xs.getD 3 0 = y3 at q3 HA3 hx3
  generalize xs.getD 4 0 = y4 at q4 HA3 hx4
  have c1 : IntKind.i64.wrap (y1.toNat : Int) = (y1.toNat : Int) := by rw [IntKind.wrap_i64]; omega
  have c2 : IntKind.i64.wrap (y2.toNat : Int) = (y2.toNat : Int) := by rw [IntKind.wrap_i64]; omega
  have c3 : IntKind.i64.wrap (y3.toNat : Int) = (y3.toNat : Int) := by rw [IntKind.wrap_i64]; omega
  have c4 : IntKind.i64.wrap (y4.toNat : Int) = (y4.toNat : Int) := by rw [IntKind.wrap_i64]; omega
  have c22 : IntKind.i64.wrap (256 * (y2.toNat : Int)) = 256 * (y2.toNat : Int) := by rw [IntKind.wrap_i64]; omega
  have c44 : IntKind.i64.wrap (256 * (y4.toNat : Int)) = 256 * (y4.toNat : Int) := by rw [IntKind.wrap_i64]; omega
  have c12 : IntKind.i64.wrap ((y1.toNat : Int) + 256 * (y2.toNat : Int)) = (y1.toNat : Int) + 256 * (y2.toNat : Int) := by rw [IntKind.wrap_i64]; omega
  have c34 : IntKind.i64.wrap ((y3.toNat : Int) + 256 * (y4.toNat : Int)) = (y3.toNat : Int) + 256 * (y4.toNat : Int) := by rw [IntKind.wrap_i64]; omega
  have e1 : (y1.toNat : Int) + 256 * (y2.toNat : Int) = ((at2 xs 1 : Nat) : Int) := by rw [HA1.out]; push_cast; rfl
  have e3 : (y3.toNat : Int) + 256 * (y4.toNat : Int) = ((at2 xs 3 : Nat) : Int) := by rw [HA3.out]; push_cast; rfl
  have hlim1 : at2 xs 1 ≤ 70000 := by rw [HA1.out]; omega
  have hlim3 : at2 xs 3 ≤ 70000 := by rw [HA3.out]; omega
  have HOT : Asd (openOk xs = true → ∀ v w', OwnB w' w.heap.size v ((xs.drop 5).take (at2 xs 3)) → Below w.heap.size w w' → Opened w xs (.returned (.tuple #[v, .int .i64 (at2 xs 1 : Nat), .int .i64 0])) w') := Asd.mk fun h9 v w' ho hb => ⟨v, by rw [if_pos h9, if_pos h9], by rw [if_pos h9]; exact ho, hb⟩
  generalize hnx : at2 xs 1 = nx at e1 HIFF hlim1 HOT
  generalize hnn : at2 xs 3 = nn at e3 HIFF hlim3 HBIG HOT
  have E1 := Asd.mk e1
  have E3 := Asd.mk e3
  have h3 : bcell (3 : UInt8) = .int .u8 3 := rfl
  rw [h3] at q0
  simp only [bcell] at q1 q2 q3 q4
  clear h hc h0 hx1 hx2 hx3 hx4 hnx hnn e1 e3 HA1 HA3 h3
  go_enter Try.func28, Try.ntmps28
  go_upto_region 3 with fail
  go_region_held3 (fun w' => w'.cell? ⟨gb, o + 1, none⟩ = some (.int .u8 (y1.toNat : Int)) ∧ w'.cell? ⟨gb, o + 2, none⟩ = some (.int .u8 (y2.toNat : Int)) ∧ w'.cell? ⟨gb, o + 3, none⟩ = some (.int .u8 (y3.toNat : Int)) ∧ w'.cell? ⟨gb, o + 4, none⟩ = some (.int .u8 (y4.toNat : Int)))
    (first
      | exact ⟨q1, q2, q3, q4⟩
      | fail)
    (fail)
  rw [E1.out, E3.out]
  have HD : Asd (Below w.heap.size w w.drew) := Asd.mk (Below.refl _ _).drew
  have HIB2 : Asd (IsBytes w.drew (some ⟨gb, o, none⟩) 508 xs) := Asd.mk (HIB.out.below (Below.refl _ _).drew)
  clear HIB q0 q1 q2 q3 q4 c1 c2 c3 c4 c22 c44 c12 c34 E1 E3
  by_cases hn2 : 503 < nn
  · have HN := Asd.mk (HNO.out (HBIG.out hn2) _ HD.out)
    go_wp2
    (try simp only [Exit.inBlock, Exit.then])
    refine bodyPost_ret (results_tmp3 rfl _ _ _) rfl ?_
    exact HN.out
  have hw : IntKind.i64.wrap (5 + (nn : Int)) = 5 + (nn : Int) := by rw [IntKind.wrap_i64]; omega
  have hc5 : ¬ c = 5 := by omega
  have hc508 : 508 ≤ c := by omega
  have HMID : Asd (IsBytes w.drew (some ⟨gb, o + 5, none⟩) nn ((xs.drop 5).take nn)) := Asd.mk (bytes_take (bytes_drop HIB2.out 5 (by omega)) nn (by omega))
  have HIF := Asd.mk (HIFF.out (by omega))
  clear HIFF HBIG
  go_wp2_with fail
  refine (rpiece_calls (some ⟨gb, o + 5, none⟩) nn (c - 5) ((xs.drop 5).take nn) nx w.drew HMID.out (fun h => by cases h)).mono ?_
  rintro e w2 ⟨va, rfl, hoa, hb2⟩
  obtain ⟨Aa, ca, rfl⟩ := own_form hoa
  have HB2 : Asd (Below w.heap.size w w2) := Asd.mk (HD.out.trans hb2)
  have HMID2 := Asd.mk (HMID.out.below hb2)
  generalize hd : (xs.drop 5).take nn = d at HMID2 HIF hoa HOT ⊢
  by_cases hok : pieceOk d.length (nx : Nat) = true
  rotate_left
  · have HN := Asd.mk (HNO.out (by cases hh : openOk xs with
      | false => rfl
      | true => exact absurd (HIF.out.1 hh).1 hok) _ HB2.out)
    have hpn : pieceN d (nx : Nat) = 3 := by unfold pieceN; rw [if_neg hok]
    rw [hpn]
    clear hb2 hoa hok hpn hd
    go_wp2_with fail
    (try simp only [Exit.inBlock, Exit.then])
    refine bodyPost_ret (results_tmp3 rfl _ _ _) rfl ?_
    exact HN.out
  have hpn : pieceN d (nx : Nat) = 0 := by unfold pieceN; rw [if_pos hok]
  have hpl : pieceL d (nx : Nat) = pieceB d (nx : Nat) := by unfold pieceL; rw [if_pos hok]
  have hplen := (piece_open hok).2.2.2.1
  rw [hpl] at hoa ⊢
  have HOA := Asd.mk (own_m hoa rfl)
  rw [hpn]
  rw [hplen] at HOA ⊢
  have k1 := conv_b ca (HOA.out.bytes (by omega))
  have k2 := conv_b c (HIB2.out.below hb2)
  clear hpn hpl hplen hoa
  by_cases heq : pieceB d (nx : Nat) = xs
  rotate_left
  · have HN := Asd.mk (HNO.out (by cases hh : openOk xs with
      | false => rfl
      | true => exact absurd (HIF.out.1 hh).2 heq) _ HB2.out)
    have hst := str_ne heq
    generalize (⟨(pieceB d (nx : Nat)).toArray⟩ : ByteArray) = sk at k1 hst
    generalize (⟨xs.toArray⟩ : ByteArray) = sl at k2 hst
    have hst2 : (!(sk.toList == sl.toList)) = true := by simpa using hst
    clear hb2 hok heq hst hd
    go_wp2_with fail
    (try simp only [Exit.inBlock, Exit.then])
    refine bodyPost_ret (results_tmp3 rfl _ _ _) rfl ?_
    exact HN.out
  have HYE := Asd.mk (HOT.out (HIF.out.2 ⟨hok, heq⟩))
  have hnn1 : ¬ nn = 0 := by
    have h8 := hok
    have h9 := HMID2.out.1
    simp only [pieceOk, Bool.and_eq_true, decide_eq_true_eq] at h8
    omega
  rw [heq] at k1
  generalize (⟨xs.toArray⟩ : ByteArray) = sl at k1 k2
  have HF := Asd.mk ((src_bytes (c := c - 5) HMID2.out (fun h => by cases h)).below (below_alloc (Below.refl _ _) (.cells #[] 5)))
  have HO : Asd ((w2.alloc (.cells #[] 5)).ownsRow w.heap.size 5 1 (.slice (some ⟨w2.heap.size, 0, none⟩) 0 0) 0 []) := Asd.mk (own_empty_new rfl HB2.out.size)
  have HDL := Asd.mk HMID2.out.1
  clear hb2 hok heq hd
  have hsz : w.heap.size ≤ (w2.alloc (.cells #[] 5)).heap.size := by have := HB2.out.size; simp; omega
  go_wp2_with (at_builtin; refine wpList_src rfl (.tmp 58) (.tmp 62) _ rfl rowB _ rfl HO.out (some ⟨gb, o + 5, none⟩) (5 + nn - 5) (c - 5) rfl (by rw [show 5 + nn - 5 = nn by omega]; exact HF.out) (by unfold maxLen; omega) (by omega) hsz ?_)
  intro A' c' w' ho hg
  have HOM : Asd (OwnB w' w.heap.size (.slice A' nn c') d) := Asd.mk (by
    exact OwnM.own (ho : OwnM w' w.heap.size A' nn c' d))
  have HBF : Asd (Below w.heap.size w w') := Asd.mk (below_grown_at (below_alloc HB2.out _) hg HB2.out.size)
  clear ho hg
  go_wp2_with fail
  (try simp only [Exit.inBlock, Exit.then])
  refine bodyPost_ret (results_tmp3 rfl _ _ _) rfl ?_
  exact HYE.out _ _ HOM.out HBF.out
end Go.Proofs.Ytnohhmopiflboaa.Nod
