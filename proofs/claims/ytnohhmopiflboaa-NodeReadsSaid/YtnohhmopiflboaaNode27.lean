/- Open: what a page of a long value says. -/
import Derived.Test.YtnohhmopiflboaaNode26
set_option linter.unusedVariables false
set_option linter.unusedSimpArgs false
namespace Go.Proofs.Ytnohhmopiflboaa.Nod
open Go.RowKit Go.Proofs.Ytnohhmopiflboaa.Base Go.Proofs.Ytnohhmopiflboaa.Byt Go.Proofs.Ytnohhmopiflboaa.Rd Go.Proofs.Ytnohhmopiflboaa.App

/-- A number of two bytes at place j. -/
def at2 (xs : PB) (j : Nat) : Nat := (xs.getD j 0).toNat + 256 * (xs.getD (j + 1) 0).toNat
def openOk (xs : PB) : Bool := decide (xs.length = 508) && decide (xs.getD 0 0 = 3) && decide (1 ≤ at2 xs 3) && decide (at2 xs 3 ≤ 503) && (decide (at2 xs 1 = 0) || isPage (at2 xs 1)) && zeros (xs.drop (5 + at2 xs 3))
def Opened (w : World) (xs : PB) (e : Ending) (w' : World) : Prop :=
  ∃ v, e = .returned (.tuple #[v, .int .i64 (if openOk xs then (at2 xs 1 : Int) else 0), .int .i64 (if openOk xs then 0 else 10)]) ∧ OwnB w' w.heap.size v (if openOk xs then (xs.drop 5).take (at2 xs 3) else []) ∧ Below w.heap.size w w'

theorem opened_no {w w' : World} {xs : PB} (h : openOk xs = false) (hb : Below w.heap.size w w') : Opened w xs (.returned (.tuple #[.slice none 0 0, .int .i64 0, .int .i64 10])) w' :=
  ⟨.slice none 0 0, by rw [h]; rfl, by rw [h]; exact World.ownsRow_nil _ _ _ _, hb⟩

set_option maxRecDepth 100000 in
set_option maxHeartbeats 1600000 in
theorem open_calls (gb o m c : Nat) (xs : PB) (w : World) (h : IsBytes w (some ⟨gb, o, none⟩) m xs) (hmc : m ≤ c) :
    Calls Try.prog 27 #[.slice (some ⟨gb, o, none⟩) m c] w (Opened w xs) := by
  have hl := h.1
  have hn := h.2.1
  by_cases hm : m = 508
  rotate_left
  · have HN := Asd.mk (opened_no (w := w) (w' := w) (show openOk xs = false by simp [openOk]; omega) (Below.refl _ _))
    have hne : ((m : Int) != 508) = true := by rw [bne_iff_ne]; omega
    clear h
    go_enter Try.func27, Try.ntmps27
    go_wp2
    (try simp only [Exit.inBlock, Exit.then])
    refine bodyPost_ret (results_tmp3 rfl _ _ _) rfl ?_
    exact HN.out
  subst hm
  obtain ⟨gb', o', e, hc⟩ := h.2.2 (by omega)
  cases e
  have q0 := hc 0 (by omega)
  have q1 := hc 1 (by omega)
  have q2 := hc 2 (by omega)
  have q3 := hc 3 (by omega)
  have q4 := hc 4 (by omega)
  simp only [Nat.add_zero] at q0
  have HIB := Asd.mk h
  by_cases h0 : xs.getD 0 0 = 3
  rotate_left
  · have HN := Asd.mk (opened_no (w := w) (w' := w) (show openOk xs = false by simp [openOk]; intro _ hh; exact absurd (by simpa [List.getD] using hh) h0) (Below.refl _ _))
    generalize xs.getD 0 0 = y0 at q0 h0
    have h3 : ((y0.toNat : Int) != 3) = true := by
      rw [bne_iff_ne]
      intro he
      apply h0
      apply UInt8.toNat_inj.1
      show y0.toNat = 3
      omega
    simp only [bcell] at q0
    clear h hc h0 q1 q2 q3 q4
    go_enter Try.func27, Try.ntmps27
    go_wp2
    (try simp only [Exit.inBlock, Exit.then])
    refine bodyPost_ret (results_tmp3 rfl _ _ _) rfl ?_
    exact HN.out
  rw [h0] at q0
  have H0 := Asd.mk h0
  have HA1 : Asd (at2 xs 1 = (xs.getD 1 0).toNat + 256 * (xs.getD 2 0).toNat) := Asd.mk rfl
  have HA3 : Asd (at2 xs 3 = (xs.getD 3 0).toNat + 256 * (xs.getD 4 0).toNat) := Asd.mk rfl
  have HOK : Asd (openOk xs = (decide (1 ≤ at2 xs 3) && decide (at2 xs 3 ≤ 503) && (decide (at2 xs 1 = 0) || isPage (at2 xs 1)) && zeros (xs.drop (5 + at2 xs 3)))) := Asd.mk (by unfold openOk; rw [h0, hl]; simp)
  have HNO : Asd (openOk xs = false → ∀ w', Below w.heap.size w w' → Opened w xs (.returned (.tuple #[.slice none 0 0, .int .i64 0, .int .i64 10])) w') := Asd.mk fun h w' hb => opened_no h hb
  have hx1 := (xs.getD 1 0).toNat_lt
  have hx2 := (xs.getD 2 0).toNat_lt
  have hx3 := (xs.getD 3 0).toNat_lt
  have hx4 := (xs.getD 4 0).toNat_lt
  generalize xs.getD 1 0 = y1 at q1 HA1 hx1
  generalize xs.getD 2 0 = y2 at q2 HA1 hx2
  generalize xs.getD 3 0 = y3 at q3 HA3 hx3
  generalize xs.getD 4 0 = y4 at q4 HA3 hx4
  have e1 := bits_two _ _ hx1 hx2
  have e3 := bits_two _ _ hx3 hx4
  rw [show ((y1.toNat : Int) + 256 * (y2.toNat : Int)) = ((at2 xs 1 : Nat) : Int) by rw [HA1.out]; push_cast; rfl] at e1
  rw [show ((y3.toNat : Int) + 256 * (y4.toNat : Int)) = ((at2 xs 3 : Nat) : Int) by rw [HA3.out]; push_cast; rfl] at e3
  have hlim1 : at2 xs 1 ≤ 70000 := by rw [HA1.out]; omega
  have hlim3 : at2 xs 3 ≤ 70000 := by rw [HA3.out]; omega
  generalize hnx : at2 xs 1 = nx at e1 HOK hlim1
  generalize hnn : at2 xs 3 = nn at e3 HOK hlim3
  have HNX := Asd.mk hnx
  have HNN := Asd.mk hnn
  have E1 := Asd.mk e1
  have E3 := Asd.mk e3
  have h3 : bcell (3 : UInt8) = .int .u8 3 := rfl
  rw [h3] at q0
  simp only [bcell] at q1 q2 q3 q4
  clear h hc h0 hx1 hx2 hx3 hx4 hnx hnn e1 e3 HA1 HA3 h3
  go_enter Try.func27, Try.ntmps27
  go_upto_region 3 with fail
  go_region_held3 (fun w' => w'.cell? ⟨gb, o + 1, none⟩ = some (.int .u8 (y1.toNat : Int)) ∧ w'.cell? ⟨gb, o + 2, none⟩ = some (.int .u8 (y2.toNat : Int)) ∧ w'.cell? ⟨gb, o + 3, none⟩ = some (.int .u8 (y3.toNat : Int)) ∧ w'.cell? ⟨gb, o + 4, none⟩ = some (.int .u8 (y4.toNat : Int)))
    (first
      | exact ⟨q1, q2, q3, q4⟩
      | fail)
    (fail)
  rw [E1.out, E3.out]
  have HD : Asd (Below w.heap.size w w.drew) := Asd.mk (Below.refl _ _).drew
  have HIB2 : Asd (IsBytes w.drew (some ⟨gb, o, none⟩) 508 xs) := Asd.mk (HIB.out.below (Below.refl _ _).drew)
  clear HIB q0 q1 q2 q3 q4
  by_cases hn1 : nn < 1
  · have HN := Asd.mk (HNO.out (by rw [HOK.out]; simp; omega) _ HD.out)
    go_wp2
    (try simp only [Exit.inBlock, Exit.then])
    refine bodyPost_ret (results_tmp3 rfl _ _ _) rfl ?_
    exact HN.out
  by_cases hn2 : 503 < nn
  · have HN := Asd.mk (HNO.out (by rw [HOK.out]; simp; omega) _ HD.out)
    go_wp2
    (try simp only [Exit.inBlock, Exit.then])
    refine bodyPost_ret (results_tmp3 rfl _ _ _) rfl ?_
    exact HN.out
  have hw : IntKind.i64.wrap (5 + (nn : Int)) = 5 + (nn : Int) := by rw [IntKind.wrap_i64]; omega
  have hc5 : ¬ c = 5 := by omega
  have hc508 : 508 ≤ c := by omega
  by_cases hp : nx = 0 ∨ isPage (nx : Int) = true
  rotate_left
  · have h5 : ¬ nx = 0 := fun h => hp (.inl h)
    have h4 : ((nx : Int) != 0) = true := by rw [bne_iff_ne]; omega
    have h6 : isPage (nx : Int) = false := by cases hh : isPage (nx : Int) with
      | false => rfl
      | true => exact absurd (.inr hh) hp
    have HN := Asd.mk (HNO.out (by rw [HOK.out, h6]; simp [h5]) _ HD.out)
    have HP := Asd.mk h6
    clear hp h6
    go_wp2_with (go_at_call 48; refine (page_calls _ _).mono ?_; rintro e w' ⟨rfl, rfl⟩; rw [HP.out])
    (try simp only [Exit.inBlock, Exit.then])
    refine bodyPost_ret (results_tmp3 rfl _ _ _) rfl ?_
    exact HN.out
  have HEM : Asd (∀ a : Addr, (a = ⟨gb, o + (5 + nn), none⟩ ∨ 508 - (5 + nn) = 0) → IsBytes w.drew (some ⟨gb, a.off, none⟩) (508 - (5 + nn)) (xs.drop (5 + nn))) := Asd.mk fun a ha => by
    have h1 := bytes_drop HIB2.out (5 + nn) (by omega)
    rcases ha with rfl | h0
    · exact h1
    · rw [h0] at h1 ⊢
      exact bytes_at h1
  have HMID : Asd (IsBytes w.drew (some ⟨gb, o + 5, none⟩) nn ((xs.drop 5).take nn)) := Asd.mk (bytes_take (bytes_drop HIB2.out 5 (by omega)) nn (by omega))
  by_cases hz : nx = 0
  · subst hz
    have HF : Asd (openOk xs = zeros (xs.drop (5 + nn))) := Asd.mk (by rw [HOK.out]; simp; omega)
    clear hp
    go_wp2_with fail
    · have hc0 : 508 - (5 + nn) = 0 := by omega
      refine (empty_calls (some ⟨gb, o, none⟩) (508 - (5 + nn)) (0) (xs.drop (5 + nn)) w.drew (HEM.out ⟨gb, o, none⟩ (.inr hc0))).mono ?_
      rintro e w' ⟨rfl, rfl⟩
      cases hzz : zeros (xs.drop (5 + nn)) with
      | false =>
        have HN := Asd.mk (HNO.out (by rw [HF.out, hzz]) _ HD.out)
        clear hzz
        go_wp2
        (try simp only [Exit.inBlock, Exit.then])
        refine bodyPost_ret (results_tmp3 rfl _ _ _) rfl ?_
        exact HN.out
      | true =>
        have HT : Asd (openOk xs = true) := Asd.mk (by rw [HF.out, hzz])
        clear hzz
        go_wp2_with fail
        refine (sclone_calls ⟨gb, o + 5, none⟩ nn _ _ w.drew HMID.out).mono ?_
        rintro e w2 ⟨A', c', rfl, ho, hb⟩
        have HO : Asd (OwnB w2 w.heap.size (.slice A' nn c') ((xs.drop 5).take nn)) := Asd.mk (OwnM.own ho)
        have HB := Asd.mk (HD.out.trans hb)
        clear ho hb
        go_wp2
        (try simp only [Exit.inBlock, Exit.then])
        refine bodyPost_ret (results_tmp3 rfl _ _ _) rfl ?_
        refine ⟨.slice A' nn c', ret_eq ?_, ?_, HB.out⟩
        · rw [if_pos HT.out, if_pos HT.out, HNX.out]; rfl
        · rw [if_pos HT.out, HNN.out]; exact HO.out
    · skip
      refine (empty_calls (some ⟨gb, o + (5 + nn), none⟩) (508 - (5 + nn)) (c - (5 + nn)) (xs.drop (5 + nn)) w.drew (HEM.out ⟨gb, o + (5 + nn), none⟩ (.inl rfl))).mono ?_
      rintro e w' ⟨rfl, rfl⟩
      cases hzz : zeros (xs.drop (5 + nn)) with
      | false =>
        have HN := Asd.mk (HNO.out (by rw [HF.out, hzz]) _ HD.out)
        clear hzz
        go_wp2
        (try simp only [Exit.inBlock, Exit.then])
        refine bodyPost_ret (results_tmp3 rfl _ _ _) rfl ?_
        exact HN.out
      | true =>
        have HT : Asd (openOk xs = true) := Asd.mk (by rw [HF.out, hzz])
        clear hzz
        go_wp2_with fail
        refine (sclone_calls ⟨gb, o + 5, none⟩ nn _ _ w.drew HMID.out).mono ?_
        rintro e w2 ⟨A', c', rfl, ho, hb⟩
        have HO : Asd (OwnB w2 w.heap.size (.slice A' nn c') ((xs.drop 5).take nn)) := Asd.mk (OwnM.own ho)
        have HB := Asd.mk (HD.out.trans hb)
        clear ho hb
        go_wp2
        (try simp only [Exit.inBlock, Exit.then])
        refine bodyPost_ret (results_tmp3 rfl _ _ _) rfl ?_
        refine ⟨.slice A' nn c', ret_eq ?_, ?_, HB.out⟩
        · rw [if_pos HT.out, if_pos HT.out, HNX.out]; rfl
        · rw [if_pos HT.out, HNN.out]; exact HO.out
  · have h4 : ((nx : Int) != 0) = true := by rw [bne_iff_ne]; omega
    have hp2 : isPage (nx : Int) = true := by rcases hp with h | h; exact absurd h hz; exact h
    have HF : Asd (openOk xs = zeros (xs.drop (5 + nn))) := Asd.mk (by rw [HOK.out, hp2]; simp; omega)
    have HP := Asd.mk hp2
    clear hp hp2
    go_wp2_with (go_at_call 48; refine (page_calls _ _).mono ?_; rintro e w' ⟨rfl, rfl⟩; rw [HP.out])
    · have hc0 : 508 - (5 + nn) = 0 := by omega
      refine (empty_calls (some ⟨gb, o, none⟩) (508 - (5 + nn)) (0) (xs.drop (5 + nn)) w.drew (HEM.out ⟨gb, o, none⟩ (.inr hc0))).mono ?_
      rintro e w' ⟨rfl, rfl⟩
      cases hzz : zeros (xs.drop (5 + nn)) with
      | false =>
        have HN := Asd.mk (HNO.out (by rw [HF.out, hzz]) _ HD.out)
        clear hzz
        go_wp2
        (try simp only [Exit.inBlock, Exit.then])
        refine bodyPost_ret (results_tmp3 rfl _ _ _) rfl ?_
        exact HN.out
      | true =>
        have HT : Asd (openOk xs = true) := Asd.mk (by rw [HF.out, hzz])
        clear hzz
        go_wp2_with fail
        refine (sclone_calls ⟨gb, o + 5, none⟩ nn _ _ w.drew HMID.out).mono ?_
        rintro e w2 ⟨A', c', rfl, ho, hb⟩
        have HO : Asd (OwnB w2 w.heap.size (.slice A' nn c') ((xs.drop 5).take nn)) := Asd.mk (OwnM.own ho)
        have HB := Asd.mk (HD.out.trans hb)
        clear ho hb
        go_wp2
        (try simp only [Exit.inBlock, Exit.then])
        refine bodyPost_ret (results_tmp3 rfl _ _ _) rfl ?_
        refine ⟨.slice A' nn c', ret_eq ?_, ?_, HB.out⟩
        · rw [if_pos HT.out, if_pos HT.out, HNX.out]; rfl
        · rw [if_pos HT.out, HNN.out]; exact HO.out
    · skip
      refine (empty_calls (some ⟨gb, o + (5 + nn), none⟩) (508 - (5 + nn)) (c - (5 + nn)) (xs.drop (5 + nn)) w.drew (HEM.out ⟨gb, o + (5 + nn), none⟩ (.inl rfl))).mono ?_
      rintro e w' ⟨rfl, rfl⟩
      cases hzz : zeros (xs.drop (5 + nn)) with
      | false =>
        have HN := Asd.mk (HNO.out (by rw [HF.out, hzz]) _ HD.out)
        clear hzz
        go_wp2
        (try simp only [Exit.inBlock, Exit.then])
        refine bodyPost_ret (results_tmp3 rfl _ _ _) rfl ?_
        exact HN.out
      | true =>
        have HT : Asd (openOk xs = true) := Asd.mk (by rw [HF.out, hzz])
        clear hzz
        go_wp2_with fail
        refine (sclone_calls ⟨gb, o + 5, none⟩ nn _ _ w.drew HMID.out).mono ?_
        rintro e w2 ⟨A', c', rfl, ho, hb⟩
        have HO : Asd (OwnB w2 w.heap.size (.slice A' nn c') ((xs.drop 5).take nn)) := Asd.mk (OwnM.own ho)
        have HB := Asd.mk (HD.out.trans hb)
        clear ho hb
        go_wp2
        (try simp only [Exit.inBlock, Exit.then])
        refine bodyPost_ret (results_tmp3 rfl _ _ _) rfl ?_
        refine ⟨.slice A' nn c', ret_eq ?_, ?_, HB.out⟩
        · rw [if_pos HT.out, if_pos HT.out, HNX.out]; rfl
        · rw [if_pos HT.out, HNN.out]; exact HO.out
end Go.Proofs.Ytnohhmopiflboaa.Nod
