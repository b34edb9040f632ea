/- FreeClones: the walk of the law. -/
import Derived.Test.YtblbdgdjnnjdjaaTakesArgs
set_option linter.unusedVariables false
set_option linter.unusedSimpArgs false
namespace Go.Proofs.Ytblbdgdjnnjdjaa.Fre
open Go.RowKit Go.Proofs.Ytblbdgdjnnjdjaa.Base
attribute [local go_sem] max2_int min2_int

theorem pw_below_drewN {B : Nat} {w W : World} (h : Below B w W) (n : Nat) : Below B w (W.drewN n) := ⟨h.os, h.tape, h.output, h.size, h.block⟩
theorem mod_form100 (x : Int) : ∃ p : Nat, wrap64 ((IntKind.u64.wrap x).tmod 100) = p ∧ p < 100 := mod_form x 100 (by omega) (by omega)

set_option maxHeartbeats 1600000 in
theorem clones_walk (a0 : Int) (a1 : Option Addr) (len1 cap1 : Nat) (z1 : List Int) (w : World) (h1 : IsInts w a1 len1 z1) :
    Calls Try.prog 5 #[.int .i64 a0, .slice a1 len1 cap1] w (Yes w) := by
  have hm := h1.2.1
  unfold maxLen at hm
  have H1 := Asd.mk h1
  clear h1
  go_enter Try.func5, Try.ntmps5
  go_wp2_with fail
  refine (works_calls _).mono ?_
  rintro e w1 ⟨rfl, hbel⟩
  have HB1 := Asd.mk hbel
  clear hbel
  obtain ⟨m, hm0, hm2⟩ := mod_form100 a0
  go_wp2_with fail
  obtain ⟨p, hpm⟩ : ∃ p : Nat, 3 + (m : Int) = p := ⟨m + 3, by omega⟩
  rw [hpm]
  have hp3 : 3 ≤ p := by omega
  have hp4 : p ≤ 103 := by omega
  clear hm0 hpm
  refine (new_calls p p _ (by omega)).mono ?_
  rintro e w2 ⟨g, b, rfl, hset, hbel, hg, hb⟩
  have HS2 := Asd.mk hset
  have HB2 := Asd.mk hbel
  have HLT := Asd.mk hset.lt
  clear hset hbel
  obtain ⟨i0, hi, hz0, hz1, hz2⟩ := info_parts info3
  go_wp2
  go_loopw [6, 7] (fun v i wr => ∃ (k : Nat) (xs : List Int), k ≤ len1 ∧ k ≤ 50 ∧ i = .int .i64 (k : Int) ∧ Row w2.heap.size p w2 wr v k xs) (fun _ i _ => len1 - (intOf i).toNat)
  case atStart => exact ⟨0, [], by omega, by omega, rfl, Row.start p w2⟩
  case round =>
    obtain ⟨k, xs, hk, hk1, rfl, hrow⟩ := hrel
    have HR := Asd.mk hrow
    clear hrow
    by_cases hlt : k < len1 ∧ k < 50
    · obtain ⟨hlt, hlt2⟩ := hlt
      have hx := H1.out.below (below3 (below3 HB1.out HB2.out) HR.out.below)
      obtain ⟨bx, ox, rfl, hcx⟩ := hx.2.2 (by omega)
      have cx := hcx k hlt
      generalize z1.getD k 0 = x at cx
      clear hx hcx
      obtain ⟨q, hq, hq2⟩ := mod_form2 x p (by omega) (by omega)
      have HOWN := Asd.mk (HR.out.own.alloc (.cells #[.int .i64 (2 + (q : Int))] 3))
      have HLE := Asd.mk HR.out.len
      go_wp2_with (at_builtin; refine wpList_append_own _ rfl (.tmp 33) (.tmp 45) 22 rfl w2.heap.size 3 i0 (.int .i64 0) 1 8 Try.underlying22 hi hz0 hz1 hz2 rfl (by decide) _ _ _ rfl HOWN.out ⟨wr.heap.size, 0, none⟩ 1 1 [.int .i64 (2 + (q : Int))] rfl rfl ?c1 ?c2 ?c3 ?c4 ?c5 ?_)
      case c1 =>
        intro j u hj
        match j, hj with
        | 0, hj => simp at hj; subst hj; simp [Addr.add]
      case c2 => intro u hu; simp at hu; subst hu; rfl
      case c3 => have := HLE.out; unfold maxLen; omega
      case c4 => have := HLE.out; omega
      case c5 => have := HR.out.below.size; simp; omega
      · intro v' w' hown' hgr _
        have HN := Asd.mk (HR.out.next (2 + (q : Int)) (by omega) HR.out.below.size hown' hgr)
        clear hown' hgr hq
        go_wp2
        go_roundw
        case rel => exact ⟨k + 1, _, by omega, by omega, by go_num, HN.out⟩
        case measure => simp [intOf]; omega
    · have hx : ¬ k < len1 ∨ (k < len1 ∧ ¬ k < 50) := by omega
      clear hlt
      rcases hx with hx | ⟨hx, hx2⟩
      all_goals
        obtain ⟨A, cc, rfl, hints, hA⟩ := HR.out.ints (by omega)
        have HI := Asd.mk hints
        have HAA := Asd.mk hA
        have HS3 := Asd.mk (HS2.out.fr (Fr.of_below (S := fun k => w2.heap.size ≤ k) (HR.out.below)) (by have := HLT.out; simp; omega) (by have := HLT.out; simp; omega))
        have hlen : (List.replicate p false).length = p := by simp
        have HALL := Asd.mk (HR.out.all p (by omega))
        have HBR := Asd.mk (below3 (below3 HB1.out HB2.out) HR.out.below)
        have hgr : w.heap.size ≤ g ∧ w.heap.size ≤ b := by have := HB1.out.size; omega
        have HONLY := Asd.mk (only_yes g b _ _ _ A xs.length cc xs wr HS3.out HI.out (by rw [hlen]; omega) (fun a ha => by have := HAA.out a ha; have := HLT.out; omega) (by rw [hlen]; exact HALL.out))
        rw [hlen] at HONLY
        clear HS2 HB1 HB2 HR hlen H1
        go_wp2_with fail
        refine HONLY.out.mono ?_
        rintro e w3 ⟨rfl, hset, hfr⟩
        have HMD := Asd.mk (marks_length p xs)
        have HSET := Asd.mk hset
        have HBF := Asd.mk (new_below HBR.out hfr hgr.1 hgr.2)
        generalize hM : marks p xs = M at HMD HSET
        have hpos : 0 < M.length := by have := HMD.out; omega
        clear hset hfr HONLY HS3 HALL HI hM HBR
        go_wp2_with fail
        refine (clone_calls g b M _ 2 _ HSET.out hpos).mono ?_
        rintro e w4 ⟨gc, bc, rfl, hsetc, hbelc, hgc, hbc⟩
        have HSC := Asd.mk hsetc
        have HS4 := Asd.mk (HSET.out.fr (Fr.of_below (S := fun k => w3.heap.size ≤ k) hbelc) (by have := HSET.out.lt; simp; omega) (by have := HSET.out.lt; simp; omega))
        have HBF4 := Asd.mk (HBF.out.trans (hbelc.mono HBF.out.size))
        have HNE := Asd.mk (show gc ≠ g ∧ gc ≠ b ∧ bc ≠ g ∧ bc ≠ b by have := HSET.out.lt; omega)
        have hgc2 : w.heap.size ≤ gc ∧ w.heap.size ≤ bc := by have := HBF.out.size; omega
        have hfl : free M ≤ 4096 := HSET.out.left4
        generalize hL : free M = L at hfl HS4 HSC
        have HFM := Asd.mk hL
        clear hsetc hbelc hL HSET HBF hgc hbc
        go_wp2_with fail
        refine (left_calls _ _ _ _ _ _ HSC.out).mono ?_
        rintro e w' ⟨rfl, rfl⟩
        go_wp2_with fail
        refine (left_calls _ _ _ _ _ _ HS4.out).mono ?_
        rintro e w' ⟨rfl, rfl⟩
        go_wp2_with fail
        refine (left_calls _ _ _ _ _ _ HS4.out).mono ?_
        rintro e w' ⟨rfl, rfl⟩
        cases L with
        | zero =>
          go_wp2_with fail
          refine (take_no g b M 0 2 _ HS4.out (fun k h1 h2 => all_used M HFM.out k h1 h2)).mono ?_
          rintro e w5 ⟨rfl, m1, rfl⟩
          go_wp2_with fail
          refine (take_no gc bc M 0 2 _ (HSC.out.drewN m1) (fun k h1 h2 => all_used M HFM.out k h1 h2)).mono ?_
          rintro e w6 ⟨rfl, m2, rfl⟩
          go_wp2
          go_ret
          exact ⟨rfl, pw_below_drewN HBF4.out _⟩
        | succ l =>
          obtain ⟨n, hn1, hn2, hn3, hn4⟩ := exists_first M 2 (by rw [HFM.out]; omega) (fun k h1 h2 => by omega) (by omega)
          have HTY := Asd.mk (take_yes g b M l 2 n _ HS4.out hn1 hn2 hn3 hn4)
          have HN3 := Asd.mk hn3
          have HN4 := Asd.mk hn4
          clear hn3 hn4
          go_wp2_with fail
          refine HTY.out.mono ?_
          rintro e w5 ⟨rfl, hset5, hfr5⟩
          have HS5 := Asd.mk hset5
          have HF5 := Asd.mk hfr5
          have HSC5 := Asd.mk (HSC.out.fr hfr5 (by have := HNE.out; simp [Only2]; omega) (by have := HNE.out; simp [Only2]; omega))
          clear hset5 hfr5 HTY
          go_wp2_with fail
          refine (take_yes gc bc M l 2 n _ HSC5.out hn1 hn2 HN3.out HN4.out).mono ?_
          rintro e w6 ⟨rfl, hset6, hfr6⟩
          have HSC6 := Asd.mk hset6
          have HF6 := Asd.mk hfr6
          have HS6 := Asd.mk (HS5.out.fr hfr6 (by have := HNE.out; simp [Only2]; omega) (by have := HNE.out; simp [Only2]; omega))
          clear hset6 hfr6
          go_wp2_with fail
          refine (left_calls _ _ _ _ _ _ HS6.out).mono ?_
          rintro e w' ⟨rfl, rfl⟩
          go_wp2_with fail
          refine (left_calls _ _ _ _ _ _ HSC6.out).mono ?_
          rintro e w' ⟨rfl, rfl⟩
          go_wp2_with fail
          refine (give_yes g b (M.set n true) l (n + 1) n _ HS6.out (by omega) (by omega) (by simpa using hn2) (by simp [List.getD, hn2])).mono ?_
          rintro e w7 ⟨rfl, hset7, hfr7⟩
          have HS7 := Asd.mk hset7
          have HF7 := Asd.mk hfr7
          have HSC7 := Asd.mk (HSC6.out.fr hfr7 (by have := HNE.out; simp [Only2]; omega) (by have := HNE.out; simp [Only2]; omega))
          clear hset7 hfr7
          go_wp2_with fail
          refine (free_calls _ _ _ _ _ _ _ HS7.out).mono ?_
          rintro e w' ⟨rfl, rfl⟩
          have hfv : (decide (2 ≤ (n : Int) ∧ (n : Int) < ((M.set n true).set n false).length) && !((M.set n true).set n false).getD (n : Int).toNat false) = true := by simp [List.getD, hn2]; omega
          rw [hfv]
          go_wp2_with fail
          refine (free_calls _ _ _ _ _ _ _ HSC7.out).mono ?_
          rintro e w' ⟨rfl, rfl⟩
          have hfv2 : (decide (2 ≤ (n : Int) ∧ (n : Int) < (M.set n true).length) && !(M.set n true).getD (n : Int).toNat false) = false := by simp [List.getD, hn2]
          rw [hfv2]
          clear hfv hfv2
          go_wp2_with fail
          refine (left_calls _ _ _ _ _ _ HSC7.out).mono ?_
          rintro e w' ⟨rfl, rfl⟩
          go_wp2
          go_ret
          exact ⟨rfl, new_below (new_below (new_below HBF4.out HF5.out hgr.1 hgr.2) HF6.out hgc2.1 hgc2.2) HF7.out hgr.1 hgr.2⟩

theorem clones_open {H : Type} {enc : TypeId × Value → H} (W : World) (a0 : Int) (w0 : (Lit.int .i64 a0).wf = true) (v : Value) (d : DataW H) (p : List MemPlace) {base : Nat} (ok : Value.okWide Try.prog W .any base 22 v) (h : DataW.Trod enc Try.prog W 0 (fun _ => true) true 22 v d p) :
    Calls Try.prog 5 #[.int .i64 a0, v] W (Yes W) := by
  obtain ⟨A, n, c, xs, rfl, hi⟩ := ints_open ok h
  exact clones_walk a0 A n c xs W hi
end Go.Proofs.Ytblbdgdjnnjdjaa.Fre
