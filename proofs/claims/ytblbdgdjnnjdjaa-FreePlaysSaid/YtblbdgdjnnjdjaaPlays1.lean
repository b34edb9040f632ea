/- FreePlays: the walk of the law where there are at most 3000 pages. -/
import Derived.Test.YtblbdgdjnnjdjaaPlaysParts
import Derived.Deep.RegionWith
import Derived.Deep.RegionHeld3
import Derived.Deep.DeepCutAuto
import Derived.Laws.AppendOwnNone
set_option linter.unusedVariables false
set_option linter.unusedSimpArgs false
namespace Go.Proofs.Ytblbdgdjnnjdjaa.Fre
open Go.RowKit Go.Proofs.Ytblbdgdjnnjdjaa.Base Go.Proofs.Ytblbdgdjnnjdjaa.Rd
attribute [local go_sem] max2_int min2_int

set_option maxRecDepth 100000 in
set_option maxHeartbeats 8000000 in
theorem plays_walk1 (a0 : Int) (A : Option Addr) (len cap : Nat) (ops : List (Int × Int × List Int)) (w : World) (h1 : IsSl rOp 3 w A len ops) (hlen : len * 40 ≤ reachBytes) (hx : a0 ≤ 3000) :
    Calls Try.prog 4 #[.int .i64 a0, .slice A len cap] w (Yes w) := by
  have H1 := Asd.mk h1
  have hm : len ≤ 140737488351232 := by simp only [reachBytes] at hlen; omega
  clear h1 hlen
  obtain ⟨n, hn⟩ : ∃ n : Nat, (n : Int) = max 2 (min a0 4096) := ⟨(max 2 (min a0 4096)).toNat, by omega⟩
  obtain ⟨m, hmm⟩ : ∃ m : Nat, (m : Int) = max 0 (min a0 4096) := ⟨(max 0 (min a0 4096)).toNat, by omega⟩
  have HN := Asd.mk hn
  have HM := Asd.mk hmm
  clear hn hmm
  go_enter Try.func4, Try.ntmps4
  go_wp2_with fail
  refine (new_calls a0 n _ HN.out).mono ?_
  rintro e w1 ⟨g, b, rfl, hset, hbel, hg, hb⟩
  have HS1 := Asd.mk hset
  have HB1 := Asd.mk hbel
  clear hset hbel
  go_wp2_with fail
  refine (rnew_calls a0 m _ HM.out).mono ?_
  rintro e w2 ⟨gr, br, rfl, hsetr, hbelr, hgr, hbr⟩
  have HBOTH := Asd.mk (Both.start HN.out HM.out HS1.out HB1.out hg hb hsetr hbelr hgr hbr)
  clear hsetr hbelr hg hb hgr hbr HS1 HB1
  go_wp2
  go_loopw [5, 7] (fun s i wr => ∃ (k g b : Nat) (u v : List Bool) (least : Nat), k ≤ len ∧ k ≤ 100 ∧ i = .int .i64 (k : Int) ∧ s = .pointer (some ⟨g, 0, none⟩) ∧ Both g b gr br w wr u v least) (fun _ i _ => len - (intOf i).toNat)
  case atStart => exact ⟨0, g, b, _, _, _, by omega, by omega, rfl, rfl, HBOTH.out⟩
  case round =>
    clear HBOTH HN HM
    obtain ⟨k, g, b, u, v, least, hk, hk1, rfl, rfl, hbo⟩ := hrel
    have HBO := Asd.mk hbo
    clear hbo
    by_cases hlt : k < len ∧ k < 100
    · obtain ⟨hlt, hlt2⟩ := hlt
      obtain ⟨bx, ox, rfl, hbx, hcx⟩ := H1.out.2 (by omega)
      obtain ⟨es, hes, hcell, hread⟩ := hcx k (by rw [H1.out.1]; exact hlt)
      obtain ⟨c0, c1, c2, rfl, ⟨e0, _⟩, ⟨e1, _⟩, ⟨Al, nl, cl, e2, hnl, hnone, hsl⟩⟩ := hread
      generalize ops[k]'(by rw [H1.out.1]; exact hlt) = op at e0 e1 hsl
      obtain ⟨kind, N, L⟩ := op
      simp only [List.cons.injEq, and_true] at e0 e1 e2
      have hsl : IsSl (rInt .i64) 1 w Al nl L := hsl
      subst e0 e1 e2
      have q0 : wr.cell? ⟨bx, ox + k * 3, none⟩ = some (.int .i64 kind) := (HBO.out.below.cell (by exact hbx)).trans (by simpa using hcell 0 (by omega))
      have q1 : wr.cell? ⟨bx, ox + k * 3 + 1, none⟩ = some (.int .i64 N) := (HBO.out.below.cell (by exact hbx)).trans (by simpa [Nat.add_assoc] using hcell 1 (by omega))
      have q2 : wr.cell? ⟨bx, ox + k * 3 + 2, none⟩ = some (.slice Al nl cl) := (HBO.out.below.cell (by exact hbx)).trans (by simpa [Nat.add_assoc] using hcell 2 (by omega))
      have HL := Asd.mk (ints_of_sl hsl (by simp only [reachBytes] at hnl; unfold maxLen; omega))
      have HSA : Asd (∀ a, Al = some a → 0 < nl → a.block < w.heap.size) := Asd.mk (fun a ha hp => by
        obtain ⟨b', o', h1, h2, _⟩ := hsl.2 hp
        rw [ha] at h1
        cases h1
        exact h2)
      obtain ⟨W, hW⟩ : ∃ W, W = wr.alloc (.cells #[.int .i64 kind, .int .i64 N, .slice Al nl cl] 38) := ⟨_, rfl⟩
      obtain ⟨BO, hBO⟩ : ∃ BO, BO = wr.heap.size := ⟨_, rfl⟩
      have hbw : Below wr.heap.size wr W := hW ▸ (Below.refl _ _).alloc (Nat.le_refl _) _
      have HBW := Asd.mk (HBO.out.fr hbw)
      have hnw : W.heap[BO]? = some (.cells #[.int .i64 kind, .int .i64 N, .slice Al nl cl] 38) := by rw [hW, hBO]; exact blk_new _ _
      have HNL := Asd.mk hnl
      have hBOne : BO ≠ g ∧ BO ≠ b ∧ BO ≠ gr ∧ BO ≠ br := by have := HBO.out.prog.lt; have := HBO.out.ref.lt; omega
      clear hcell hcx hsl hnl hbw
      go_upto_region 10 with fail
      rw [← hW, ← hBO]
      clear hW hBO q0 q1 q2 HBO
      have HNW := Asd.mk hnw
      have n0 := (blk_cell hnw 0).trans rfl
      have n1 := (blk_cell hnw 1).trans rfl
      have n2 := (blk_cell hnw 2).trans rfl
      clear hnw
      by_cases hk0 : kind = 0
      · subst hk0
        cases hfr0 : free u with
        | zero =>
          have HF0 := Asd.mk hfr0
          clear hfr0
          go_wp2_with fail
          refine (take_no g b u _ least _ HBW.out.prog (fun k h1 h2 => all_used u HF0.out k (by have := HBW.out.two; omega) h2)).mono ?_
          rintro e w5 ⟨rfl, m5, hw5⟩
          have HBX : Asd (Both g b gr br w w5 u v least) := Asd.mk (hw5 ▸ HBW.out.drewN m5)
          have n1 : w5.cell? ⟨BO, 1, none⟩ = some (.int .i64 N) := by rw [hw5]; exact (blk_cell HNW.out 1).trans rfl
          clear hw5
          go_wp2_with fail
          refine (rtake_no gr br v _ HBX.out.ref (fun k h1 h2 => by rw [← HBX.out.at_ k h1]; exact all_used u HF0.out k h1 (by have := HBX.out.len; omega))).mono ?_
          rintro e w6 ⟨rfl, rfl⟩
          go_upto_region 33 with fail
          have HQ1 := Asd.mk HBX.out.qleft
          have HQ2 := Asd.mk HBX.out.qrleft
          have HQ3 := Asd.mk HBX.out.qfree
          have HQ4 := Asd.mk HBX.out.qrfree
          go_quiet (first | (go_at_call 9; exact Calls.quiet_of_same (HQ1.out _)) | (go_at_call 18; exact Calls.quiet_of_same (HQ2.out _)) | (go_at_call 11; exact Calls.quiet_of_same (HQ3.out _ _)) | (go_at_call 19; exact Calls.quiet_of_same (HQ4.out _ _)))
          go_wp2
          go_roundw
          case rel => exact ⟨k + 1, _, _, _, _, _, by omega, by omega, by go_num, rfl, HBX.out.drewN _⟩
          case measure => simp [intOf]; omega
        | succ l =>
          have HF0 := Asd.mk hfr0
          clear hfr0
          obtain ⟨n, hn1, hn2, hn3, hn4⟩ := exists_first u least (by rw [HF0.out]; omega) HBW.out.low HBW.out.two
          have HN3 := Asd.mk hn3
          have HN4 := Asd.mk hn4
          have hn5 : 2 ≤ n := by have := HBW.out.two; omega
          have HLOW := Asd.mk HBW.out.low
          clear hn3 hn4
          go_wp2_with fail
          refine (take_yes g b u l least n _ (HF0.out ▸ HBW.out.prog) hn1 hn2 HN3.out HN4.out).mono ?_
          rintro e w5 ⟨rfl, hset5, hfr5⟩
          have HS5 := Asd.mk hset5
          have HF5 := Asd.mk hfr5
          have HR5 := Asd.mk (HBW.out.ref.fr hfr5 (show ¬ (gr = g ∨ gr = b) by have := HBW.out.dist; omega) (show ¬ (br = g ∨ br = b) by have := HBW.out.dist; omega))
          have hnv : n < v.length := by have := HBW.out.len; omega
          clear hset5 hfr5
          go_wp2_with fail
          refine (rtake_yes gr br v n _ HR5.out hn5 hnv (by rw [← HBW.out.at_ n hn5]; exact HN3.out) (fun k h1 h2 => by
            rw [← HBW.out.at_ k h1]
            by_cases hkl : k < least
            · exact HLOW.out k h1 hkl
            · exact HN4.out k (by omega) h2)).mono ?_
          rintro e w6 ⟨rfl, hset6, hfr6⟩
          have HFT := Asd.mk (free_take u n hn5 hn2 HN3.out)
          have HBX := Asd.mk (HBW.out.put hn5 (show IsSet w5 g b (u.set n true) (free (u.set n true)) (n + 1) by
            have h1 := HFT.out
            have h2 := HF0.out
            have : free (u.set n true) = l := by omega
            rw [this]; exact HS5.out) HF5.out hset6 hfr6 (by omega) (fun k h1 h2 => by
              simp only [List.getD, List.getElem?_set]
              by_cases hkn : n = k
              · subst hkn; simp [hn2]
              · rw [if_neg hkn]
                by_cases hkl : k < least
                · exact HLOW.out k h1 hkl
                · exact HN4.out k (by omega) (by omega)))
          have n1 := ((blk_cell (blk_fr (blk_fr HNW.out HF5.out (show ¬ (BO = g ∨ BO = b) by omega)) hfr6 (show ¬ BO = br by omega)) 1).trans rfl)
          clear hset6 hfr6
          go_upto_region 33 with fail
          have HQ1 := Asd.mk HBX.out.qleft
          have HQ2 := Asd.mk HBX.out.qrleft
          have HQ3 := Asd.mk HBX.out.qfree
          have HQ4 := Asd.mk HBX.out.qrfree
          go_quiet (first | (go_at_call 9; exact Calls.quiet_of_same (HQ1.out _)) | (go_at_call 18; exact Calls.quiet_of_same (HQ2.out _)) | (go_at_call 11; exact Calls.quiet_of_same (HQ3.out _ _)) | (go_at_call 19; exact Calls.quiet_of_same (HQ4.out _ _)))
          go_wp2
          go_roundw
          case rel => exact ⟨k + 1, _, _, _, _, _, by omega, by omega, by go_num, rfl, HBX.out.drewN _⟩
          case measure => simp [intOf]; omega
      · by_cases hk1' : kind = 1
        · subst hk1'
          clear hk0
          by_cases hy : 2 ≤ N ∧ N < u.length ∧ u.getD N.toNat false = true
          · obtain ⟨hy1, hy2, hy3⟩ := hy
            obtain ⟨n, rfl⟩ := Int.eq_ofNat_of_zero_le (show 0 ≤ N by omega)
            have hn5 : 2 ≤ n := by omega
            have hn2 : n < u.length := by omega
            have hnv : n < v.length := by have := HBW.out.len; omega
            have HN3 : Asd (u.getD n false = true) := Asd.mk (by simpa using hy3)
            have HFG := Asd.mk (free_give u n hn5 hn2 HN3.out)
            have hf4 : free u < 4096 := by
              have h1 := HFG.out
              have h2 := free_le (u.set n false)
              have h3 := HBW.out.prog.len
              simp only [List.length_set] at h2
              omega
            clear hy1 hy2 hy3
            go_upto_region 17 with fail
            go_region_with (first
              | (go_at_call 12
                 refine (give_yes g b u (free u) least n _ (HBW.out.drewN 1).prog hf4 hn5 hn2 HN3.out).mono ?_
                 rintro e w5 ⟨rfl, hset5, hfr5⟩
                 have HS5 := Asd.mk hset5
                 have HF5 : Asd (Fr (Only2 g b) W w5) := Asd.mk (Fr.trans (S := fun _ => False) ((Fr.refl _ W).drewN 1) hfr5 (by simp) (fun k hk _ => hk))
                 have HR5 := Asd.mk (HBW.out.ref.fr HF5.out (show ¬ (gr = g ∨ gr = b) by have := HBW.out.dist; omega) (show ¬ (br = g ∨ br = b) by have := HBW.out.dist; omega))
                 have n15 := ((blk_cell (blk_fr HNW.out HF5.out (show ¬ (BO = g ∨ BO = b) by omega)) 1).trans rfl)
                 clear hset5 hfr5)
              | (go_at_call 15
                 refine (rgive_yes gr br v n _ HR5.out hn5 hnv (by rw [← HBW.out.at_ n hn5]; exact HN3.out)).mono ?_
                 rintro e w6 ⟨rfl, hset6, hfr6⟩))
            all_goals
              have HBX := Asd.mk (HBW.out.put hn5 (show IsSet w5 g b (u.set n false) (free (u.set n false)) (min least n) by
                rw [HFG.out]; exact HS5.out) HF5.out hset6 hfr6 (by have := HBW.out.two; omega) (fun k h1 h2 => by
                  simp only [List.getD, List.getElem?_set]
                  rw [if_neg (by omega)]
                  exact HBW.out.low k h1 (by omega)))
              have n16 := ((blk_cell (blk_fr (blk_fr HNW.out HF5.out (show ¬ (BO = g ∨ BO = b) by omega)) hfr6 (show ¬ BO = br by omega)) 1).trans rfl)
              clear hset6 hfr6
              go_upto_region 33 with fail
              have HQ1 := Asd.mk HBX.out.qleft
              have HQ2 := Asd.mk HBX.out.qrleft
              have HQ3 := Asd.mk HBX.out.qfree
              have HQ4 := Asd.mk HBX.out.qrfree
              go_quiet (first | (go_at_call 9; exact Calls.quiet_of_same (HQ1.out _)) | (go_at_call 18; exact Calls.quiet_of_same (HQ2.out _)) | (go_at_call 11; exact Calls.quiet_of_same (HQ3.out _ _)) | (go_at_call 19; exact Calls.quiet_of_same (HQ4.out _ _)))
              go_wp2
              go_roundw
              case rel => exact ⟨k + 1, _, _, _, _, _, by omega, by omega, by go_num, rfl, HBX.out.drewN _⟩
              case measure => simp [intOf]; omega
          · have HGN : Asd (∀ q, Calls Try.prog 12 #[.pointer (some ⟨g, 0, none⟩), .int .i64 N] (W.drewN q) fun e w' => e = .returned (.bool false) ∧ w' = W.drewN q) := Asd.mk (fun q => same_of (give_no g b u (free u) least N _ (HBW.out.drewN q).prog (fun h1 h2 => by
              cases hv : u.getD N.toNat false with
              | false => rfl
              | true => exact absurd ⟨h1, h2, hv⟩ hy)))
            have HRN : Asd (∀ q, Calls Try.prog 15 #[.pointer (some ⟨gr, 0, none⟩), .int .i64 N] (W.drewN q) fun e w' => e = .returned (.bool false) ∧ w' = W.drewN q) := Asd.mk (fun q => same_of (rgive_no gr br v N _ (HBW.out.drewN q).ref (fun h1 h2 => by
              cases hv : v.getD N.toNat false with
              | false => rfl
              | true => exact absurd ⟨h1, (HBW.out.lt_ N h1).2 h2, by rw [HBW.out.at_ _ (by omega)]; exact hv⟩ hy)))
            clear hy
            go_upto_region 17 with fail
            go_quiet (first | (go_at_call 12; exact Calls.quiet_of_same (HGN.out _)) | (go_at_call 15; exact Calls.quiet_of_same (HRN.out _)))
            obtain ⟨w5, hw5⟩ : ∃ w5, w5 = W.drewN nq := ⟨_, rfl⟩
            rw [← hw5]
            have HBX : Asd (Both g b gr br w w5 u v least) := Asd.mk (hw5 ▸ HBW.out.drewN nq)
            have n15 : w5.cell? ⟨BO, 1, none⟩ = some (.int .i64 N) := by rw [hw5]; exact (blk_cell HNW.out 1).trans rfl
            clear hw5
            go_upto_region 33 with fail
            have HQ1 := Asd.mk HBX.out.qleft
            have HQ2 := Asd.mk HBX.out.qrleft
            have HQ3 := Asd.mk HBX.out.qfree
            have HQ4 := Asd.mk HBX.out.qrfree
            go_quiet (first | (go_at_call 9; exact Calls.quiet_of_same (HQ1.out _)) | (go_at_call 18; exact Calls.quiet_of_same (HQ2.out _)) | (go_at_call 11; exact Calls.quiet_of_same (HQ3.out _ _)) | (go_at_call 19; exact Calls.quiet_of_same (HQ4.out _ _)))
            go_wp2
            go_roundw
            case rel => exact ⟨k + 1, _, _, _, _, _, by omega, by omega, by go_num, rfl, HBX.out.drewN _⟩
            case measure => simp [intOf]; omega
        · by_cases hk2 : kind = 2
          · subst hk2
            clear hk0 hk1'
            have hltBO := blk_lt HNW.out
            obtain ⟨i0, hi, hz0, hz1, hz2⟩ := info_parts info3
            have HOWN := Asd.mk (World.ownsRow_made (base := W.heap.size) (e := 3) (size := 1) W #[] 0 (Nat.le_refl _) (by decide) rfl)
            have HB0 : Asd (Below W.heap.size W (W.alloc (.cells #[] 3))) := Asd.mk ((Below.refl _ _).alloc (Nat.le_refl _) _)
            have HLA := Asd.mk (HL.out.below (HBW.out.fr HB0.out).below)
            have HLN := Asd.mk HL.out.1
            have hnl8 : nl * 8 ≤ 140737488351232 := by have := HNL.out; simpa only [reachBytes] using this
            cases Al with
            | none =>
              have HZ0 : Asd (nl = 0) := Asd.mk (by
                rcases Nat.eq_zero_or_pos nl with h | h
                · exact h
                · obtain ⟨_, _, h1, _⟩ := HL.out.2.2 h; cases h1)
              obtain rfl : nl = 0 := HZ0.out
              obtain rfl : cl = 0 := hnone rfl
              go_wp2_with (at_builtin; refine wpList_append_own_none rfl (.tmp 77) (.tmp 79) 22 rfl W.heap.size 3 i0 1 Try.underlying22 hi _ 0 [] rfl HOWN.out rfl ?_)
              obtain ⟨w5, hw5⟩ : ∃ w5, w5 = W.alloc (.cells #[] 3) := ⟨_, rfl⟩
              obtain ⟨q5, hq5⟩ : ∃ q5, q5 = W.heap.size := ⟨_, rfl⟩
              rw [← hw5, ← hq5]
              have hbel5 : Below W.heap.size W w5 := hw5 ▸ HB0.out
              have hL0 : L = [] := List.length_eq_zero_iff.1 HLN.out
              obtain ⟨A', hA'⟩ : ∃ A' : Option Addr, A' = some ⟨q5, 0, none⟩ := ⟨_, rfl⟩
              obtain ⟨c', hc'⟩ : ∃ c' : Nat, c' = 0 := ⟨_, rfl⟩
              have hints : IsInts w5 A' 0 L := by rw [hL0]; exact ⟨rfl, by decide, fun h => by omega⟩
              have howns : OwnInts w5 W.heap.size A' 0 := .inl rfl
              have hAB : ∀ a, A' = some a → W.heap.size ≤ a.block := by intro a ha; rw [hA'] at ha; cases ha; simp [hq5]
              rw [← hA']
              clear hw5 hq5 hA' hL0 hi hz0 hz1 hz2 HOWN hc'
              have HI := Asd.mk hints
              have HOW0 := Asd.mk howns
              have HAB := Asd.mk hAB
              have HB5 := Asd.mk (HBW.out.fr hbel5)
              have HN5 := Asd.mk (blk_fr HNW.out (Fr.of_below (S := fun k => W.heap.size ≤ k) hbel5) (show ¬ W.heap.size ≤ BO by have := blk_lt HNW.out; omega))
              have HL5 := Asd.mk (HL.out.below HB5.out.below)
              have n52 := (blk_cell HN5.out 2).trans rfl
              have hlt5 := HBW.out.prog.lt
              have hlt6 := HBW.out.ref.lt
              have hlt7 := blk_lt HNW.out
              have hsz := HBW.out.below.size
              have hnewb := HBW.out.new
              clear hints howns hAB hbel5
              cases hall : L.all (inSet v.length) with
              | true =>
                have HALL := Asd.mk hall
                clear hall
                have hlu : 2 ≤ u.length := by have := HBW.out.len; omega
                have HALU : Asd (L.all (inSet u.length) = true) := Asd.mk (by
                  rw [← HALL.out]; congr 1; funext x; exact HBW.out.inSet_eq x)
                have HLL := Asd.mk HL.out.1
                go_upto_region 21 with fail
                go_region_with (first
                  | (go_at_call 8
                     refine (only_yes g b u (free u) least A' 0 0 L _ (HB5.out.drewN 1).prog (HI.out.drewN 1) hlu (fun a ha => by have := HAB.out a ha; omega) HALU.out).mono ?_
                     rintro e w6 ⟨rfl, hset6, hfr6⟩
                     have HS6 := Asd.mk hset6
                     have HF6 : Asd (Fr (Only2 g b) w5 w6) := Asd.mk (Fr.trans (S := fun _ => False) ((Fr.refl _ w5).drewN 1) hfr6 (by simp) (fun k hk _ => hk))
                     have HR6 := Asd.mk (HB5.out.ref.fr HF6.out (show ¬ (gr = g ∨ gr = b) by have := HBW.out.dist; omega) (show ¬ (br = g ∨ br = b) by have := HBW.out.dist; omega))
                     have n26 := ((blk_cell (blk_fr HN5.out HF6.out (show ¬ (BO = g ∨ BO = b) by omega)) 2).trans rfl)
                     have HL6 := Asd.mk (HL.out.below (new_below HB5.out.below HF6.out hnewb.1 hnewb.2.1))
                     clear hset6 hfr6)
                  | (go_at_call 16
                     go_must (refine (ronly_yes gr br v none 0 0 L _ HR6.out HL6.out (fun a ha hp => by have := HSA.out a ha hp; omega) (fun j hj => List.all_eq_true.1 HALL.out _ (by have := HLL.out; simp [List.getD, show j < L.length by omega]))).mono ?_)
                     rintro e w7 ⟨rfl, hset7, hfr7⟩))
                all_goals
                  have HBX := Asd.mk (HB5.out.only HALL.out HS6.out HF6.out hset7 hfr7)
                  have HNX := Asd.mk (blk_fr (blk_fr HN5.out HF6.out (show ¬ (BO = g ∨ BO = b) by omega)) hfr7 (show ¬ BO = br by omega))
                  have HOW : Asd (OwnInts w7 W.heap.size A' 0) := Asd.mk (by
                    rcases HOW0.out with h | ⟨gb, cur, h1, h2, h3, h4⟩
                    · exact .inl h
                    · exact .inr ⟨gb, cur, h1, blk_fr (blk_fr h2 HF6.out (show ¬ (gb = g ∨ gb = b) by omega)) hfr7 (show ¬ gb = br by omega), h3, h4⟩)
                  clear hset7 hfr7
                  go_wp2
                  clear HR6 HS6 HL6
                  go_loopw [14] (fun i wx => ∃ j : Nat, j ≤ 0 ∧ i = .int .i64 (j : Int) ∧ OwnInts wx W.heap.size A' 0 ∧ Both g b gr br w wx (marks u.length L) (marks v.length L) 2 ∧ wx.heap[BO]? = some (.cells #[.int .i64 2, .int .i64 N, .slice none 0 0] 38 (0, 0))) (fun i _ => 0 - (intOf i).toNat)
                  case atStart => exact ⟨0, by omega, rfl, HOW.out, HBX.out, HNX.out⟩
                  case round =>
                    obtain ⟨j, hj, rfl, how, hbx, hnx⟩ := hrel
                    have HOJ := Asd.mk how
                    have HBX := Asd.mk hbx
                    have HNX := Asd.mk hnx
                    by_cases hjn : j < 0
                    · exact absurd hjn (by omega)
                    · have n15 := ((blk_cell HNX.out 1).trans rfl)
                      clear how hbx hnx
                      go_upto_region 33 with fail
                      have HQ1 := Asd.mk HBX.out.qleft
                      have HQ2 := Asd.mk HBX.out.qrleft
                      have HQ3 := Asd.mk HBX.out.qfree
                      have HQ4 := Asd.mk HBX.out.qrfree
                      go_quiet (first | (go_at_call 9; exact Calls.quiet_of_same (HQ1.out _)) | (go_at_call 18; exact Calls.quiet_of_same (HQ2.out _)) | (go_at_call 11; exact Calls.quiet_of_same (HQ3.out _ _)) | (go_at_call 19; exact Calls.quiet_of_same (HQ4.out _ _)))
                      go_wp2
                      go_roundw
                      case rel => exact ⟨k + 1, _, _, _, _, _, by omega, by omega, by go_num, rfl, HBX.out.drewN _⟩
                      case measure => simp [intOf]; omega
              | false =>
                rw [List.length_eq_zero_iff.1 HL.out.1] at hall
                simp at hall
            | some al =>
              have HNEW : Asd (∀ (j : Nat) (x : Value), (nums L)[j]? = some x → (W.alloc (.cells #[] 3)).cell? (al.add j) = some x) := Asd.mk (fun j x hx => by
                have hj : j < nl := by
                  have h1 : j < (nums L).length := (List.getElem?_eq_some_iff.1 hx).1
                  have h2 : (nums L).length = L.length := by simp [nums]
                  have := HLN.out
                  omega
                obtain ⟨ab, ao, e, hc⟩ := HLA.out.2.2 (by omega)
                cases e
                rw [Rd.add_off, hc j hj, ← hx]
                have := HLN.out
                simp [nums, List.getD, List.getElem?_eq_getElem (show j < L.length by omega)])
              have HLEN : Asd ((nums L).length = nl * 1) := Asd.mk (by have := HLN.out; simp [nums]; omega)
              have HONE : Asd (∀ x ∈ nums L, x.oneCell' = true) := Asd.mk (by intro x hx; simp [nums] at hx; obtain ⟨y, _, rfl⟩ := hx; rfl)
              go_wp2_with (at_builtin; refine wpList_append_own _ rfl (.tmp 77) (.tmp 79) 22 rfl W.heap.size 3 i0 (.int .i64 0) 1 8 Try.underlying22 hi hz0 hz1 hz2 rfl (by decide) _ 0 [] rfl HOWN.out al nl cl (nums L) rfl HLEN.out HNEW.out HONE.out ?c1 ?c2 (by simp) ?_)
              case c1 => unfold maxLen; omega
              case c2 => omega
              · intro v' w5 hown' hgr _
                have hbel5 : Below W.heap.size W w5 := ((Fr.of_below (S := fun _ => False) HB0.out).trans (Fr.of_grown (S := fun k => k = W.heap.size) hgr (by simp [Value.ownBlock])) (U := fun k => k = W.heap.size) (by simp) (fun k hk _ => hk)).below (by simp)
                have hown' : w5.ownsRow W.heap.size 3 1 v' nl (nums L) := by simpa using hown'
                obtain ⟨A', c', rfl, hints, howns, hAB⟩ := ints_of_own hown' (by have := HNL.out; simp only [reachBytes] at this; unfold maxLen; omega)
                clear hgr hi hz0 hz1 hz2 HNEW HONE HLEN HOWN hown'
                have HI := Asd.mk hints
                have HOW0 := Asd.mk howns
                have HAB := Asd.mk hAB
                have HB5 := Asd.mk (HBW.out.fr hbel5)
                have HN5 := Asd.mk (blk_fr HNW.out (Fr.of_below (S := fun k => W.heap.size ≤ k) hbel5) (show ¬ W.heap.size ≤ BO by have := blk_lt HNW.out; omega))
                have HL5 := Asd.mk (HL.out.below HB5.out.below)
                have n52 := (blk_cell HN5.out 2).trans rfl
                have hlt5 := HBW.out.prog.lt
                have hlt6 := HBW.out.ref.lt
                have hlt7 := blk_lt HNW.out
                have hsz := HBW.out.below.size
                have hnewb := HBW.out.new
                clear hints howns hAB hbel5
                cases hall : L.all (inSet v.length) with
                | true =>
                  have HALL := Asd.mk hall
                  clear hall
                  have hlu : 2 ≤ u.length := by have := HBW.out.len; omega
                  have HALU : Asd (L.all (inSet u.length) = true) := Asd.mk (by
                    rw [← HALL.out]; congr 1; funext x; exact HBW.out.inSet_eq x)
                  have HLL := Asd.mk HL.out.1
                  go_upto_region 21 with fail
                  go_region_with (first
                    | (go_at_call 8
                       refine (only_yes g b u (free u) least A' nl c' L _ (HB5.out.drewN 1).prog (HI.out.drewN 1) hlu (fun a ha => by have := HAB.out a ha; omega) HALU.out).mono ?_
                       rintro e w6 ⟨rfl, hset6, hfr6⟩
                       have HS6 := Asd.mk hset6
                       have HF6 : Asd (Fr (Only2 g b) w5 w6) := Asd.mk (Fr.trans (S := fun _ => False) ((Fr.refl _ w5).drewN 1) hfr6 (by simp) (fun k hk _ => hk))
                       have HR6 := Asd.mk (HB5.out.ref.fr HF6.out (show ¬ (gr = g ∨ gr = b) by have := HBW.out.dist; omega) (show ¬ (br = g ∨ br = b) by have := HBW.out.dist; omega))
                       have n26 := ((blk_cell (blk_fr HN5.out HF6.out (show ¬ (BO = g ∨ BO = b) by omega)) 2).trans rfl)
                       have HL6 := Asd.mk (HL.out.below (new_below HB5.out.below HF6.out hnewb.1 hnewb.2.1))
                       clear hset6 hfr6)
                    | (go_at_call 16
                       go_must (refine (ronly_yes gr br v (some al) nl cl L _ HR6.out HL6.out (fun a ha hp => by have := HSA.out a ha hp; omega) (fun j hj => List.all_eq_true.1 HALL.out _ (by have := HLL.out; simp [List.getD, show j < L.length by omega]))).mono ?_)
                       rintro e w7 ⟨rfl, hset7, hfr7⟩))
                  all_goals
                    have HBX := Asd.mk (HB5.out.only HALL.out HS6.out HF6.out hset7 hfr7)
                    have HNX := Asd.mk (blk_fr (blk_fr HN5.out HF6.out (show ¬ (BO = g ∨ BO = b) by omega)) hfr7 (show ¬ BO = br by omega))
                    have HOW : Asd (OwnInts w7 W.heap.size A' nl) := Asd.mk (by
                      rcases HOW0.out with h | ⟨gb, cur, h1, h2, h3, h4⟩
                      · exact .inl h
                      · exact .inr ⟨gb, cur, h1, blk_fr (blk_fr h2 HF6.out (show ¬ (gb = g ∨ gb = b) by omega)) hfr7 (show ¬ gb = br by omega), h3, h4⟩)
                    clear hset7 hfr7
                    go_wp2
                    clear HR6 HS6 HL6
                    go_loopw [14] (fun i wx => ∃ j : Nat, j ≤ nl ∧ i = .int .i64 (j : Int) ∧ OwnInts wx W.heap.size A' nl ∧ Both g b gr br w wx (marks u.length L) (marks v.length L) 2 ∧ wx.heap[BO]? = some (.cells #[.int .i64 2, .int .i64 N, .slice (some al) nl cl] 38 (0, 0))) (fun i _ => nl - (intOf i).toNat)
                    case atStart => exact ⟨0, by omega, rfl, HOW.out, HBX.out, HNX.out⟩
                    case round =>
                      obtain ⟨j, hj, rfl, how, hbx, hnx⟩ := hrel
                      have HOJ := Asd.mk how
                      have HBX := Asd.mk hbx
                      have HNX := Asd.mk hnx
                      by_cases hjn : j < nl
                      · rcases how with how | ⟨gb, cur, rfl, hgb, hcs, hBgb⟩
                        · exact absurd how (by omega)
                        · have fgb := blk_frozen hgb
                          have cgb : wr.cell? ⟨gb, j, none⟩ = some (cur[j]'(by omega)) := by rw [blk_cell hgb]; simp [show j < cur.size by omega]
                          have hlt5 := HBW.out.prog.lt
                          have hlt6 := HBW.out.ref.lt
                          have hlt7 := blk_lt HNW.out
                          have hsz := HBW.out.below.size
                          have hgw : gb ≠ g ∧ gb ≠ b ∧ gb ≠ gr ∧ gb ≠ br ∧ gb ≠ BO ∧ w.heap.size ≤ gb := by omega
                          clear hgb hbx hnx
                          go_wp2
                          go_roundw
                          case rel => exact ⟨j + 1, by omega, by go_num, HOJ.out.set rfl j _, HBX.out.setFar _ _ (by simp; omega) (by simp; omega), blk_far HNX.out (by simp; omega) _⟩
                          case measure => simp [intOf]; omega
                      · have n15 := ((blk_cell HNX.out 1).trans rfl)
                        clear how hbx hnx
                        go_upto_region 33 with fail
                        have HQ1 := Asd.mk HBX.out.qleft
                        have HQ2 := Asd.mk HBX.out.qrleft
                        have HQ3 := Asd.mk HBX.out.qfree
                        have HQ4 := Asd.mk HBX.out.qrfree
                        go_quiet (first | (go_at_call 9; exact Calls.quiet_of_same (HQ1.out _)) | (go_at_call 18; exact Calls.quiet_of_same (HQ2.out _)) | (go_at_call 11; exact Calls.quiet_of_same (HQ3.out _ _)) | (go_at_call 19; exact Calls.quiet_of_same (HQ4.out _ _)))
                        go_wp2
                        go_roundw
                        case rel => exact ⟨k + 1, _, _, _, _, _, by omega, by omega, by go_num, rfl, HBX.out.drewN _⟩
                        case measure => simp [intOf]; omega
                | false =>
                  have HALL := Asd.mk hall
                  clear hall
                  have HALU : Asd (L.all (inSet u.length) = false) := Asd.mk (by
                    rw [← HALL.out]; congr 1; funext x; exact HBW.out.inSet_eq x)
                  have HLL := Asd.mk HL.out.1
                  have hex : ∃ q, q < nl ∧ (∀ j, j < q → inSet v.length (L.getD j 0) = true) ∧ inSet v.length (L.getD q 0) = false := by
                    rcases find_first (fun x => !inSet v.length x) L with h | ⟨q, h1, h2, h3⟩
                    · exfalso
                      have h4 : L.all (inSet v.length) = true := by
                        rw [List.all_eq_true]
                        intro x hx
                        obtain ⟨j, hj, rfl⟩ := List.getElem_of_mem hx
                        have := h j hj
                        simpa [List.getD, hj] using this
                      rw [HALL.out] at h4; cases h4
                    · exact ⟨q, by have := HLL.out; omega, fun j hj => by simpa using h2 j hj, by simpa using h3⟩
                  obtain ⟨q, hq1, hq2, hq3⟩ := hex
                  have HQ2' := Asd.mk hq2
                  have HQ3' := Asd.mk hq3
                  clear hq2 hq3
                  go_upto_region 21 with fail
                  go_region_with (first
                    | (go_at_call 8
                       refine (only_no g b u (free u) least A' nl c' L _ (HB5.out.drewN 1).prog (HI.out.drewN 1) HALU.out).mono ?_
                       rintro e w6 ⟨rfl, hfr6⟩
                       have HF6 : Asd (Fr (fun _ => False) w5 w6) := Asd.mk (Fr.trans (S := fun _ => False) ((Fr.refl _ w5).drewN 1) hfr6 (by simp) (by simp))
                       have HB6 := Asd.mk (HB5.out.fr (HF6.out.below (by simp)))
                       have n26 := ((blk_cell (blk_fr HN5.out HF6.out (by simp)) 2).trans rfl)
                       have HL6 := Asd.mk (HL5.out.below (HF6.out.below (by simp)))
                       clear hfr6)
                    | (go_at_call 16
                       refine (ronly_no gr br v (some al) nl cl q L _ HB6.out.ref HL6.out hq1 HQ3'.out HQ2'.out).mono ?_
                       rintro e w7 ⟨rfl, rfl⟩))
                  all_goals
                    have HBX := HB6
                    have HNX := Asd.mk (blk_fr HN5.out HF6.out (by simp))
                    have HOW : Asd (OwnInts w6 W.heap.size A' nl) := Asd.mk (by
                      rcases HOW0.out with h | ⟨gb, cur, h1, h2, h3, h4⟩
                      · exact .inl h
                      · exact .inr ⟨gb, cur, h1, blk_fr h2 HF6.out (by simp), h3, h4⟩)
                    go_wp2
                    clear HL6
                    go_loopw [14] (fun i wx => ∃ j : Nat, j ≤ nl ∧ i = .int .i64 (j : Int) ∧ OwnInts wx W.heap.size A' nl ∧ Both g b gr br w wx u v least ∧ wx.heap[BO]? = some (.cells #[.int .i64 2, .int .i64 N, .slice (some al) nl cl] 38 (0, 0))) (fun i _ => nl - (intOf i).toNat)
                    case atStart => exact ⟨0, by omega, rfl, HOW.out, HBX.out, HNX.out⟩
                    case round =>
                      obtain ⟨j, hj, rfl, how, hbx, hnx⟩ := hrel
                      have HOJ := Asd.mk how
                      have HBX := Asd.mk hbx
                      have HNX := Asd.mk hnx
                      by_cases hjn : j < nl
                      · rcases how with how | ⟨gb, cur, rfl, hgb, hcs, hBgb⟩
                        · exact absurd how (by omega)
                        · have fgb := blk_frozen hgb
                          have cgb : wr.cell? ⟨gb, j, none⟩ = some (cur[j]'(by omega)) := by rw [blk_cell hgb]; simp [show j < cur.size by omega]
                          have hlt5 := HBW.out.prog.lt
                          have hlt6 := HBW.out.ref.lt
                          have hlt7 := blk_lt HNW.out
                          have hsz := HBW.out.below.size
                          have hgw : gb ≠ g ∧ gb ≠ b ∧ gb ≠ gr ∧ gb ≠ br ∧ gb ≠ BO ∧ w.heap.size ≤ gb := by omega
                          clear hgb hbx hnx
                          go_wp2
                          go_roundw
                          case rel => exact ⟨j + 1, by omega, by go_num, HOJ.out.set rfl j _, HBX.out.setFar _ _ (by simp; omega) (by simp; omega), blk_far HNX.out (by simp; omega) _⟩
                          case measure => simp [intOf]; omega
                      · have n15 := ((blk_cell HNX.out 1).trans rfl)
                        clear how hbx hnx
                        go_upto_region 33 with fail
                        have HQ1 := Asd.mk HBX.out.qleft
                        have HQ2 := Asd.mk HBX.out.qrleft
                        have HQ3 := Asd.mk HBX.out.qfree
                        have HQ4 := Asd.mk HBX.out.qrfree
                        go_quiet (first | (go_at_call 9; exact Calls.quiet_of_same (HQ1.out _)) | (go_at_call 18; exact Calls.quiet_of_same (HQ2.out _)) | (go_at_call 11; exact Calls.quiet_of_same (HQ3.out _ _)) | (go_at_call 19; exact Calls.quiet_of_same (HQ4.out _ _)))
                        go_wp2
                        go_roundw
                        case rel => exact ⟨k + 1, _, _, _, _, _, by omega, by omega, by go_num, rfl, HBX.out.drewN _⟩
                        case measure => simp [intOf]; omega
          · by_cases hk3 : kind = 3
            · subst hk3
              clear hk0 hk1' hk2
              have hpos : 0 < u.length := by have := HBW.out.len; omega
              go_wp2_with fail
              refine (clone_calls g b u (free u) least _ HBW.out.prog hpos).mono ?_
              rintro e w5 ⟨gc, bc, rfl, hsetc, hbelc, hgc, hbc⟩
              have HSC := Asd.mk hsetc
              have HBC := Asd.mk hbelc
              have HB5 := Asd.mk (HBW.out.fr hbelc)
              have HN5 := Asd.mk (blk_fr HNW.out (Fr.of_below (S := fun k => W.heap.size ≤ k) hbelc) (show ¬ W.heap.size ≤ BO by have := blk_lt HNW.out; omega))
              clear hsetc hbelc
              cases hfr0 : free u with
              | zero =>
                have HF0 := Asd.mk hfr0
                clear hfr0
                go_wp2_with fail
                refine (take_no g b u _ least _ HB5.out.prog (fun k h1 h2 => all_used u HF0.out k (by have := HBW.out.two; omega) h2)).mono ?_
                rintro e w6 ⟨rfl, m5, hw5⟩
                have HBX : Asd (Both gc bc gr br w w6 u v least) := Asd.mk (HBW.out.clone HSC.out HBC.out hgc hbc (hw5 ▸ (Fr.refl _ _).drewN m5))
                have n15 : w6.cell? ⟨BO, 1, none⟩ = some (.int .i64 N) := by rw [hw5]; exact (blk_cell HN5.out 1).trans rfl
                clear hw5
                go_upto_region 33 with fail
                have HQ1 := Asd.mk HBX.out.qleft
                have HQ2 := Asd.mk HBX.out.qrleft
                have HQ3 := Asd.mk HBX.out.qfree
                have HQ4 := Asd.mk HBX.out.qrfree
                go_quiet (first | (go_at_call 9; exact Calls.quiet_of_same (HQ1.out _)) | (go_at_call 18; exact Calls.quiet_of_same (HQ2.out _)) | (go_at_call 11; exact Calls.quiet_of_same (HQ3.out _ _)) | (go_at_call 19; exact Calls.quiet_of_same (HQ4.out _ _)))
                go_wp2
                go_roundw
                case rel => exact ⟨k + 1, _, _, _, _, _, by omega, by omega, by go_num, rfl, HBX.out.drewN _⟩
                case measure => simp [intOf]; omega
              | succ l =>
                have HF0 := Asd.mk hfr0
                clear hfr0
                obtain ⟨n, hn1, hn2, hn3, hn4⟩ := exists_first u least (by rw [HF0.out]; omega) HBW.out.low HBW.out.two
                have HN3 := Asd.mk hn3
                have HN4 := Asd.mk hn4
                clear hn3 hn4
                go_wp2_with fail
                refine (take_yes g b u l least n _ (HF0.out ▸ HB5.out.prog) hn1 hn2 HN3.out HN4.out).mono ?_
                rintro e w6 ⟨rfl, hset6, hfr6⟩
                have HBX : Asd (Both gc bc gr br w w6 u v least) := Asd.mk (HBW.out.clone HSC.out HBC.out hgc hbc hfr6)
                have n15 := ((blk_cell (blk_fr HN5.out hfr6 (show ¬ (BO = g ∨ BO = b) by omega)) 1).trans rfl)
                clear hset6 hfr6
                go_upto_region 33 with fail
                have HQ1 := Asd.mk HBX.out.qleft
                have HQ2 := Asd.mk HBX.out.qrleft
                have HQ3 := Asd.mk HBX.out.qfree
                have HQ4 := Asd.mk HBX.out.qrfree
                go_quiet (first | (go_at_call 9; exact Calls.quiet_of_same (HQ1.out _)) | (go_at_call 18; exact Calls.quiet_of_same (HQ2.out _)) | (go_at_call 11; exact Calls.quiet_of_same (HQ3.out _ _)) | (go_at_call 19; exact Calls.quiet_of_same (HQ4.out _ _)))
                go_wp2
                go_roundw
                case rel => exact ⟨k + 1, _, _, _, _, _, by omega, by omega, by go_num, rfl, HBX.out.drewN _⟩
                case measure => simp [intOf]; omega
            · have t0 : (kind == 0) = false := beq_eq_false_iff_ne.2 hk0
              have t1 : (kind == 1) = false := beq_eq_false_iff_ne.2 hk1'
              have t2 : (kind == 2) = false := beq_eq_false_iff_ne.2 hk2
              have t3 : (kind == 3) = false := beq_eq_false_iff_ne.2 hk3
              clear hk0 hk1' hk2 hk3
              go_upto_region 33 with fail
              have HBX := HBW
              have HQ1 := Asd.mk HBX.out.qleft
              have HQ2 := Asd.mk HBX.out.qrleft
              have HQ3 := Asd.mk HBX.out.qfree
              have HQ4 := Asd.mk HBX.out.qrfree
              go_quiet (first | (go_at_call 9; exact Calls.quiet_of_same (HQ1.out _)) | (go_at_call 18; exact Calls.quiet_of_same (HQ2.out _)) | (go_at_call 11; exact Calls.quiet_of_same (HQ3.out _ _)) | (go_at_call 19; exact Calls.quiet_of_same (HQ4.out _ _)))
              go_wp2
              go_roundw
              case rel => exact ⟨k + 1, _, _, _, _, _, by omega, by omega, by go_num, rfl, HBX.out.drewN _⟩
              case measure => simp [intOf]; omega
    · have hz : ¬ k < len ∨ (k < len ∧ ¬ k < 100) := by omega
      clear hlt
      rcases hz with hz | ⟨hz, hz2⟩
      all_goals
        go_wp2
        go_ret
        exact ⟨rfl, HBO.out.below⟩
end Go.Proofs.Ytblbdgdjnnjdjaa.Fre
