/- node.read at an inner node's load. -/
import Derived.Test.YtnohhmopiflboaaNode32
set_option linter.unusedVariables false
set_option linter.unusedSimpArgs false
namespace Go.Proofs.Ytnohhmopiflboaa.Nod
open Go.RowKit Go.Proofs.Ytnohhmopiflboaa.Base Go.Proofs.Ytnohhmopiflboaa.Byt Go.Proofs.Ytnohhmopiflboaa.Rd Go.Proofs.Ytnohhmopiflboaa.App

set_option maxRecDepth 100000 in
set_option maxHeartbeats 6400000 in
theorem read_inner (gb o m c : Nat) (xs : PB) (w : World) (h : IsBytes w (some ⟨gb, o, none⟩) m xs) (hmc : m ≤ c) (hm : 0 < m) (hm2 : m ≤ 508) (hgb : gb < w.heap.size) (h1 : xs.getD 0 0 = 2) :
    Calls Try.prog 46 #[.slice (some ⟨gb, o, none⟩) m c] w (Reads w xs) := by
  have hmf := mk_func
  have hst := st_func
  have hl := h.1
  have HT : Asd (takeP 1 xs = some (xs.take 1, xs.drop 1)) := Asd.mk (by unfold takeP; rw [if_neg (by omega)])
  have HY : Asd ((xs.take 1).getD 0 0 = 2) := Asd.mk (by rw [← h1]; cases xs <;> simp)
  have HY1 : Asd (¬ (xs.take 1).getD 0 0 = 1) := Asd.mk (by rw [HY.out]; decide)
  have HRN : Asd (numP (xs.drop 1) = none → readP xs = none) := Asd.mk (fun hn => by unfold readP; rw [HT.out]; dsimp only; rw [if_neg HY1.out, if_pos HY.out, hn])
  have HRN2 : Asd (∀ n r1, numP (xs.drop 1) = some (n, r1) → numP r1 = none → readP xs = none) := Asd.mk (fun n r1 hn hn2 => by unfold readP; rw [HT.out]; dsimp only; rw [if_neg HY1.out, if_pos HY.out, hn]; dsimp only; rw [hn2])
  have HRS : Asd (∀ n r1, numP (xs.drop 1) = some (n, r1) → ∀ p0 r2, numP r1 = some (p0, r2) → readP xs = innerFin p0 (manyP entP n.toNat r2)) := Asd.mk (fun n r1 hn p0 r2 hn2 => by unfold readP; rw [HT.out]; dsimp only; rw [if_neg HY1.out, if_pos HY.out, hn]; dsimp only; rw [hn2])
  have HB0 : Asd (Below w.heap.size w (((w.alloc (.cells #[.slice (some ⟨gb, o, none⟩) m c] 31)).alloc (.cells #[.bool false, .slice none 0 0, .slice none 0 0, .slice none 0 0] 29)).alloc (.cells #[.func (.func 77) #[] #[.pointer (some ⟨w.heap.size, 0, none⟩)]] 44))) := Asd.mk (below_alloc (below_alloc (below_alloc (Below.refl _ _) _) _) _)
  have HREST : Asd (Rest (((w.alloc (.cells #[.slice (some ⟨gb, o, none⟩) m c] 31)).alloc (.cells #[.bool false, .slice none 0 0, .slice none 0 0, .slice none 0 0] 29)).alloc (.cells #[.func (.func 77) #[] #[.pointer (some ⟨w.heap.size, 0, none⟩)]] 44)) w.heap.size gb xs) := Asd.mk
    ⟨⟨o, m, c, blk_alloc (blk_alloc (blk_new _ _) _) _, hmc, h.below HB0.out, by omega⟩⟩
  have HRES : Asd ((((w.alloc (.cells #[.slice (some ⟨gb, o, none⟩) m c] 31)).alloc (.cells #[.bool false, .slice none 0 0, .slice none 0 0, .slice none 0 0] 29)).alloc (.cells #[.func (.func 77) #[] #[.pointer (some ⟨w.heap.size, 0, none⟩)]] 44)).heap[w.heap.size + 1]? = some (.cells #[.bool false, .slice none 0 0, .slice none 0 0, .slice none 0 0] 29 (0, 0))) := Asd.mk (blk_alloc (two_new w _ _).2 _)
  have HFN : Asd (FuncAt (((w.alloc (.cells #[.slice (some ⟨gb, o, none⟩) m c] 31)).alloc (.cells #[.bool false, .slice none 0 0, .slice none 0 0, .slice none 0 0] 29)).alloc (.cells #[.func (.func 77) #[] #[.pointer (some ⟨w.heap.size, 0, none⟩)]] 44)) (w.heap.size + 2) w.heap.size) := Asd.mk (by
    have := blk_new ((w.alloc (.cells #[.slice (some ⟨gb, o, none⟩) m c] 31)).alloc (.cells #[.bool false, .slice none 0 0, .slice none 0 0, .slice none 0 0] 29)) (.cells #[.func (.func 77) #[] #[.pointer (some ⟨w.heap.size, 0, none⟩)]] 44)
    have e : ((w.alloc (.cells #[.slice (some ⟨gb, o, none⟩) m c] 31)).alloc (.cells #[.bool false, .slice none 0 0, .slice none 0 0, .slice none 0 0] 29)).heap.size = w.heap.size + 2 := by simp
    rw [e] at this
    exact this)
  clear h h1
  go_enter Try.func46, Try.ntmps46
  go_wp2_with fail
  refine (take_calls w.heap.size gb 1 xs _ (by omega) HREST.out).mono ?_
  rintro e w2 ⟨hfr, hm⟩
  rw [HT.out] at hm
  obtain ⟨⟨A', c', rfl, ho⟩, hr⟩ := hm
  have HST := Asd.mk (RdSt.start (x0 := false) (u := #[]) HB0.out (by simp) HRES.out HFN.out hfr hr hgb)
  obtain ⟨b, cur, rfl, hbb, hh, hc0⟩ := own_cell ho 0 (by omega)
  have q0 := (blk_cell hh 0).trans hc0
  rw [HY.out, show bcell (2 : UInt8) = .int .u8 2 from rfl] at q0
  clear hfr ho hr hbb hh hc0 HT HY HY1 HREST HRES HFN
  go_wp2_with fail
  generalize hr0 : xs.drop 1 = r0 at HST HRN HRN2 HRS
  refine (number_calls (w.heap.size + 2) w.heap.size gb r0 _ HST.out.fn HST.out.rest).mono ?_
  rintro e w3 ⟨hfr, hm⟩
  cases hnum : numP r0 with
  | none =>
    rw [hnum] at hm
    subst hm
    exact ⟨rfl, reads_none (HRN.out hnum) (HST.out.below.trans ⟨hfr.os, hfr.tape, hfr.output, hfr.size, fun k hk => hfr.block k (by have := HST.out.below.size; omega) (by omega)⟩)⟩
  | some q =>
  obtain ⟨cnt, r1⟩ := q
  rw [hnum] at hm
  obtain ⟨rfl, hrr⟩ := hm
  have HST3 := Asd.mk (HST.out.took hfr hrr)
  obtain ⟨hn0, hn1⟩ := numP_lt hnum
  obtain ⟨N, rfl⟩ : ∃ N : Nat, cnt = (N : Int) := ⟨cnt.toNat, by omega⟩
  have HN2 : Asd (numP r1 = none → readP xs = none) := Asd.mk (fun h => HRN2.out _ _ hnum h)
  have HRP : Asd (∀ p0 r2, numP r1 = some (p0, r2) → readP xs = innerFin p0 (manyP entP N r2)) := Asd.mk (fun p0 r2 h => by have := HRS.out _ _ hnum _ _ h; simpa using this)
  have hN : N < 65536 := by omega
  generalize hnb : w2.heap.size = nb at HST HST3
  have p0 := (blk_cell HST3.out.box 0).trans rfl
  clear hfr hrr hnum hn0 hn1 HRN HRN2 HRS HST hr0
  go_upto_region 10 with fail
  have b3 : w3.drew.cell? ⟨nb, 3, none⟩ = some (.slice none 0 0) := (blk_cell HST3.out.box 3).trans rfl
  cases hp0 : numP r1 with
  | none =>
    refine wp_region_held_drew (S := fun w' => w'.cell? ⟨nb, 3, none⟩ = some (.slice none 0 0)) (by kernel_rfl) b3 (fun hHeld => ?_)
    refine wpAnyH_take (i := 0) (oi := ({ dst := some 32, op := Op.fieldAddr 29 (Operand.tmp 7) 3, type := 0, pos := "node.go:182", after := #[], guard := none } : Oper)) (v := ?va0) rfl (by kernel_rfl) (by kernel_rfl) (by kernel_rfl) (fun _ _ _ h => h) (Or.inl ⟨by rfl, ?ha0⟩) (by assumption) ?ra0
    case ha0 => (intro w hSw; (try dsimp only at hSw); go_simp; try (with_reducible rfl))
    try simp only [Act.put, List.setIfInBounds_toArray, List.set_cons_zero, List.set_cons_succ]
    refine wpAnyH_take (i := 1) (oi := ({ dst := some 33, op := Op.load 24 (Operand.tmp 32), type := 24, pos := "node.go:182", after := #[{ on := 0, ground := Ground.data }], guard := none } : Oper)) (v := ?va1) rfl (by kernel_rfl) (by kernel_rfl) (by kernel_rfl) (fun _ _ _ h => h) (Or.inl ⟨by rfl, ?ha1⟩) (by assumption) ?ra1
    case ha1 => (intro w hSw; (try dsimp only at hSw); go_simp; try (with_reducible rfl))
    try simp only [Act.put, List.setIfInBounds_toArray, List.set_cons_zero, List.set_cons_succ]
    refine wpAnyH_take (i := 2) (oi := ({ dst := some 34, op := Op.move (Operand.tmp 4), type := 80, pos := "node.go:182", after := #[], guard := none } : Oper)) (v := ?va2) rfl (by kernel_rfl) (by kernel_rfl) (by kernel_rfl) (fun _ _ _ h => h) (Or.inl ⟨by rfl, ?ha2⟩) (by assumption) ?ra2
    case ha2 => (intro w hSw; (try dsimp only at hSw); go_simp; try (with_reducible rfl))
    try simp only [Act.put, List.setIfInBounds_toArray, List.set_cons_zero, List.set_cons_succ]
    refine wpAnyH_ready (rs := [3]) (by kernel_rfl) (by simp) ?_
    refine AllReadyH.cons (o := ({ dst := some 35, op := Op.call { callee := Callee.value (Operand.tmp 34), args := #[], argTypes := #[] }, type := 3, pos := "node.go:182", after := #[{ on := 2, ground := Ground.data }], guard := none } : Oper)) rfl (fun K hK => ?_) AllReadyH.nil
    go_simp
    refine (number_calls (w.heap.size + 2) w.heap.size gb r1 w3.drew HST3.out.drew.fn HST3.out.drew.rest).mono ?_
    rintro e w4 ⟨hfr, hm⟩
    rw [hp0] at hm
    subst hm
    exact ⟨rfl, reads_none (HN2.out hp0) (HST3.out.drew.below.trans ⟨hfr.os, hfr.tape, hfr.output, hfr.size, fun k hk => hfr.block k (by have := HST3.out.drew.below.size; omega) (by omega)⟩)⟩
  | some q =>
  obtain ⟨kid0, r2⟩ := q
  have HP0 := Asd.mk hp0
  have HRE := Asd.mk (HRP.out _ _ hp0)
  have HKR : Asd (∀ (V : World) (o : Obj), RdSt w V gb nb r2 false (.slice none 0 0) (.slice none 0 0) (.slice none 0 0) [] [] [] [] [] → (V.alloc o).ownsRow (w.heap.size + 3) 3 1 (.slice none 0 0) 0 (icells [])) := Asd.mk fun V o h => World.ownsRow.alloc h.kids o
  have HLE : Asd (0 = ([] : List Int).length) := Asd.mk rfl
  clear hp0 HRP HN2 b3
  go_cut [8] (fun s wx => s = .int .i64 (N : Int) ∧ ∃ A c, Asd (RdSt w wx gb nb r2 false (.slice none 0 0) (.slice none 0 0) (.slice A 1 c) [] [] [kid0] [] []))
  case first =>
    have d0 : w3.cell? ⟨nb, 3, none⟩ = some (.slice none 0 0) := (blk_cell HST3.out.box 3).trans rfl
    rw [show Op.load 24 (.tmp 32) = id (Op.load 24 (.tmp 32)) from rfl]
    go_region_held3 (fun _ => True)
      (trivial)
      (first
        | (go_at_call 78
           refine (number_calls (w.heap.size + 2) w.heap.size gb r1 w3.drew HST3.out.drew.fn HST3.out.drew.rest).mono ?_
           rintro e w4 ⟨hfr, hm⟩
           rw [HP0.out] at hm
           obtain ⟨rfl, hrr⟩ := hm
           have HS4 := Asd.mk (HST3.out.drew.took hfr hrr)
           have d3 := (blk_cell HS4.out.box 3).trans rfl
           have lt4 := blk_lt HS4.out.box
           have HSZ4 : Asd (w.heap.size + 3 ≤ w4.heap.size) := Asd.mk (by have := HS4.out.nb; omega)
           clear hfr hrr)
        | (refine step_src (by rfl) _ _ _ (by rfl) rowI (.slice none 0 0) (by rfl) (n := 0) (HKR.out _ _ HS4.out) (some ⟨w4.heap.size, 0, none⟩) 1 1 (by rfl) (Feeds.of_block (blk_new w4 _) rfl (by simp [Value.oneCell'])) (by unfold maxLen; omega) (by omega) (Nat.le_trans HSZ4.out (by simp)) ?_
           intro A5 c5 w5 ho5 hg5
           have HBX5 := Asd.mk (blk_grown (HS4.out.alloc _).box (HKR.out _ _ HS4.out) hg5 (by decide))
           have HS5 := Asd.mk ((HS4.out.alloc _).addKid hg5 ho5 HLE.out)
           have d5 := (blk_cell HBX5.out 3).trans rfl
           have z5 := blk_frozen HBX5.out 3
           clear ho5 hg5)
        | fail)
    all_goals
      go_wp2_with fail
      go_meet
      exact ⟨rfl, _, _, HS5⟩
  case rest =>
    obtain ⟨rfl, A0, cc0, HSI⟩ := hcut
    clear HKR HLE HST3
    go_wp2
    go_loopw [40] (fun i wr => ∃ (k : Nat) (r : PB) (vk vp : Value) (es : List (PB × Int)) (qs : List Value), k ≤ N ∧ i = .int .i64 (k : Int) ∧ Asd (RdSt w wr gb nb r false (.slice none 0 0) vk vp [] (es.map (·.1)) (kid0 :: es.map (·.2)) [] qs) ∧ Asd (es.length = k) ∧ Asd (readP xs = innerFin kid0 ((manyP entP (N - k) r).map fun p => (es ++ p.1, p.2)))) (fun i _ => N - (intOf i).toNat)
    case atStart => exact ⟨0, r2, _, _, [], [], by omega, rfl, HSI, ⟨rfl⟩, ⟨by rw [HRE.out]; simp⟩⟩
    case round =>
      obtain ⟨k, r, vk, vp, es, qs, hk, rfl, HS, HK, HR⟩ := hrel
      have p0 := (blk_cell HS.out.box 0).trans rfl
      by_cases hlt : k < N
      · have HRN : Asd (entP r = none → readP xs = none) := Asd.mk (fun hc => by rw [HR.out, show N - k = (N - (k + 1)) + 1 by omega, manyP_none _ _ _ hc]; rfl)
        have HRS : Asd (∀ c r1, entP r = some (c, r1) → readP xs = innerFin kid0 ((manyP entP (N - (k + 1)) r1).map fun p => ((es ++ [c]) ++ p.1, p.2))) := Asd.mk (fun c r1 hc => by rw [HR.out, show N - k = (N - (k + 1)) + 1 by omega, manyP_one _ _ _ _ _ hc])
        have hvk := own_form HS.out.keys.own
        obtain ⟨Ak0, ck0, rfl⟩ := hvk
        have hvp := own_form HS.out.kids
        obtain ⟨Ap0, cp0, rfl⟩ := hvp
        have HLE : Asd (k = (es.map (·.1)).length) := Asd.mk (by rw [List.length_map, HK.out])
        have HLP : Asd (k + 1 = (kid0 :: es.map (·.2)).length) := Asd.mk (by rw [List.length_cons, List.length_map, HK.out])
        rw [← HLE.out, ← HLP.out] at HS
        go_upto_region 14 with fail
        have b2 : wr.drew.cell? ⟨nb, 2, none⟩ = some (.slice Ak0 k ck0) := (blk_cell HS.out.box 2).trans rfl
        cases hkey : keyP r with
        | none =>
          refine wp_region_held_drew (S := fun w' => w'.cell? ⟨nb, 2, none⟩ = some (.slice Ak0 k ck0)) (by kernel_rfl) b2 (fun hHeld => ?_)
          refine wpAnyH_take (i := 0) (oi := ({ dst := some 45, op := Op.fieldAddr 29 (Operand.tmp 7) 2, type := 0, pos := "node.go:186", after := #[], guard := none } : Oper)) (v := ?vb0) rfl (by kernel_rfl) (by kernel_rfl) (by kernel_rfl) (fun _ _ _ h => h) (Or.inl ⟨by rfl, ?hb0⟩) (by assumption) ?rb0
          case hb0 => (intro w hSw; (try dsimp only at hSw); go_simp; try (with_reducible rfl))
          try simp only [Act.put, List.setIfInBounds_toArray, List.set_cons_zero, List.set_cons_succ]
          refine wpAnyH_take (i := 1) (oi := ({ dst := some 46, op := Op.load 23 (Operand.tmp 45), type := 23, pos := "node.go:186", after := #[{ on := 0, ground := Ground.data }], guard := none } : Oper)) (v := ?vb1) rfl (by kernel_rfl) (by kernel_rfl) (by kernel_rfl) (fun _ _ _ h => h) (Or.inl ⟨by rfl, ?hb1⟩) (by assumption) ?rb1
          case hb1 => (intro w hSw; (try dsimp only at hSw); go_simp; try (with_reducible rfl))
          try simp only [Act.put, List.setIfInBounds_toArray, List.set_cons_zero, List.set_cons_succ]
          refine wpAnyH_take (i := 2) (oi := ({ dst := some 47, op := Op.move (Operand.tmp 5), type := 115, pos := "node.go:186", after := #[], guard := none } : Oper)) (v := ?vb2) rfl (by kernel_rfl) (by kernel_rfl) (by kernel_rfl) (fun _ _ _ h => h) (Or.inl ⟨by rfl, ?hb2⟩) (by assumption) ?rb2
          case hb2 => (intro w hSw; (try dsimp only at hSw); go_simp; try (with_reducible rfl))
          try simp only [Act.put, List.setIfInBounds_toArray, List.set_cons_zero, List.set_cons_succ]
          refine wpAnyH_ready (rs := [3]) (by kernel_rfl) (by simp) ?_
          refine AllReadyH.cons (o := ({ dst := some 48, op := Op.call { callee := Callee.value (Operand.tmp 47), args := #[], argTypes := #[] }, type := 31, pos := "node.go:186", after := #[{ on := 2, ground := Ground.data }], guard := none } : Oper)) rfl (fun K hK => ?_) AllReadyH.nil
          go_simp
          refine (key_calls (w.heap.size + 2) w.heap.size gb r wr.drew HS.out.drew.fn (by omega) HS.out.drew.rest).mono ?_
          rintro e w4 ⟨hfr, hm⟩
          rw [hkey] at hm
          subst hm
          exact ⟨rfl, reads_none (HRN.out (by simp [entP, hkey])) (HS.out.drew.below.trans ⟨hfr.os, hfr.tape, hfr.output, hfr.size, fun k hk => hfr.block k (by have := HS.out.drew.below.size; omega) (by omega)⟩)⟩
        | some q =>
        obtain ⟨key, r5⟩ := q
        have HKEY := Asd.mk hkey
        have HKR : Asd (∀ (V : World) (o : Obj), RdSt w V gb nb r5 false (.slice none 0 0) (.slice Ak0 k ck0) (.slice Ap0 (k + 1) cp0) [] (es.map (·.1)) (kid0 :: es.map (·.2)) [] qs → (V.alloc o).ownsRow (w.heap.size + 3) 31 1 (.slice Ak0 k ck0) k qs) := Asd.mk fun V o h => by
          have := h.keys.own.alloc o
          rw [← HLE.out] at this
          exact this
        clear hkey b2 p0
        go_cut [40] (fun s wx => s = .int .i64 (k : Int) ∧ ∃ A c u, Asd (RdSt w wx gb nb r5 false (.slice none 0 0) (.slice A (k + 1) c) (.slice Ap0 (k + 1) cp0) [] (es.map (·.1) ++ [key]) (kid0 :: es.map (·.2)) [] (qs ++ [u])))
        case first =>
          have d0 : wr.cell? ⟨nb, 2, none⟩ = some (.slice Ak0 k ck0) := (blk_cell HS.out.box 2).trans rfl
          rw [show Op.load 23 (.tmp 45) = id (Op.load 23 (.tmp 45)) from rfl]
          go_region_held3 (fun _ => True)
            (trivial)
            (first
              | (go_at_call 79
                 refine (key_calls (w.heap.size + 2) w.heap.size gb r wr.drew HS.out.drew.fn (by omega) HS.out.drew.rest).mono ?_
                 rintro e w4 ⟨hfr, hm⟩
                 rw [HKEY.out] at hm
                 obtain ⟨⟨Ak, ck, rfl, hok⟩, hrr⟩ := hm
                 have HS4 := Asd.mk (HS.out.drew.took hfr hrr)
                 have d3 := (blk_cell HS4.out.box 2).trans rfl
                 have lt4 := blk_lt HS4.out.box
                 have HOK4 : Asd (OwnM w4 (w.heap.size + 3) Ak key.length ck key) := Asd.mk (own_base hok (by have := blk_lt HS.out.drew.box; have := HS4.out.nb; omega))
                 have HSZ4 : Asd (w.heap.size + 3 ≤ w4.heap.size) := Asd.mk (by have := HS4.out.nb; omega)
                 clear hfr hrr hok)
              | (refine step_src (by rfl) _ _ _ (by rfl) rowK (.slice Ak0 k ck0) (by rfl) (n := k) (HKR.out _ _ HS4.out) (some ⟨w4.heap.size, 0, none⟩) 1 1 (by rfl) (Feeds.of_block (blk_new w4 _) rfl (by simp [Value.oneCell'])) (by unfold maxLen; omega) (by omega) (Nat.le_trans HSZ4.out (by simp)) ?_
                 intro A5 c5 w5 ho5 hg5
                 have HBX5 := Asd.mk (blk_grown (HS4.out.alloc _).box (HKR.out _ _ HS4.out) hg5 (by decide))
                 have HS5 := Asd.mk ((HS4.out.alloc _).addKey (key := key) hg5 ho5 HLE.out (OwnM.own (HOK4.out.alloc _)))
                 have d5 := (blk_cell HBX5.out 2).trans rfl
                 have z5 := blk_frozen HBX5.out 2
                 clear ho5 hg5)
              | fail)
          all_goals
            go_wp2_with fail
            go_meet
            exact ⟨rfl, _, _, _, HS5⟩
        case rest =>
          obtain ⟨rfl, A9, c9, u9, HS9⟩ := hcut
          clear HKR HS
          go_upto_region 15 with fail
          have b3 : wc.drew.cell? ⟨nb, 3, none⟩ = some (.slice Ap0 (k + 1) cp0) := (blk_cell HS9.out.box 3).trans rfl
          cases hnum : numP r5 with
          | none =>
            refine wp_region_held_drew (S := fun w' => w'.cell? ⟨nb, 3, none⟩ = some (.slice Ap0 (k + 1) cp0)) (by kernel_rfl) b3 (fun hHeld => ?_)
            refine wpAnyH_take (i := 0) (oi := ({ dst := some 52, op := Op.fieldAddr 29 (Operand.tmp 7) 3, type := 0, pos := "node.go:187", after := #[], guard := none } : Oper)) (v := ?vc0) rfl (by kernel_rfl) (by kernel_rfl) (by kernel_rfl) (fun _ _ _ h => h) (Or.inl ⟨by rfl, ?hc0⟩) (by assumption) ?rc0
            case hc0 => (intro w hSw; (try dsimp only at hSw); go_simp; try (with_reducible rfl))
            try simp only [Act.put, List.setIfInBounds_toArray, List.set_cons_zero, List.set_cons_succ]
            refine wpAnyH_take (i := 1) (oi := ({ dst := some 53, op := Op.load 24 (Operand.tmp 52), type := 24, pos := "node.go:187", after := #[{ on := 0, ground := Ground.data }], guard := none } : Oper)) (v := ?vc1) rfl (by kernel_rfl) (by kernel_rfl) (by kernel_rfl) (fun _ _ _ h => h) (Or.inl ⟨by rfl, ?hc1⟩) (by assumption) ?rc1
            case hc1 => (intro w hSw; (try dsimp only at hSw); go_simp; try (with_reducible rfl))
            try simp only [Act.put, List.setIfInBounds_toArray, List.set_cons_zero, List.set_cons_succ]
            refine wpAnyH_take (i := 2) (oi := ({ dst := some 54, op := Op.move (Operand.tmp 4), type := 80, pos := "node.go:187", after := #[], guard := none } : Oper)) (v := ?vc2) rfl (by kernel_rfl) (by kernel_rfl) (by kernel_rfl) (fun _ _ _ h => h) (Or.inl ⟨by rfl, ?hc2⟩) (by assumption) ?rc2
            case hc2 => (intro w hSw; (try dsimp only at hSw); go_simp; try (with_reducible rfl))
            try simp only [Act.put, List.setIfInBounds_toArray, List.set_cons_zero, List.set_cons_succ]
            refine wpAnyH_ready (rs := [3]) (by kernel_rfl) (by simp) ?_
            refine AllReadyH.cons (o := ({ dst := some 55, op := Op.call { callee := Callee.value (Operand.tmp 54), args := #[], argTypes := #[] }, type := 3, pos := "node.go:187", after := #[{ on := 2, ground := Ground.data }], guard := none } : Oper)) rfl (fun K hK => ?_) AllReadyH.nil
            go_simp
            refine (number_calls (w.heap.size + 2) w.heap.size gb r5 wc.drew HS9.out.drew.fn HS9.out.drew.rest).mono ?_
            rintro e w4 ⟨hfr, hm⟩
            rw [hnum] at hm
            subst hm
            exact ⟨rfl, reads_none (HRN.out (by simp [entP, HKEY.out, hnum])) (HS9.out.drew.below.trans ⟨hfr.os, hfr.tape, hfr.output, hfr.size, fun k hk => hfr.block k (by have := HS9.out.drew.below.size; omega) (by omega)⟩)⟩
          | some q =>
          obtain ⟨kid, r6⟩ := q
          have HNUM := Asd.mk hnum
          have HLE2 := HLE
          clear HLE
          have HLE := HLP
          have HRR := Asd.mk (HRS.out (key, kid) r6 (by simp [entP, HKEY.out, hnum]))
          have HKR : Asd (∀ (V : World) (o : Obj), RdSt w V gb nb r6 false (.slice none 0 0) (.slice A9 (k + 1) c9) (.slice Ap0 (k + 1) cp0) [] (es.map (·.1) ++ [key]) (kid0 :: es.map (·.2)) [] (qs ++ [u9]) → (V.alloc o).ownsRow (w.heap.size + 3) 3 1 (.slice Ap0 (k + 1) cp0) (k + 1) (icells (kid0 :: es.map (·.2)))) := Asd.mk fun V o h => by
            have := World.ownsRow.alloc h.kids o
            rw [← HLP.out] at this
            exact this
          clear hnum b3
          have d0 : wc.cell? ⟨nb, 3, none⟩ = some (.slice Ap0 (k + 1) cp0) := (blk_cell HS9.out.box 3).trans rfl
          rw [show Op.load 24 (.tmp 52) = id (Op.load 24 (.tmp 52)) from rfl]
          go_region_held3 (fun _ => True)
            (trivial)
            (first
              | (go_at_call 78
                 refine (number_calls (w.heap.size + 2) w.heap.size gb r5 wc.drew HS9.out.drew.fn HS9.out.drew.rest).mono ?_
                 rintro e w4 ⟨hfr, hm⟩
                 rw [HNUM.out] at hm
                 obtain ⟨rfl, hrr⟩ := hm
                 have HS4 := Asd.mk (HS9.out.drew.took hfr hrr)
                 have d3 := (blk_cell HS4.out.box 3).trans rfl
                 have lt4 := blk_lt HS4.out.box
                 have HSZ4 : Asd (w.heap.size + 3 ≤ w4.heap.size) := Asd.mk (by have := HS4.out.nb; omega)
                 clear hfr hrr)
              | (refine step_src (by rfl) _ _ _ (by rfl) rowI (.slice Ap0 (k + 1) cp0) (by rfl) (n := (k + 1)) (HKR.out _ _ HS4.out) (some ⟨w4.heap.size, 0, none⟩) 1 1 (by rfl) (Feeds.of_block (blk_new w4 _) rfl (by simp [Value.oneCell'])) (by unfold maxLen; omega) (by omega) (Nat.le_trans HSZ4.out (by simp)) ?_
                 intro A5 c5 w5 ho5 hg5
                 have HBX5 := Asd.mk (blk_grown (HS4.out.alloc _).box (HKR.out _ _ HS4.out) hg5 (by decide))
                 have HS5 := Asd.mk ((HS4.out.alloc _).addKid hg5 ho5 HLE.out)
                 have d5 := (blk_cell HBX5.out 3).trans rfl
                 have z5 := blk_frozen HBX5.out 3
                 clear ho5 hg5)
              | fail)
          all_goals
            go_wp2
            go_roundw
            case rel => exact ⟨k + 1, r6, _, _, es ++ [(key, kid)], _, by omega, by go_num, ⟨by have := HS5.out; simpa using this⟩, ⟨by simp [HK.out]⟩, HRR⟩
            case measure => simp [intOf]; omega
      · have hkk : N - k = 0 := by omega
        have HE : Asd (readP xs = if zeros r then some (false, [], es.map (·.1), kid0 :: es.map (·.2)) else none) := Asd.mk (by rw [HR.out, hkk]; simp [manyP, innerFin])
        obtain ⟨o4, m4, c4, hg4, hmc4, hib4, hne4⟩ := HS.out.rest.out
        have g0 := (blk_cell hg4 0).trans rfl
        have HIB4 := Asd.mk hib4
        obtain ⟨Ak0, ck0, rfl⟩ := own_form HS.out.keys.own
        obtain ⟨Ap0, cp0, rfl⟩ := own_form HS.out.kids
        simp only [List.length_map, List.length_cons] at HS
        clear hg4 hib4 hkk
        go_wp2_with fail
        refine (empty_calls (some ⟨gb, o4, none⟩) m4 c4 r wr HIB4.out).mono ?_
        rintro e w9 ⟨rfl, rfl⟩
        cases hz : zeros r with
        | false =>
          have HN := Asd.mk (reads_none (by rw [HE.out, hz]; rfl) HS.out.below)
          clear hz
          go_wp2
          exact ⟨rfl, HN.out⟩
        | true =>
          have HFIN := Asd.mk (rd_fin HS.out (by rw [HE.out, hz]; rfl))
          have b1 := (blk_cell HS.out.box 1).trans rfl
          have b2 := (blk_cell HS.out.box 2).trans rfl
          have b3 := (blk_cell HS.out.box 3).trans rfl
          have r0 := (blk_cell HS.out.res 0).trans rfl
          have r1 := (blk_cell HS.out.res 1).trans rfl
          have r2 := (blk_cell HS.out.res 2).trans rfl
          have r3 := (blk_cell HS.out.res 3).trans rfl
          have x0 := blk_frozen HS.out.res 0
          have x1 := blk_frozen HS.out.res 1
          have x2 := blk_frozen HS.out.res 2
          have x3 := blk_frozen HS.out.res 3
          clear hz
          go_wp2
          (try simp only [Exit.inBlock, Exit.then])
          refine bodyPost_ret (results_cell_row rfl _ _ (w.heap.size + 1) 29 _ (0, 0) _ rfl HFIN.out.2 Try.underlying29 rfl (by kernel_rfl)) rfl ?_
          exact HFIN.out.1
end Go.Proofs.Ytnohhmopiflboaa.Nod
