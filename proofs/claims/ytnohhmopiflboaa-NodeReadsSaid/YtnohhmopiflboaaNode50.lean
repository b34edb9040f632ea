/- NodeReads: the walk. -/
import Derived.Test.YtnohhmopiflboaaNode49
import Derived.Test.YtnohhmopiflboaaNode41
set_option linter.unusedVariables false
set_option linter.unusedSimpArgs false
namespace Go.Proofs.Ytnohhmopiflboaa.Nod
open Go.RowKit Go.Proofs.Ytnohhmopiflboaa.Base Go.Proofs.Ytnohhmopiflboaa.Byt Go.Proofs.Ytnohhmopiflboaa.Rd Go.Proofs.Ytnohhmopiflboaa.App

set_option maxRecDepth 100000 in
set_option maxHeartbeats 1600000 in
theorem decode_short (A : Option Addr) (m c : Nat) (xs : PB) (w : World) (hl : xs.length = m) (hm : m ≠ 508) (h2 : m ≤ 140737488351232) :
    Calls Try.prog 25 #[.slice A m c] w (Decoded w xs) := by
  have HN : Asd (decP xs = none) := Asd.mk (by unfold decP; rw [if_neg (by omega)])
  have hne : ((m : Int) != 508) = true := by rw [bne_iff_ne]; omega
  have hw2 := two_new w (.cells #[.bool false, .slice none 0 0, .slice none 0 0, .slice none 0 0] 29) (.cells #[.int .i64 0] 32)
  have HB : Asd (Below w.heap.size w ((w.alloc (.cells #[.bool false, .slice none 0 0, .slice none 0 0, .slice none 0 0] 29)).alloc (.cells #[.int .i64 0] 32))) := Asd.mk (below_alloc (below_alloc (Below.refl _ _) _) _)
  have H1 := Asd.mk hw2.1
  have H2 := Asd.mk hw2.2
  clear hw2 hl
  go_enter_defers Try.func25, Try.ntmps25
  go_upto_region 2 with fail
  generalize (w.alloc (.cells #[.bool false, .slice none 0 0, .slice none 0 0, .slice none 0 0] 29)).alloc (.cells #[.int .i64 0] 32) = w2 at HB H1 H2 ⊢
  have p0 := (blk_cell H1.out 0).trans rfl
  have p1 := (blk_cell H1.out 1).trans rfl
  have p2 := (blk_cell H1.out 2).trans rfl
  have p3 := (blk_cell H1.out 3).trans rfl
  have z0 := blk_frozen H1.out 0
  have z1 := blk_frozen H1.out 1
  have z2 := blk_frozen H1.out 2
  have z3 := blk_frozen H1.out 3
  have q0 := (blk_cell H2.out 0).trans rfl
  have y0 := blk_frozen H2.out 0
  have k1 := blk_set H1.out 0 (.bool false)
  have k2 := blk_set k1 1 (.slice none 0 0)
  have k3 := blk_set k2 2 (.slice none 0 0)
  have k4 := blk_set k3 3 (.slice none 0 0)
  have k5 := blk_far k4 (p := ⟨w.heap.size + 1, 0, none⟩) (by simp) (.int .i64 10)
  have j1 := blk_set (blk_far (blk_far (blk_far (blk_far H2.out (p := ⟨w.heap.size, 0, none⟩) (by simp) (.bool false)) (p := ⟨w.heap.size, 1, none⟩) (by simp) (.slice none 0 0)) (p := ⟨w.heap.size, 2, none⟩) (by simp) (.slice none 0 0)) (p := ⟨w.heap.size, 3, none⟩) (by simp) (.slice none 0 0)) 0 (.int .i64 10)
  have K5 := Asd.mk k5
  have J1 := Asd.mk j1
  have HB6 : Asd (Below w.heap.size w (((((w2.setCell ⟨w.heap.size, 0, none⟩ (.bool false)).setCell ⟨w.heap.size, 1, none⟩ (.slice none 0 0)).setCell ⟨w.heap.size, 2, none⟩ (.slice none 0 0)).setCell ⟨w.heap.size, 3, none⟩ (.slice none 0 0)).setCell ⟨w.heap.size + 1, 0, none⟩ (.int .i64 10))) := Asd.mk
    (below_set (below_set (below_set (below_set (below_set HB.out (p := ⟨w.heap.size, 0, none⟩) (Nat.le_refl _) _) (p := ⟨w.heap.size, 1, none⟩) (Nat.le_refl _) _) (p := ⟨w.heap.size, 2, none⟩) (Nat.le_refl _) _) (p := ⟨w.heap.size, 3, none⟩) (Nat.le_refl _) _) (p := ⟨w.heap.size + 1, 0, none⟩) (Nat.le_succ _) _)
  clear k1 k2 k3 k4 k5 j1
  go_wp2
  have p0 := (blk_cell K5.out 0).trans rfl
  have p1 := (blk_cell K5.out 1).trans rfl
  have p2 := (blk_cell K5.out 2).trans rfl
  have p3 := (blk_cell K5.out 3).trans rfl
  have q0 := (blk_cell J1.out 0).trans rfl
  simp [bodyPostD, Leaves, settle, results, Try.results25, go_sem, p0, p1, p2, p3, q0]
  exact decoded_none HN.out HB6.out

def emptyN : PNode := (false, [], [], [])
def decX (xs : PB) : PNode := (decP xs).getD emptyN
def decE (xs : PB) : Int := if (decP xs).isSome then 0 else 10
theorem own_emptyN (T : TypeId) (w : World) (B : Nat) : OwnNode T w B (.bool false) (.slice none 0 0) (.slice none 0 0) (.slice none 0 0) emptyN := ⟨rfl, ⟨[], OwnCells.nil _ _ _⟩, ⟨[], OwnKeys.nil _ _⟩, OwnKids.nil _ _⟩
theorem sane_decX (xs : PB) : Sane (decX xs) := by
  unfold decX
  cases h : decP xs with
  | none => exact ⟨by simp [emptyN], by simp [emptyN], by simp [emptyN], (fun c hc => by cases hc), (fun c hc => by cases hc), (fun c hc => by cases hc)⟩
  | some x => exact sane_dec h
theorem decoded_x {w w' : World} {xs : PB} {e : Ending} (h : Decoded w xs e w') : Below w.heap.size w w' ∧ ∃ v0 v1 v2 v3, e = .returned (.tuple #[.agg #[v0, v1, v2, v3], .int .i64 (decE xs)]) ∧ OwnNode 61 w' w.heap.size v0 v1 v2 v3 (decX xs) := by
  obtain ⟨hb, hm⟩ := h
  refine ⟨hb, ?_⟩
  unfold decE decX
  cases hd : decP xs with
  | none =>
    rw [hd] at hm
    exact ⟨_, _, _, _, hm, own_emptyN _ _ _⟩
  | some x =>
    rw [hd] at hm
    exact hm
theorem rdecoded_x {w w' : World} {xs : PB} {e : Ending} (h : RDecoded w xs e w') : Below w.heap.size w w' ∧ ∃ v0 v1 v2 v3, e = .returned (.tuple #[.agg #[v0, v1, v2, v3], .int .i64 (decE xs)]) ∧ OwnNode 78 w' w.heap.size v0 v1 v2 v3 (decX xs) := by
  obtain ⟨hb, hm⟩ := h
  refine ⟨hb, ?_⟩
  unfold decE decX
  cases hd : decP xs with
  | none =>
    rw [hd] at hm
    exact ⟨_, _, _, _, hm, own_emptyN _ _ _⟩
  | some x =>
    rw [hd] at hm
    exact hm
theorem decode_any (A : Option Addr) (m c : Nat) (xs : PB) (w : World) (h : IsBytes w A m xs) (hmc : m ≤ c) : Calls Try.prog 25 #[.slice A m c] w (Decoded w xs) := by
  by_cases hm : m = 508
  · subst hm
    obtain ⟨gb, o, rfl, _⟩ := h.2.2 (by omega)
    exact decode_calls gb o c xs w h hmc (bytes_lt h _ rfl (by omega))
  · exact decode_short A m c xs w h.1 hm h.2.1
set_option maxRecDepth 100000 in
set_option maxHeartbeats 1600000 in
theorem open_any (A : Option Addr) (m c : Nat) (xs : PB) (w : World) (h : IsBytes w A m xs) (hmc : m ≤ c) : Calls Try.prog 27 #[.slice A m c] w (Opened w xs) := by
  have hl := h.1
  have hn := h.2.1
  by_cases hm : m = 508
  · subst hm
    obtain ⟨gb, o, rfl, _⟩ := h.2.2 (by omega)
    exact open_calls gb o 508 c xs w h hmc
  · have HN := Asd.mk (opened_no (w := w) (w' := w) (show openOk xs = false by simp [openOk]; omega) (Below.refl _ _))
    have hne : ((m : Int) != 508) = true := by rw [bne_iff_ne]; omega
    clear h
    go_enter Try.func27, Try.ntmps27
    go_wp2
    (try simp only [Exit.inBlock, Exit.then])
    refine bodyPost_ret (results_tmp3 rfl _ _ _) rfl ?_
    exact HN.out
theorem above_set {B : Nat} {W wr : World} {g k : Nat} (h : Above B W wr) (hg : g < B) (u : Value) : Above B W (wr.setCell ⟨g, k, none⟩ u) := fun i o hi ho => blk_far (h i o hi ho) (p := ⟨g, k, none⟩) (by simp; omega) u
theorem above_mono {B B' : Nat} {W W' : World} (h : Above B W W') (hb : B ≤ B') : Above B' W W' := fun i o hi ho => h i o (by omega) ho
theorem above_refl (B : Nat) (W : World) : Above B W W := fun _ _ _ h => h

set_option maxRecDepth 100000 in
set_option maxHeartbeats 6400000 in
theorem law_reads (A : Option Addr) (n c : Nat) (xs : PB) (w : World) (h : IsBytes w A n xs) (hc : A = none → c = 0) (hnc : n ≤ c) :
    Calls Try.prog 5 #[.slice A n c] w (Tells w (.bool true)) := by
  have HIB := Asd.mk h
  have HC0 := Asd.mk hc
  have HL := Asd.mk h.1
  have hn := h.2.1
  clear h hc
  go_enter Try.func5, Try.ntmps5
  go_wp2_with fail
  refine (clone_calls A n c xs w HIB.out HC0.out).mono ?_
  rintro e w1 ⟨v, rfl, hown, hfr⟩
  obtain ⟨E, j, rfl⟩ := own_form hown
  have HO1 := Asd.mk (own_m hown rfl)
  rw [HL.out] at HO1 ⊢
  have HB1 : Asd (Below w.heap.size w w1) := Asd.mk (hfr.below (fun _ h => h.elim))
  have hrd := own_reads HO1.out hn
  have HIB1 := Asd.mk hrd.1
  have hnj := hrd.2.2
  have HGB : Asd (∀ g, E = some ⟨g, 0, none⟩ → 0 < n → g < w1.heap.size) := Asd.mk fun g he hp => by
    obtain ⟨g', cur, e', _, hh, _⟩ := own_cell HO1.out 0 hp
    rw [he] at e'
    injection e' with e'
    injection e' with e'
    rw [e']
    exact blk_lt hh
  clear hown hfr hrd
  go_wp2_with fail
  refine (decode_any E n j xs w1 HIB1.out hnj).mono ?_
  intro e w2 hd
  obtain ⟨hb2, u0, u1, u2, u3, rfl, hon⟩ := decoded_x hd
  have HSX := Asd.mk (sane_decX xs)
  obtain ⟨rfl, ⟨E1, i1, j1, rfl⟩, ⟨E2, i2, j2, rfl⟩, ⟨E3, i3, j3, rfl⟩⟩ := own_node_form hon
  generalize hdx : decX xs = x at hon HSX
  generalize hev : decE xs = ev
  have HDX := Asd.mk hdx
  have HEV := Asd.mk hev
  generalize hx0 : x.1 = x0 at hon ⊢
  have HX0 := Asd.mk hx0
  have HON2 := Asd.mk (hon.above (above_below (below_alloc (Below.refl _ w2) (.cells #[.bool x0, .slice E1 i1 j1, .slice E2 i2 j2, .slice E3 i3 j3] 29))))
  have HX2 := Asd.mk (blk_new w2 (.cells #[.bool x0, .slice E1 i1 j1, .slice E2 i2 j2, .slice E3 i3 j3] 29))
  have HB2 : Asd (Below w1.heap.size w1 (w2.alloc (.cells #[.bool x0, .slice E1 i1 j1, .slice E2 i2 j2, .slice E3 i3 j3] 29))) := Asd.mk (below_alloc hb2 _)
  have HS2 : Asd (w1.heap.size ≤ w2.heap.size) := Asd.mk hb2.size
  clear hd hb2 hon hx0 hdx hev
  go_upto_region 3 with fail
  generalize w2.alloc (.cells #[.bool x0, .slice E1 i1 j1, .slice E2 i2 j2, .slice E3 i3 j3] 29) = w3 at HON2 HX2 HB2 ⊢
  go_wp2_with fail
  refine (rdecode_calls A n c xs w3 (HIB.out.below (HB1.out.trans (HB2.out.mono HB1.out.size))) hnc HC0.out).mono ?_
  intro e w4 hd
  obtain ⟨hb4, u0, u1, u2, u3, rfl, hon⟩ := rdecoded_x hd
  rw [HDX.out] at hon
  rw [HEV.out]
  obtain ⟨rfl, ⟨F1, k1, l1, rfl⟩, ⟨F2, k2, l2, rfl⟩, ⟨F3, k3, l3, rfl⟩⟩ := own_node_form hon
  rw [HX0.out] at hon ⊢
  have hb5 := below_alloc hb4 (.cells #[.bool x0, .slice F1 k1 l1, .slice F2 k2 l2, .slice F3 k3 l3] 26)
  have HOY := Asd.mk (hon.above (above_below (below_alloc (Below.refl _ w4) (.cells #[.bool x0, .slice F1 k1 l1, .slice F2 k2 l2, .slice F3 k3 l3] 26))))
  have HY4 := Asd.mk (blk_new w4 (.cells #[.bool x0, .slice F1 k1 l1, .slice F2 k2 l2, .slice F3 k3 l3] 26))
  have HONA := Asd.mk (HON2.out.above (above_below hb5))
  have HXA := Asd.mk (blk_below hb5 HX2.out)
  have HBA : Asd (Below w1.heap.size w1 (w4.alloc (.cells #[.bool x0, .slice F1 k1 l1, .slice F2 k2 l2, .slice F3 k3 l3] 26))) := Asd.mk (below_step HB2.out hb5)
  have HS3 : Asd (w1.heap.size ≤ w3.heap.size ∧ w1.heap.size ≤ w4.heap.size) := Asd.mk ⟨HB2.out.size, Nat.le_trans HB2.out.size hb4.size⟩
  clear hd hb4 hb5 hon HON2 HX2 HB2
  go_upto_region 4 with fail
  generalize w4.alloc (.cells #[.bool x0, .slice F1 k1 l1, .slice F2 k2 l2, .slice F3 k3 l3] 26) = w5 at HOY HY4 HONA HXA HBA ⊢
  go_wp2_with fail
  refine (open_any E n j xs w5 (HIB1.out.below HBA.out) hnj).mono ?_
  rintro e w6 ⟨vp, rfl, hop, hb6⟩
  obtain ⟨P, pc, rfl⟩ := own_form hop
  generalize hnx : (if openOk xs then (at2 xs 1 : Int) else 0) = nx
  generalize hne : (if openOk xs then (0 : Int) else 10) = ne
  have HNX := Asd.mk hnx
  have HNE := Asd.mk hne
  have hpl : (if openOk xs then (xs.drop 5).take (at2 xs 3) else []).length ≤ 140737488351232 := by
    split
    · rw [List.length_take, List.length_drop]
      have := HL.out
      omega
    · exact Nat.zero_le _
  generalize hps : (if openOk xs then (xs.drop 5).take (at2 xs 3) else []) = ps at hop hpl ⊢
  have HPS := Asd.mk hps
  have HOP := Asd.mk (own_m hop rfl)
  have HBB : Asd (Below w1.heap.size w1 w6) := Asd.mk (below_step HBA.out hb6)
  have HOY6 := Asd.mk (HOY.out.above (above_below hb6))
  have HY6 := Asd.mk (blk_below hb6 HY4.out)
  have HON6 := Asd.mk (HONA.out.above (above_below hb6))
  have HX6 := Asd.mk (blk_below hb6 HXA.out)
  have HS5 : Asd (w1.heap.size ≤ w5.heap.size) := Asd.mk HBA.out.size
  clear hop hb6 HOY HY4 HONA HXA HBA hnx hne hps
  go_wp2_with fail
  refine (ropen_calls A n c xs w6 (HIB.out.below (HB1.out.trans (HBB.out.mono HB1.out.size))) hnc).mono ?_
  rintro e w7 ⟨vq, rfl, hoq, hb7⟩
  rw [HPS.out] at hoq
  rw [HNX.out, HNE.out]
  obtain ⟨Q, qc, rfl⟩ := own_form hoq
  have HOQ := Asd.mk (own_m hoq rfl)
  have HOP7 := Asd.mk (HOP.out.old hb7)
  have HBC : Asd (Below w1.heap.size w1 w7) := Asd.mk (below_step HBB.out hb7)
  have HOY7 := Asd.mk (HOY6.out.above (above_below hb7))
  have HY7 := Asd.mk (blk_below hb7 HY6.out)
  have HON7 := Asd.mk (HON6.out.above (above_below hb7))
  have HX7 := Asd.mk (blk_below hb7 HX6.out)
  have HS6 : Asd (w1.heap.size ≤ w6.heap.size) := Asd.mk HBB.out.size
  clear hoq hb7 HOP HBB HOY6 HY6 HON6 HX6 HNX HNE HPS HDX HEV HX0
  generalize hpn : ps.length = pn at HOQ HOP7 hpl ⊢
  go_upto_region 6 with fail
  generalize hsk : (⟨ps.toArray⟩ : ByteArray) = sk
  have HS : Asd (∀ w', Below w7.heap.size w7 w' → w'.cell? ⟨w2.heap.size, 0, none⟩ = some (.bool x0) ∧ w'.cell? ⟨w2.heap.size, 1, none⟩ = some (.slice E1 i1 j1) ∧ w'.cell? ⟨w2.heap.size, 2, none⟩ = some (.slice E2 i2 j2) ∧ w'.cell? ⟨w2.heap.size, 3, none⟩ = some (.slice E3 i3 j3)
      ∧ w'.cell? ⟨w4.heap.size, 0, none⟩ = some (.bool x0) ∧ w'.cell? ⟨w4.heap.size, 1, none⟩ = some (.slice F1 k1 l1) ∧ w'.cell? ⟨w4.heap.size, 2, none⟩ = some (.slice F2 k2 l2) ∧ w'.cell? ⟨w4.heap.size, 3, none⟩ = some (.slice F3 k3 l3)
      ∧ (convert 31 9 (.slice P pn pc)).run Try.prog w' = .ok (.string sk) w' ∧ (convert 31 9 (.slice Q pn qc)).run Try.prog w' = .ok (.string sk) w' ∧ Below w7.heap.size w7 w') := Asd.mk fun w' hb => by
    have hx := blk_below hb HX7.out
    have hy := blk_below hb HY7.out
    have h1 := (HOP7.out.old hb).bytes hpl
    have h2 := (HOQ.out.old hb).bytes hpl
    subst hsk
    exact ⟨(blk_cell hx 0).trans rfl, (blk_cell hx 1).trans rfl, (blk_cell hx 2).trans rfl, (blk_cell hx 3).trans rfl, (blk_cell hy 0).trans rfl, (blk_cell hy 1).trans rfl, (blk_cell hy 2).trans rfl, (blk_cell hy 3).trans rfl, conv_b pc h1, conv_b qc h2, hb⟩
  clear hsk
  go_region_held3 (fun w' => w'.cell? ⟨w2.heap.size, 0, none⟩ = some (.bool x0) ∧ w'.cell? ⟨w2.heap.size, 1, none⟩ = some (.slice E1 i1 j1) ∧ w'.cell? ⟨w2.heap.size, 2, none⟩ = some (.slice E2 i2 j2) ∧ w'.cell? ⟨w2.heap.size, 3, none⟩ = some (.slice E3 i3 j3)
      ∧ w'.cell? ⟨w4.heap.size, 0, none⟩ = some (.bool x0) ∧ w'.cell? ⟨w4.heap.size, 1, none⟩ = some (.slice F1 k1 l1) ∧ w'.cell? ⟨w4.heap.size, 2, none⟩ = some (.slice F2 k2 l2) ∧ w'.cell? ⟨w4.heap.size, 3, none⟩ = some (.slice F3 k3 l3)
      ∧ (convert 31 9 (.slice P pn pc)).run Try.prog w' = .ok (.string sk) w' ∧ (convert 31 9 (.slice Q pn qc)).run Try.prog w' = .ok (.string sk) w' ∧ Below w7.heap.size w7 w')
    (first
      | exact HS.out _ HC.out
      | exact HS.out _ (Below.refl _ _).drew
      | fail)
    (first
      | (go_at_call 19
         refine (ours_calls _ _ _ _ x _ (lasts_node _ _ _ _ (Below.refl _ _).drew (HON7.out.read HSX.out))).mono ?_
         rintro e w8 ⟨u0, u1, u2, u3, rfl, hon, hb4⟩
         have HC : Asd (Below w7.heap.size w7 w8) := Asd.mk (below_step (Below.refl _ _).drew hb4)
         have HRO := Asd.mk (hon.read HSX.out)
         clear hb4 hon)
      | (go_at_call 18
         refine (same_calls _ _ _ _ _ _ _ _ x x _ HRO.out (lasts_node _ _ _ _ HC.out (HOY7.out.read HSX.out))).mono ?_
         rintro e w9 ⟨rfl, hb5⟩
         have HC8 := HC
         have HC : Asd (Below w7.heap.size w7 w9) := Asd.mk (below_step HC8.out hb5)
         clear hb5)
      | fail)
  have HF : Asd (sameB x x = true) := Asd.mk (by simp [sameB])
  rw [HF.out]
  have HO9 : Asd (OwnM w9 w.heap.size E n j xs) := Asd.mk (HO1.out.old (HBC.out.trans (HC.out.mono HBC.out.size)))
  have HB9 : Asd (Below w.heap.size w w9) := Asd.mk (HB1.out.trans ((HBC.out.trans (HC.out.mono HBC.out.size)).mono HB1.out.size))
  have HON9 := Asd.mk (HON7.out.above (above_below HC.out))
  have HOY9 := Asd.mk (HOY7.out.above (above_below HC.out))
  have HX9 := Asd.mk (blk_below HC.out HX7.out)
  have HY9 := Asd.mk (blk_below HC.out HY7.out)
  have HOP9 := Asd.mk (HOP7.out.old HC.out)
  have HOQ9 := Asd.mk (HOQ.out.old HC.out)
  clear HS HC8 HC HRO HON7 HOY7 HX7 HY7 HOP7 HOQ HBC HF
  go_wp2
  go_loopw [14] (fun i wr => ∃ (k : Nat) (ys : PB), k ≤ n ∧ i = .int .i64 (k : Int) ∧ Asd (OwnM wr w.heap.size E n j ys) ∧ Asd (Below w.heap.size w wr) ∧ Asd (Above w1.heap.size w9 wr)) (fun i _ => n - (intOf i).toNat)
  case atStart => exact ⟨0, xs, by omega, rfl, HO9, HB9, ⟨above_refl _ _⟩⟩
  case round =>
    obtain ⟨k, ys, hk, rfl, HO, HB, HA⟩ := hrel
    by_cases hlt : k < n
    · obtain ⟨g, cur, rfl, hbg, hh, hcur⟩ := own_cell HO.out k hlt
      have q0 := (blk_cell hh k).trans hcur
      have z0 := blk_frozen hh k
      generalize ys.getD k 0 = y at q0
      have HO2 := Asd.mk (own_set HO.out k (UInt8.ofNat ((y.toNat + 1) % 256)))
      have HB2 := Asd.mk (HB.out.setCell (p := ⟨g, k, none⟩) hbg (bcell (UInt8.ofNat ((y.toNat + 1) % 256))))
      have HA2 := Asd.mk (above_set (k := k) HA.out (HGB.out g rfl (by omega)) (bcell (UInt8.ofNat ((y.toNat + 1) % 256))))
      rw [← byte_up] at HO2 HB2 HA2
      simp only [bcell] at q0
      clear hh hcur hbg
      go_wp2
      go_roundw
      case rel => exact ⟨k + 1, _, by omega, by go_num, HO2, HB2, HA2⟩
      case measure => simp [intOf]; omega
    · have HONZ := Asd.mk (HON9.out.above HA.out)
      have HOYZ := Asd.mk (HOY9.out.above (above_mono HA.out HS3.out.1))
      have HXZ := Asd.mk (HA.out _ _ HS2.out HX9.out)
      have HYZ := Asd.mk (HA.out _ _ HS3.out.2 HY9.out)
      have HOPZ : Asd (OwnM wr w5.heap.size P pn pc ps) := Asd.mk ((above_mono HA.out HS5.out).own HOP9.out)
      have HOQZ : Asd (OwnM wr w6.heap.size Q pn qc ps) := Asd.mk ((above_mono HA.out HS6.out).own HOQ9.out)
      clear HON9 HOY9 HX9 HY9 HOP9 HOQ9 HA HO HO9 HB9
      go_upto_region 12 with fail
      generalize hsk2 : (⟨ps.toArray⟩ : ByteArray) = sk2
      have HS : Asd (∀ w', Below wr.heap.size wr w' → w'.cell? ⟨w2.heap.size, 0, none⟩ = some (.bool x0) ∧ w'.cell? ⟨w2.heap.size, 1, none⟩ = some (.slice E1 i1 j1) ∧ w'.cell? ⟨w2.heap.size, 2, none⟩ = some (.slice E2 i2 j2) ∧ w'.cell? ⟨w2.heap.size, 3, none⟩ = some (.slice E3 i3 j3)
          ∧ w'.cell? ⟨w4.heap.size, 0, none⟩ = some (.bool x0) ∧ w'.cell? ⟨w4.heap.size, 1, none⟩ = some (.slice F1 k1 l1) ∧ w'.cell? ⟨w4.heap.size, 2, none⟩ = some (.slice F2 k2 l2) ∧ w'.cell? ⟨w4.heap.size, 3, none⟩ = some (.slice F3 k3 l3)
          ∧ (convert 31 9 (.slice P pn pc)).run Try.prog w' = .ok (.string sk2) w' ∧ (convert 31 9 (.slice Q pn qc)).run Try.prog w' = .ok (.string sk2) w' ∧ Below wr.heap.size wr w') := Asd.mk fun w' hb => by
        have hx := blk_below hb HXZ.out
        have hy := blk_below hb HYZ.out
        have h1 := (HOPZ.out.old hb).bytes hpl
        have h2 := (HOQZ.out.old hb).bytes hpl
        subst hsk2
        exact ⟨(blk_cell hx 0).trans rfl, (blk_cell hx 1).trans rfl, (blk_cell hx 2).trans rfl, (blk_cell hx 3).trans rfl, (blk_cell hy 0).trans rfl, (blk_cell hy 1).trans rfl, (blk_cell hy 2).trans rfl, (blk_cell hy 3).trans rfl, conv_b pc h1, conv_b qc h2, hb⟩
      clear hsk2
      have HF : Asd (sameB x x = true) := Asd.mk (by simp [sameB])
      go_region_held3 (fun w' => w'.cell? ⟨w2.heap.size, 0, none⟩ = some (.bool x0) ∧ w'.cell? ⟨w2.heap.size, 1, none⟩ = some (.slice E1 i1 j1) ∧ w'.cell? ⟨w2.heap.size, 2, none⟩ = some (.slice E2 i2 j2) ∧ w'.cell? ⟨w2.heap.size, 3, none⟩ = some (.slice E3 i3 j3)
          ∧ w'.cell? ⟨w4.heap.size, 0, none⟩ = some (.bool x0) ∧ w'.cell? ⟨w4.heap.size, 1, none⟩ = some (.slice F1 k1 l1) ∧ w'.cell? ⟨w4.heap.size, 2, none⟩ = some (.slice F2 k2 l2) ∧ w'.cell? ⟨w4.heap.size, 3, none⟩ = some (.slice F3 k3 l3)
          ∧ (convert 31 9 (.slice P pn pc)).run Try.prog w' = .ok (.string sk2) w' ∧ (convert 31 9 (.slice Q pn qc)).run Try.prog w' = .ok (.string sk2) w' ∧ Below wr.heap.size wr w')
        (first
          | exact HS.out _ HC.out
          | exact HS.out _ (Below.refl _ _).drew
          | fail)
        (first
          | (go_at_call 19
             refine (ours_calls _ _ _ _ x _ (lasts_node _ _ _ _ (Below.refl _ _).drew (HONZ.out.read HSX.out))).mono ?_
             rintro e wA ⟨u0, u1, u2, u3, rfl, hon, hb4⟩
             have HC : Asd (Below wr.heap.size wr wA) := Asd.mk (below_step (Below.refl _ _).drew hb4)
             have HRO := Asd.mk (hon.read HSX.out)
             clear hb4 hon)
          | (go_at_call 18
             refine (same_calls _ _ _ _ _ _ _ _ x x _ HRO.out (lasts_node _ _ _ _ HC.out (HOYZ.out.read HSX.out))).mono ?_
             rintro e wB ⟨rfl, hb5⟩
             rw [HF.out]
             have HC8 := HC
             have HC : Asd (Below wr.heap.size wr wB) := Asd.mk (below_step HC8.out hb5)
             clear hb5)
          | fail)
      have HBZ := Asd.mk (HB.out.trans (HC.out.mono HB.out.size))
      clear HS HC8 HC HRO
      go_wp2
      go_ret
      exact ⟨rfl, HBZ.out⟩

set_option maxRecDepth 100000 in
theorem b_open2 {H : Type} {enc : TypeId × Value → H} (W : World) (v : Value) (d : DataW H) (p : List MemPlace) (h : DataW.Trod enc Try.prog W 0 (fun _ => true) true 31 v d p) {base : Nat} (ok : Value.okWide Try.prog W .any base 31 v)
    (wt : ∀ k ∈ d.weights Try.prog 31, k ≤ reachBytes) : ∃ A n c xs, v = .slice A n c ∧ IsBytes W A n xs ∧ (A = none → c = 0) ∧ n ≤ c := by
  have h9 := h
  obtain ⟨A, n, c, xs, rfl, ib, hz⟩ := b_open W v d p h ok wt
  refine ⟨A, n, c, xs, rfl, ib, hz, ?_⟩
  obtain ⟨fuel, hf⟩ := h9
  rcases Go.Deep.open_slice Try.underlying31 hf with ⟨e, _⟩ | ⟨a, len, cap, m, k, D, Pl, e, _, hl, _⟩
  · simp only [Value.cells] at e
    injection e with e _
    injection e with e1 e2 e3
    omega
  · simp only [Value.cells] at e
    injection e with e _
    injection e with e1 e2 e3
    omega
set_option maxRecDepth 100000 in
theorem reads_open {H : Type} {enc : TypeId × Value → H} (W : World) (v : Value) (d : DataW H) (p : List MemPlace) {base : Nat} (ok : Value.okWide Try.prog W .any base 31 v) (h : DataW.Trod enc Try.prog W 0 (fun _ => true) true 31 v d p)
    (wt : ∀ k ∈ d.weights Try.prog 31, k ≤ reachBytes) : Calls Try.prog 5 #[v] W (Tells W (.bool true)) := by
  obtain ⟨A, n, c, xs, rfl, ib, hz, hnc⟩ := b_open2 W v d p h ok wt
  exact law_reads A n c xs W ib hz hnc
end Go.Proofs.Ytnohhmopiflboaa.Nod
