/- node.read at a leaf's load. -/
import Derived.Test.YtnohhmopiflboaaNode31
set_option linter.unusedVariables false
set_option linter.unusedSimpArgs false
namespace Go.Proofs.Ytnohhmopiflboaa.Nod
open Go.RowKit Go.Proofs.Ytnohhmopiflboaa.Base Go.Proofs.Ytnohhmopiflboaa.Byt Go.Proofs.Ytnohhmopiflboaa.Rd Go.Proofs.Ytnohhmopiflboaa.App

theorem own_nil {w : World} {B : Nat} : OwnB w B (.slice none 0 0) [] := World.ownsRow_nil _ _ _ _
theorem RdSt.start {w W3 w2 : World} {gb : Nat} {r : PB} {x0 : Bool} {u : Array Value} (hb : Below w.heap.size w W3) (hs : W3.heap.size = w.heap.size + 3) (hres : W3.heap[w.heap.size + 1]? = some (.cells #[.bool false, .slice none 0 0, .slice none 0 0, .slice none 0 0] 29 (0, 0)))
    (hfn : FuncAt W3 (w.heap.size + 2) w.heap.size) (hf : Fr (fun k => k = w.heap.size) W3 w2) (hr : Rest w2 w.heap.size gb r) (hgb : gb < w.heap.size) :
    RdSt w (w2.alloc (.cells #[.bool x0, .slice none 0 0, .slice none 0 0, .slice none 0 0] 29)) gb w2.heap.size r x0 (.slice none 0 0) (.slice none 0 0) (.slice none 0 0) [] [] [] [] [] := by
  have h1 := hf.size
  have hb2 : Below w.heap.size w w2 := hb.trans ⟨hf.os, hf.tape, hf.output, hf.size, fun k hk => hf.block k (by omega) (by omega)⟩
  obtain ⟨o, m, c, hg, hmc, hib, hne⟩ := hr.out
  refine ⟨⟨⟨o, m, c, blk_alloc hg _, hmc, hib.below (below_alloc (Below.refl _ _) _), hne⟩⟩, blk_alloc (hfn.fr hf (by omega)) _, blk_alloc (blk_fr hres hf (by omega)) _, blk_new _ _, by omega, hb2.alloc hb2.size _, hgb, OwnCells.nil _ _ _, OwnKeys.nil _ _, OwnKids.nil _ _⟩
/-- A cell being read lies in a box of its own, behind all rows. -/
theorem RdSt.setC {w wr : World} {gb nb cb : Nat} {r : PB} {x0 : Bool} {vc vk vp : Value} {cs : List PCell} {ks : List PB} {is : List Int} {ps : List PV} {qs : List Value} (h : RdSt w wr gb nb r x0 vc vk vp cs ks is ps qs)
    (hrow : ∀ k, vc.ownBlock = some k → k < cb) {cur : Array Value} (hc : wr.heap[cb]? = some (.cells cur 61 (0, 0))) (hnb : nb < cb) (j : Nat) (u : Value) : RdSt w (wr.setCell ⟨cb, j, none⟩ u) gb nb r x0 vc vk vp cs ks is ps qs := by
  have h1 := h.nb
  have h2 := h.old
  have keep (e : TypeId) (he : 61 ≠ e) : KeepT e wr (wr.setCell ⟨cb, j, none⟩ u) := (KeepT.refl e wr).setCell (p := ⟨cb, j, none⟩) hc he u
  refine ⟨rest_far h.rest (p := ⟨cb, j, none⟩) (by simp; omega) (by simp; omega) u, blk_far h.fn (p := ⟨cb, j, none⟩) (by simp; omega) u, blk_far h.res (p := ⟨cb, j, none⟩) (by simp; omega) u, blk_far h.box (p := ⟨cb, j, none⟩) (by simp; omega) u, h.nb, h.below.setCell (p := ⟨cb, j, none⟩) (by simp; omega) u, h.old, ?_, h.keys.keep (keep _ (by decide)) (keep _ (by decide)), h.kids.keep (keep _ (by decide))⟩
  refine ⟨?_, h.cells.len, fun j a b => ⟨(keep _ (by decide)).own (h.cells.cell j a b).1, (keep _ (by decide)).own (h.cells.cell j a b).2.1, (h.cells.cell j a b).2.2⟩⟩
  refine h.cells.own.kept (row := some cb) ⟨rfl, rfl, rfl, by simp [World.setCell], fun k hk hne => Below.heap_setCell wr ⟨cb, j, none⟩ u k (fun e => hne (by rw [e]))⟩ ?_
  cases hv : vc.ownBlock with
  | none => exact .inl rfl
  | some k => exact .inr (fun e => by injection e with e; have := hrow k hv; omega)
theorem manyP_one {α : Type} (f : PB → Option (α × PB)) (m : Nat) (r r1 : PB) (c : α) (hf : f r = some (c, r1)) (cs : List α) :
    (manyP f (m + 1) r).map (fun p => (cs ++ p.1, p.2)) = (manyP f m r1).map (fun p => ((cs ++ [c]) ++ p.1, p.2)) := by
  simp only [manyP, hf, Option.map_map]
  congr 1
  funext p
  simp
theorem manyP_none {α : Type} (f : PB → Option (α × PB)) (m : Nat) (r : PB) (hf : f r = none) (cs : List α) : (manyP f (m + 1) r).map (fun p => (cs ++ p.1, p.2)) = none := by
  simp [manyP, hf]

def Reads (w : World) (xs : PB) (e : Ending) (w' : World) : Prop := Below w.heap.size w w' ∧ match readP xs with
  | none => e = .panicked [{ v := bad, recovered := false }]
  | some x => ∃ v0 v1 v2 v3, e = .returned (.agg #[v0, v1, v2, v3]) ∧ OwnNode 61 w' w.heap.size v0 v1 v2 v3 x
theorem reads_none {w w' : World} {xs : PB} (h : readP xs = none) (hb : Below w.heap.size w w') : Reads w xs (.panicked [{ v := bad, recovered := false }]) w' := ⟨hb, by rw [h]⟩

theorem rd_fin {w wr : World} {gb nb : Nat} {r xs : PB} {x0 : Bool} {vc vk vp : Value} {cs : List PCell} {ks : List PB} {is : List Int} {ps : List PV} {qs : List Value} (h : RdSt w wr gb nb r x0 vc vk vp cs ks is ps qs) (he : readP xs = some (x0, cs, ks, is)) :
    Reads w xs (.returned (.agg #[.bool x0, vc, vk, vp])) ((((wr.setCell ⟨w.heap.size + 1, 0, none⟩ (.bool x0)).setCell ⟨w.heap.size + 1, 1, none⟩ vc).setCell ⟨w.heap.size + 1, 2, none⟩ vk).setCell ⟨w.heap.size + 1, 3, none⟩ vp) ∧
      ((((wr.setCell ⟨w.heap.size + 1, 0, none⟩ (.bool x0)).setCell ⟨w.heap.size + 1, 1, none⟩ vc).setCell ⟨w.heap.size + 1, 2, none⟩ vk).setCell ⟨w.heap.size + 1, 3, none⟩ vp).heap[w.heap.size + 1]? = some (.cells #[.bool x0, vc, vk, vp] 29 (0, 0)) := by
  have k1 := blk_set h.res 0 (.bool x0)
  have k2 := blk_set k1 1 vc
  have k3 := blk_set k2 2 vk
  have k4 := blk_set k3 3 vp
  have keep (e : TypeId) (hne : 29 ≠ e) : KeepT e wr _ := ((((KeepT.refl e wr).setCell (p := ⟨w.heap.size + 1, 0, none⟩) h.res hne (.bool x0)).setCell (p := ⟨w.heap.size + 1, 1, none⟩) k1 hne vc).setCell (p := ⟨w.heap.size + 1, 2, none⟩) k2 hne vk).setCell (p := ⟨w.heap.size + 1, 3, none⟩) k3 hne vp
  refine ⟨⟨?_, ?_⟩, by simpa using k4⟩
  · exact (((h.below.setCell (p := ⟨w.heap.size + 1, 0, none⟩) (by simp) _).setCell (p := ⟨w.heap.size + 1, 1, none⟩) (by simp) _).setCell (p := ⟨w.heap.size + 1, 2, none⟩) (by simp) _).setCell (p := ⟨w.heap.size + 1, 3, none⟩) (by simp) _
  · rw [he]
    have hc := h.cells.keep (keep _ (by decide)) (keep _ (by decide))
    have hk := h.keys.keep (keep _ (by decide)) (keep _ (by decide))
    have hi := h.kids.keep (keep _ (by decide))
    exact ⟨_, _, _, _, rfl, ⟨rfl, ⟨ps, own_base hc.own (by omega), hc.len, fun j a b => ⟨own_base (hc.cell j a b).1 (by omega), own_base (hc.cell j a b).2.1 (by omega), (hc.cell j a b).2.2⟩⟩, ⟨qs, own_base hk.own (by omega), fun j a b => own_base (hk.key j a b) (by omega)⟩, own_base hi (by omega)⟩⟩

set_option maxRecDepth 100000 in
set_option maxHeartbeats 6400000 in
theorem read_leaf (gb o m c : Nat) (xs : PB) (w : World) (h : IsBytes w (some ⟨gb, o, none⟩) m xs) (hmc : m ≤ c) (hm : 0 < m) (hm2 : m ≤ 508) (hgb : gb < w.heap.size) (h1 : xs.getD 0 0 = 1) :
    Calls Try.prog 46 #[.slice (some ⟨gb, o, none⟩) m c] w (Reads w xs) := by
  have hmf := mk_func
  have hst := st_func
  have hl := h.1
  have HT : Asd (takeP 1 xs = some (xs.take 1, xs.drop 1)) := Asd.mk (by unfold takeP; rw [if_neg (by omega)])
  have HY : Asd ((xs.take 1).getD 0 0 = 1) := Asd.mk (by rw [← h1]; cases xs <;> simp)
  have HRN : Asd (numP (xs.drop 1) = none → readP xs = none) := Asd.mk (fun hn => by unfold readP; rw [HT.out]; dsimp only; rw [if_pos HY.out, hn])
  have HRS : Asd (∀ n r1, numP (xs.drop 1) = some (n, r1) → readP xs = leafFin (manyP cellP n.toNat r1)) := Asd.mk (fun n r1 hn => by unfold readP; rw [HT.out]; dsimp only; rw [if_pos HY.out, hn])
  have HB0 : Asd (Below w.heap.size w (((w.alloc (.cells #[.slice (some ⟨gb, o, none⟩) m c] 31)).alloc (.cells #[.bool false, .slice none 0 0, .slice none 0 0, .slice none 0 0] 29)).alloc (.cells #[.func (.func 77) #[] #[.pointer (some ⟨w.heap.size, 0, none⟩)]] 44))) := Asd.mk (below_alloc (below_alloc (below_alloc (Below.refl _ _) _) _) _)
  have HREST : Asd (Rest (((w.alloc (.cells #[.slice (some ⟨gb, o, none⟩) m c] 31)).alloc (.cells #[.bool false, .slice none 0 0, .slice none 0 0, .slice none 0 0] 29)).alloc (.cells #[.func (.func 77) #[] #[.pointer (some ⟨w.heap.size, 0, none⟩)]] 44)) w.heap.size gb xs) := Asd.mk
    ⟨⟨o, m, c, blk_alloc (blk_alloc (blk_new _ _) _) _, hmc, h.below HB0.out, by omega⟩⟩
  have HRES : Asd ((((w.alloc (.cells #[.slice (some ⟨gb, o, none⟩) m c] 31)).alloc (.cells #[.bool false, .slice none 0 0, .slice none 0 0, .slice none 0 0] 29)).alloc (.cells #[.func (.func 77) #[] #[.pointer (some ⟨w.heap.size, 0, none⟩)]] 44)).heap[w.heap.size + 1]? = some (.cells #[.bool false, .slice none 0 0, .slice none 0 0, .slice none 0 0] 29 (0, 0))) := Asd.mk (blk_alloc (two_new w _ _).2 _)
  have HFN : Asd (FuncAt (((w.alloc (.cells #[.slice (some ⟨gb, o, none⟩) m c] 31)).alloc (.cells #[.bool false, .slice none 0 0, .slice none 0 0, .slice none 0 0] 29)).alloc (.cells #[.func (.func 77) #[] #[.pointer (some ⟨w.heap.size, 0, none⟩)]] 44)) (w.heap.size + 2) w.heap.size) := Asd.mk (by
    have := blk_new ((w.alloc (.cells #[.slice (some ⟨gb, o, none⟩) m c] 31)).alloc (.cells #[.bool false, .slice none 0 0, .slice none 0 0, .slice none 0 0] 29)) (.cells #[.func (.func 77) #[] #[.pointer (some ⟨w.heap.size, 0, none⟩)]] 44)
    have e : ((w.alloc (.cells #[.slice (some ⟨gb, o, none⟩) m c] 31)).alloc (.cells #[.bool false, .slice none 0 0, .slice none 0 0, .slice none 0 0] 29)).heap.size = w.heap.size + 2 := by simp
    rw [e] at this
    exact this)
  clear h h1
  go_enter Try.func46, Try.ntmps46
  go_wp2_with fail
  refine (take_calls w.heap.size gb 1 xs _ (by omega) HREST.out).mono ?_
  rintro e w2 ⟨hfr, hm⟩
  rw [HT.out] at hm
  obtain ⟨⟨A', c', rfl, ho⟩, hr⟩ := hm
  have HST := Asd.mk (RdSt.start (x0 := true) (u := #[]) HB0.out (by simp) HRES.out HFN.out hfr hr hgb)
  obtain ⟨b, cur, rfl, hbb, hh, hc0⟩ := own_cell ho 0 (by omega)
  have q0 := (blk_cell hh 0).trans hc0
  rw [HY.out, show bcell (1 : UInt8) = .int .u8 1 from rfl] at q0
  clear hfr ho hr hbb hh hc0 HT HY HREST HRES HFN
  go_wp2_with fail
  generalize hr0 : xs.drop 1 = r0 at HST HRN HRS
  refine (number_calls (w.heap.size + 2) w.heap.size gb r0 _ HST.out.fn HST.out.rest).mono ?_
  rintro e w3 ⟨hfr, hm⟩
  cases hnum : numP r0 with
  | none =>
    rw [hnum] at hm
    subst hm
    exact ⟨rfl, reads_none (HRN.out hnum) (HST.out.below.trans ⟨hfr.os, hfr.tape, hfr.output, hfr.size, fun k hk => hfr.block k (by have := HST.out.below.size; omega) (by omega)⟩)⟩
  | some q =>
  obtain ⟨cnt, r1⟩ := q
  rw [hnum] at hm
  obtain ⟨rfl, hrr⟩ := hm
  have HST3 := Asd.mk (HST.out.took hfr hrr)
  obtain ⟨hn0, hn1⟩ := numP_lt hnum
  obtain ⟨N, rfl⟩ : ∃ N : Nat, cnt = (N : Int) := ⟨cnt.toNat, by omega⟩
  have HRP : Asd (readP xs = leafFin (manyP cellP N r1)) := Asd.mk (by have := HRS.out _ _ hnum; simpa using this)
  have hN : N < 65536 := by omega
  generalize hnb : w2.heap.size = nb at HST HST3
  have p0 := (blk_cell HST3.out.box 0).trans rfl
  clear hfr hrr hnum hn0 hn1 HRN HRS HST hr0
  go_wp2
  go_loopw [40] (fun i wr => ∃ (k : Nat) (r : PB) (vc : Value) (cs : List PCell) (ps : List PV), k ≤ N ∧ i = .int .i64 (k : Int) ∧ Asd (RdSt w wr gb nb r true vc (.slice none 0 0) (.slice none 0 0) cs [] [] ps []) ∧ Asd (cs.length = k) ∧ Asd (readP xs = leafFin ((manyP cellP (N - k) r).map fun p => (cs ++ p.1, p.2)))) (fun i _ => N - (intOf i).toNat)
  case atStart => exact ⟨0, r1, _, [], [], by omega, rfl, HST3, ⟨rfl⟩, ⟨by rw [HRP.out]; simp⟩⟩
  case round =>
    obtain ⟨k, r, vc, cs, ps, hk, rfl, HS, HK, HR⟩ := hrel
    have p0 := (blk_cell HS.out.box 0).trans rfl
    have f0 := (blk_cell HS.out.fn 0).trans rfl
    by_cases hlt : k < N
    · have HRN : Asd (cellP r = none → readP xs = none) := Asd.mk (fun hc => by rw [HR.out, show N - k = (N - (k + 1)) + 1 by omega, manyP_none _ _ _ hc]; rfl)
      have HRS : Asd (∀ c r1, cellP r = some (c, r1) → readP xs = leafFin ((manyP cellP (N - (k + 1)) r1).map fun p => ((cs ++ [c]) ++ p.1, p.2))) := Asd.mk (fun c r1 hc => by rw [HR.out, show N - k = (N - (k + 1)) + 1 by omega, manyP_one _ _ _ _ _ hc])
      have HNB : Asd (nb < wr.heap.size) := Asd.mk (blk_lt HS.out.box)
      go_wp2_with fail
      refine (key_calls (w.heap.size + 2) w.heap.size gb r wr HS.out.fn (by omega) HS.out.rest).mono ?_
      rintro e w4 ⟨hfr, hm⟩
      cases hkey : keyP r with
      | none =>
        rw [hkey] at hm
        subst hm
        exact ⟨rfl, reads_none (HRN.out (by simp [cellP, hkey])) (HS.out.below.trans ⟨hfr.os, hfr.tape, hfr.output, hfr.size, fun k hk => hfr.block k (by have := HS.out.below.size; omega) (by omega)⟩)⟩
      | some q =>
      obtain ⟨key, r4⟩ := q
      rw [hkey] at hm
      obtain ⟨⟨Ak, ck, rfl, hok⟩, hrr⟩ := hm
      have HS4 := Asd.mk (HS.out.took hfr hrr)
      have HKEY := Asd.mk hkey
      have HOK4 : Asd (OwnM w4 (w.heap.size + 3) Ak key.length ck key) := Asd.mk (own_base hok (by have := HNB.out; have := HS.out.nb; omega))
      have HS4N : Asd (nb < w4.heap.size) := Asd.mk (blk_lt HS4.out.box)
      clear hfr hrr hkey hok
      go_wp2_with fail
      refine (number_calls (w.heap.size + 2) w.heap.size gb r4 w4 HS4.out.fn HS4.out.rest).mono ?_
      rintro e w5 ⟨hfr, hm⟩
      cases hnum : numP r4 with
      | none =>
        rw [hnum] at hm
        subst hm
        exact ⟨rfl, reads_none (HRN.out (by simp [cellP, HKEY.out, hnum])) (HS4.out.below.trans ⟨hfr.os, hfr.tape, hfr.output, hfr.size, fun k hk => hfr.block k (by have := HS4.out.below.size; omega) (by omega)⟩)⟩
      | some q =>
      obtain ⟨sz, r5⟩ := q
      rw [hnum] at hm
      obtain ⟨rfl, hrr⟩ := hm
      have HS5 := Asd.mk (HS4.out.took hfr hrr)
      have HNUM := Asd.mk hnum
      have HOK5 : Asd (OwnM w5 (w.heap.size + 3) Ak key.length ck key) := Asd.mk ((above_fr hfr (by omega)).own HOK4.out)
      obtain ⟨hs0, hs1⟩ := numP_lt hnum
      obtain ⟨S, rfl⟩ : ∃ S : Nat, sz = (S : Int) := ⟨sz.toNat, by omega⟩
      have hS : S < 65536 := by omega
      have HNB5 : Asd (nb < w5.heap.size) := Asd.mk (blk_lt HS5.out.box)
      clear hfr hrr hnum hs0 hs1 HS4 HOK4 f0 p0
      have HCB := Asd.mk (blk_new w5 (.cells #[.slice Ak key.length ck, .slice none 0 0, .int .i64 0, .int .i64 (S : Int)] 61))
      have HS6 := Asd.mk (HS5.out.alloc (.cells #[.slice Ak key.length ck, .slice none 0 0, .int .i64 0, .int .i64 (S : Int)] 61))
      have HOK6 := Asd.mk (HOK5.out.alloc (.cells #[.slice Ak key.length ck, .slice none 0 0, .int .i64 0, .int .i64 (S : Int)] 61))
      have HROW : Asd (∀ k, vc.ownBlock = some k → k < w5.heap.size) := Asd.mk (fun k hk => (HS5.out.cells.own.lt k hk).2)
      have f6 := (blk_cell HS6.out.fn 0).trans rfl
      by_cases hbig : 64 < S
      · go_wp2_with fail
        refine (number_calls (w.heap.size + 2) w.heap.size gb r5 _ HS6.out.fn HS6.out.rest).mono ?_
        rintro e w7 ⟨hfr, hm⟩
        cases hnum : numP r5 with
        | none =>
          rw [hnum] at hm
          subst hm
          exact ⟨rfl, reads_none (HRN.out (by simp [cellP, HKEY.out, HNUM.out, hnum]; omega)) (HS6.out.below.trans ⟨hfr.os, hfr.tape, hfr.output, hfr.size, fun k hk => hfr.block k (by have := HS6.out.below.size; omega) (by omega)⟩)⟩
        | some q =>
        obtain ⟨ov, r7⟩ := q
        rw [hnum] at hm
        obtain ⟨rfl, hrr⟩ := hm
        have HS7 := Asd.mk (HS6.out.took hfr hrr)
        have HCB7 := Asd.mk (blk_fr HCB.out hfr (by have := HNB5.out; have := HS5.out.nb; omega))
        have HCELL : Asd (cellP r = some ((key, [], ov, (S : Int)), r7)) := Asd.mk (by simp only [cellP, HKEY.out, HNUM.out, hnum]; rw [if_pos (by omega)])
        have HK7 := Asd.mk ((above_fr hfr (B := w.heap.size + 3) (by omega)).own HOK6.out)
        have c2 := (blk_cell HCB7.out 2).trans rfl
        have z2 := blk_frozen HCB7.out 2
        clear hfr hrr hnum f6 HS6 HOK6 HCB
        go_upto_region 20 with fail
        have HC8 := Asd.mk (blk_set HCB7.out 2 (.int .i64 ov))
        have HS8 := Asd.mk (HS7.out.setC HROW.out HCB7.out HNB5.out 2 (.int .i64 ov))
        have HOKK : Asd (OwnB (w7.setCell ⟨w5.heap.size, 2, none⟩ (.int .i64 ov)) (w.heap.size + 3) (.slice Ak key.length ck) key) := Asd.mk (OwnM.own (((KeepT.refl _ w7).setCell (p := ⟨w5.heap.size, 2, none⟩) HCB7.out (by decide) (.int .i64 ov)).own HK7.out))
        have HOKV : Asd (OwnB (w7.setCell ⟨w5.heap.size, 2, none⟩ (.int .i64 ov)) (w.heap.size + 3) (.slice none 0 0) []) := Asd.mk own_nil
        simp only [List.setIfInBounds_toArray, List.set_cons_zero, List.set_cons_succ] at HC8
        generalize w7.setCell ⟨w5.heap.size, 2, none⟩ (.int .i64 ov) = w8 at HC8 HS8 HOKK HOKV ⊢
        clear c2 z2
        have hvc := own_form HS8.out.cells.own
        rw [HK.out] at hvc
        obtain ⟨Av0, cv0, hvc⟩ := hvc
        have HVC := Asd.mk hvc
        have c0 := (blk_cell HC8.out 0).trans rfl
        have c1 := (blk_cell HC8.out 1).trans rfl
        have c2 := (blk_cell HC8.out 2).trans rfl
        have c3 := (blk_cell HC8.out 3).trans rfl
        have b1 := (blk_cell HS8.out.box 1).trans rfl
        have HSZ8 : Asd (w.heap.size + 3 ≤ w8.heap.size) := Asd.mk (by have := blk_lt HS8.out.box; have := HS8.out.nb; omega)
        have HOW : Asd ((w8.alloc (.cells #[.slice Ak key.length ck, .slice none 0 0, .int .i64 ov, .int .i64 (S : Int)] 61)).ownsRow (w.heap.size + 3) 61 4 vc k (cells4 ps)) := Asd.mk (by have := HS8.out.cells.own; rw [HK.out] at this; exact this.alloc _)
        have HS8A := Asd.mk (HS8.out.alloc (.cells #[.slice Ak key.length ck, .slice none 0 0, .int .i64 ov, .int .i64 (S : Int)] 61))
        have hlt8 := blk_lt HS8.out.box
        clear hvc
        go_wp2_with (at_builtin; refine wpList_src rfl (.tmp 76) (.tmp 78) _ rfl rowC vc rfl HOW.out (some ⟨w8.heap.size, 0, none⟩) 1 1 rfl (Feeds.of_block (blk_new w8 _) rfl (by simp [Value.oneCell'])) (by unfold maxLen; omega) (by omega) (Nat.le_trans HSZ8.out (by simp)) ?_)
        intro A9 c9 w9 ho9 hg9
        have HBX9 := Asd.mk (blk_grown HS8A.out.box HOW.out hg9 (by decide))
        have HS9 := Asd.mk (HS8A.out.addCell (key := key) hg9 ho9 HK.out.symm (HOKK.out.alloc _) (HOKV.out.alloc _))
        have b9 := (blk_cell HBX9.out 1).trans rfl
        have z9 := blk_frozen HBX9.out 1
        have HRR := Asd.mk (HRS.out _ _ HCELL.out)
        clear ho9 hg9 c0 c1 c2 c3 b1
        go_wp2
        go_roundw
        case rel => exact ⟨k + 1, _, _, _, _, by omega, by go_num, HS9, ⟨by simp [HK.out]⟩, HRR⟩
        case measure => simp [intOf]; omega
      · go_wp2_with fail
        refine (take_calls w.heap.size gb S r5 _ (by omega) HS6.out.rest).mono ?_
        rintro e w7 ⟨hfr, hm⟩
        cases htk : takeP S r5 with
        | none =>
          rw [htk] at hm
          subst hm
          exact ⟨rfl, reads_none (HRN.out (by simp [cellP, HKEY.out, HNUM.out, htk]; omega)) (HS6.out.below.trans ⟨hfr.os, hfr.tape, hfr.output, hfr.size, fun k hk => hfr.block k (by have := HS6.out.below.size; omega) (by omega)⟩)⟩
        | some q =>
        obtain ⟨val, r7⟩ := q
        rw [htk] at hm
        obtain ⟨⟨Av, cv, rfl, hov⟩, hrr⟩ := hm
        have HS7 := Asd.mk (HS6.out.took hfr hrr)
        have HCB7 := Asd.mk (blk_fr HCB.out hfr (by have := HNB5.out; have := HS5.out.nb; omega))
        have HCELL : Asd (cellP r = some ((key, val, 0, (S : Int)), r7)) := Asd.mk (by simp only [cellP, HKEY.out, HNUM.out]; rw [if_neg (by omega)]; simp [htk])
        have HK7 := Asd.mk ((above_fr hfr (B := w.heap.size + 3) (by omega)).own HOK6.out)
        have HV7 : Asd (OwnM w7 (w.heap.size + 3) Av S cv val) := Asd.mk (own_base hov (by have := HNB5.out; have := HS5.out.nb; simp; omega))
        have c2 := (blk_cell HCB7.out 1).trans rfl
        have z2 := blk_frozen HCB7.out 1
        clear hfr hrr htk hov f6 HS6 HOK6 HCB
        go_upto_region 20 with fail
        have HC8 := Asd.mk (blk_set HCB7.out 1 (.slice Av S cv))
        have HS8 := Asd.mk (HS7.out.setC HROW.out HCB7.out HNB5.out 1 (.slice Av S cv))
        have HOKK : Asd (OwnB (w7.setCell ⟨w5.heap.size, 1, none⟩ (.slice Av S cv)) (w.heap.size + 3) (.slice Ak key.length ck) key) := Asd.mk (OwnM.own (((KeepT.refl _ w7).setCell (p := ⟨w5.heap.size, 1, none⟩) HCB7.out (by decide) (.slice Av S cv)).own HK7.out))
        have HOKV : Asd (OwnB (w7.setCell ⟨w5.heap.size, 1, none⟩ (.slice Av S cv)) (w.heap.size + 3) (.slice Av S cv) val) := Asd.mk (OwnM.own (((KeepT.refl _ w7).setCell (p := ⟨w5.heap.size, 1, none⟩) HCB7.out (by decide) (.slice Av S cv)).own HV7.out))
        simp only [List.setIfInBounds_toArray, List.set_cons_zero, List.set_cons_succ] at HC8
        generalize w7.setCell ⟨w5.heap.size, 1, none⟩ (.slice Av S cv) = w8 at HC8 HS8 HOKK HOKV ⊢
        clear c2 z2
        have hvc := own_form HS8.out.cells.own
        rw [HK.out] at hvc
        obtain ⟨Av0, cv0, hvc⟩ := hvc
        have HVC := Asd.mk hvc
        have c0 := (blk_cell HC8.out 0).trans rfl
        have c1 := (blk_cell HC8.out 1).trans rfl
        have c2 := (blk_cell HC8.out 2).trans rfl
        have c3 := (blk_cell HC8.out 3).trans rfl
        have b1 := (blk_cell HS8.out.box 1).trans rfl
        have HSZ8 : Asd (w.heap.size + 3 ≤ w8.heap.size) := Asd.mk (by have := blk_lt HS8.out.box; have := HS8.out.nb; omega)
        have HOW : Asd ((w8.alloc (.cells #[.slice Ak key.length ck, .slice Av S cv, .int .i64 0, .int .i64 (S : Int)] 61)).ownsRow (w.heap.size + 3) 61 4 vc k (cells4 ps)) := Asd.mk (by have := HS8.out.cells.own; rw [HK.out] at this; exact this.alloc _)
        have HS8A := Asd.mk (HS8.out.alloc (.cells #[.slice Ak key.length ck, .slice Av S cv, .int .i64 0, .int .i64 (S : Int)] 61))
        have hlt8 := blk_lt HS8.out.box
        clear hvc
        go_wp2_with (at_builtin; refine wpList_src rfl (.tmp 76) (.tmp 78) _ rfl rowC vc rfl HOW.out (some ⟨w8.heap.size, 0, none⟩) 1 1 rfl (Feeds.of_block (blk_new w8 _) rfl (by simp [Value.oneCell'])) (by unfold maxLen; omega) (by omega) (Nat.le_trans HSZ8.out (by simp)) ?_)
        intro A9 c9 w9 ho9 hg9
        have HBX9 := Asd.mk (blk_grown HS8A.out.box HOW.out hg9 (by decide))
        have HS9 := Asd.mk (HS8A.out.addCell (key := key) hg9 ho9 HK.out.symm (HOKK.out.alloc _) (HOKV.out.alloc _))
        have b9 := (blk_cell HBX9.out 1).trans rfl
        have z9 := blk_frozen HBX9.out 1
        have HRR := Asd.mk (HRS.out _ _ HCELL.out)
        clear ho9 hg9 c0 c1 c2 c3 b1
        go_wp2
        go_roundw
        case rel => exact ⟨k + 1, _, _, _, _, by omega, by go_num, HS9, ⟨by simp [HK.out]⟩, HRR⟩
        case measure => simp [intOf]; omega
    · have hkk : N - k = 0 := by omega
      have HE : Asd (readP xs = if zeros r then some (true, cs, [], []) else none) := Asd.mk (by rw [HR.out, hkk]; simp [manyP, leafFin])
      obtain ⟨o4, m4, c4, hg4, hmc4, hib4, hne4⟩ := HS.out.rest.out
      have g0 := (blk_cell hg4 0).trans rfl
      have HIB4 := Asd.mk hib4
      obtain ⟨Av0, cv0, hvc⟩ := own_form HS.out.cells.own
      clear hg4 hib4 hkk
      go_wp2_with fail
      refine (empty_calls (some ⟨gb, o4, none⟩) m4 c4 r wr HIB4.out).mono ?_
      rintro e w9 ⟨rfl, rfl⟩
      subst hvc
      cases hz : zeros r with
      | false =>
        have HN := Asd.mk (reads_none (by rw [HE.out, hz]; rfl) HS.out.below)
        clear hz
        go_wp2
        exact ⟨rfl, HN.out⟩
      | true =>
        have HFIN := Asd.mk (rd_fin HS.out (by rw [HE.out, hz]; rfl))
        have b1 := (blk_cell HS.out.box 1).trans rfl
        have b2 := (blk_cell HS.out.box 2).trans rfl
        have b3 := (blk_cell HS.out.box 3).trans rfl
        have r0 := (blk_cell HS.out.res 0).trans rfl
        have r1 := (blk_cell HS.out.res 1).trans rfl
        have r2 := (blk_cell HS.out.res 2).trans rfl
        have r3 := (blk_cell HS.out.res 3).trans rfl
        have x0 := blk_frozen HS.out.res 0
        have x1 := blk_frozen HS.out.res 1
        have x2 := blk_frozen HS.out.res 2
        have x3 := blk_frozen HS.out.res 3
        clear hz
        go_wp2
        (try simp only [Exit.inBlock, Exit.then])
        refine bodyPost_ret (results_cell_row rfl _ _ (w.heap.size + 1) 29 _ (0, 0) _ rfl HFIN.out.2 Try.underlying29 rfl (by kernel_rfl)) rfl ?_
        exact HFIN.out.1
end Go.Proofs.Ytnohhmopiflboaa.Nod
