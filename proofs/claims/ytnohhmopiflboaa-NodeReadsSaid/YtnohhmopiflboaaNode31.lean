/- What a load says as a node; the state of a reading. -/
import Derived.Test.YtnohhmopiflboaaNode30
set_option linter.unusedVariables false
set_option linter.unusedSimpArgs false
namespace Go.Proofs.Ytnohhmopiflboaa.Nod
open Go.RowKit Go.Proofs.Ytnohhmopiflboaa.Base Go.Proofs.Ytnohhmopiflboaa.Byt Go.Proofs.Ytnohhmopiflboaa.Rd Go.Proofs.Ytnohhmopiflboaa.App

/-! ### Reading, plainly -/
def cellP (r : PB) : Option (PCell × PB) :=
  match keyP r with
  | none => none
  | some (k, r1) =>
    match numP r1 with
    | none => none
    | some (s, r2) =>
      if 64 < s then
        match numP r2 with
        | none => none
        | some (o, r3) => some ((k, [], o, s), r3)
      else
        match takeP s.toNat r2 with
        | none => none
        | some (v, r3) => some ((k, v, 0, s), r3)
def entP (r : PB) : Option ((PB × Int) × PB) :=
  match keyP r with
  | none => none
  | some (k, r1) =>
    match numP r1 with
    | none => none
    | some (p, r2) => some ((k, p), r2)
def manyP {α : Type} (f : PB → Option (α × PB)) : Nat → PB → Option (List α × PB)
  | 0, r => some ([], r)
  | n + 1, r =>
    match f r with
    | none => none
    | some (c, r1) => (manyP f n r1).map fun p => (c :: p.1, p.2)
def leafFin (q : Option (List PCell × PB)) : Option PNode := q.bind fun p => if zeros p.2 then some (true, p.1, [], []) else none
def innerFin (p0 : Int) (q : Option (List (PB × Int) × PB)) : Option PNode := q.bind fun p => if zeros p.2 then some (false, [], p.1.map (·.1), p0 :: p.1.map (·.2)) else none
def readP (xs : PB) : Option PNode :=
  match takeP 1 xs with
  | none => none
  | some (k, r0) =>
    if k.getD 0 0 = 1 then
      match numP r0 with
      | none => none
      | some (n, r1) => leafFin (manyP cellP n.toNat r1)
    else if k.getD 0 0 = 2 then
      match numP r0 with
      | none => none
      | some (n, r1) =>
        match numP r1 with
        | none => none
        | some (p0, r2) => innerFin p0 (manyP entP n.toNat r2)
    else none

theorem num2_lt (ys : PB) : 0 ≤ num2 ys ∧ num2 ys < 65536 := by
  have h0 := (ys.getD 0 0).toNat_lt
  have h1 := (ys.getD 1 0).toNat_lt
  unfold num2
  omega
theorem numP_lt {r r1 : PB} {n : Int} (h : numP r = some (n, r1)) : 0 ≤ n ∧ n < 65536 := by
  simp only [numP, Option.map_eq_some_iff] at h
  obtain ⟨p, _, h2⟩ := h
  injection h2 with h3 h4
  rw [← h3]
  exact num2_lt _

/-! ### The state of a reading: B is where the call's own rows begin, behind the first three boxes -/
structure RdSt (w wr : World) (gb nb : Nat) (r : PB) (x0 : Bool) (vc vk vp : Value) (cs : List PCell) (ks : List PB) (is : List Int) (ps : List PV) (qs : List Value) : Prop where
  rest : Rest wr w.heap.size gb r
  fn : FuncAt wr (w.heap.size + 2) w.heap.size
  res : wr.heap[w.heap.size + 1]? = some (.cells #[.bool false, .slice none 0 0, .slice none 0 0, .slice none 0 0] 29 (0, 0))
  box : wr.heap[nb]? = some (.cells #[.bool x0, vc, vk, vp] 29 (0, 0))
  nb : w.heap.size + 2 < nb
  below : Below w.heap.size w wr
  old : gb < w.heap.size
  cells : OwnCells 61 wr (w.heap.size + 3) vc cs ps
  keys : OwnKeys wr (w.heap.size + 3) vk ks qs
  kids : OwnKids wr (w.heap.size + 3) vp is

theorem above_fr {g B : Nat} {w w' : World} (h : Fr (fun k => k = g) w w') (hg : g < B) : Above B w w' := fun k o hk ho => (h.block k (blk_lt ho) (fun e => by omega)).trans ho
theorem OwnCells.above {T : TypeId} {W W' : World} {B : Nat} {v : Value} {xs : List PCell} {ps : List PV} (h : OwnCells T W B v xs ps) (ha : Above B W W') : OwnCells T W' B v xs ps :=
  ⟨ha.own h.own, h.len, fun j a b => ⟨ha.own (h.cell j a b).1, ha.own (h.cell j a b).2.1, (h.cell j a b).2.2⟩⟩
theorem OwnKeys.above {W W' : World} {B : Nat} {v : Value} {xs : List PB} {ps : List Value} (h : OwnKeys W B v xs ps) (ha : Above B W W') : OwnKeys W' B v xs ps := ⟨ha.own h.own, fun j a b => ha.own (h.key j a b)⟩
theorem OwnKids.above {W W' : World} {B : Nat} {v : Value} {xs : List Int} (h : OwnKids W B v xs) (ha : Above B W W') : OwnKids W' B v xs := ha.own h

theorem RdSt.took {w wr w2 : World} {gb nb : Nat} {r r2 : PB} {x0 : Bool} {vc vk vp : Value} {cs : List PCell} {ks : List PB} {is : List Int} {ps : List PV} {qs : List Value} (h : RdSt w wr gb nb r x0 vc vk vp cs ks is ps qs)
    (hf : Fr (fun k => k = w.heap.size) wr w2) (hr : Rest w2 w.heap.size gb r2) : RdSt w w2 gb nb r2 x0 vc vk vp cs ks is ps qs := by
  have hnb := h.nb
  have hb := h.below.size
  have ha := above_fr hf (show w.heap.size < w.heap.size + 3 by omega)
  exact ⟨hr, h.fn.fr hf (by omega), blk_fr h.res hf (by omega), blk_fr h.box hf (by omega), h.nb, h.below.trans ⟨hf.os, hf.tape, hf.output, hf.size, fun k hk => hf.block k (by omega) (by omega)⟩, h.old, h.cells.above ha, h.keys.above ha, h.kids.above ha⟩
theorem RdSt.lies {w wr w2 : World} {gb nb : Nat} {r : PB} {x0 : Bool} {vc vk vp : Value} {cs : List PCell} {ks : List PB} {is : List Int} {ps : List PV} {qs : List Value} (h : RdSt w wr gb nb r x0 vc vk vp cs ks is ps qs)
    (hb : Below wr.heap.size wr w2) : RdSt w w2 gb nb r x0 vc vk vp cs ks is ps qs := by
  have ha : Above (w.heap.size + 3) wr w2 := above_below hb
  obtain ⟨o, m, c, hg, hmc, hib, hne⟩ := h.rest.out
  exact ⟨⟨⟨o, m, c, blk_below hb hg, hmc, hib.below hb, hne⟩⟩, blk_below hb h.fn, blk_below hb h.res, blk_below hb h.box, h.nb, h.below.trans (hb.mono h.below.size), h.old, h.cells.above ha, h.keys.above ha, h.kids.above ha⟩
theorem RdSt.alloc {w wr : World} {gb nb : Nat} {r : PB} {x0 : Bool} {vc vk vp : Value} {cs : List PCell} {ks : List PB} {is : List Int} {ps : List PV} {qs : List Value} (h : RdSt w wr gb nb r x0 vc vk vp cs ks is ps qs)
    (o : Obj) : RdSt w (wr.alloc o) gb nb r x0 vc vk vp cs ks is ps qs := h.lies (below_alloc (Below.refl _ _) o)
theorem RdSt.drew {w wr : World} {gb nb : Nat} {r : PB} {x0 : Bool} {vc vk vp : Value} {cs : List PCell} {ks : List PB} {is : List Int} {ps : List PV} {qs : List Value} (h : RdSt w wr gb nb r x0 vc vk vp cs ks is ps qs) : RdSt w wr.drew gb nb r x0 vc vk vp cs ks is ps qs := h.lies (Below.refl _ _).drew

/-- Nothing of the first three boxes is turned by what grows a row of the call's own, and the box of x is not. -/
theorem RdSt.grew {w wr w4 : World} {gb nb : Nat} {r : PB} {x0 : Bool} {vc vk vp : Value} {cs : List PCell} {ks : List PB} {is : List Int} {ps : List PV} {qs : List Value} (h : RdSt w wr gb nb r x0 vc vk vp cs ks is ps qs)
    {e : TypeId} {s n : Nat} {v0 : Value} {xs : List Value} (ho : wr.ownsRow (w.heap.size + 3) e s v0 n xs) (hg : wr.grownBy w4 v0.ownBlock) (hne : e ≠ 29) :
    Rest w4 w.heap.size gb r ∧ FuncAt w4 (w.heap.size + 2) w.heap.size ∧ w4.heap[w.heap.size + 1]? = some (.cells #[.bool false, .slice none 0 0, .slice none 0 0, .slice none 0 0] 29 (0, 0)) ∧ w4.heap[nb]? = some (.cells #[.bool x0, vc, vk, vp] 29 (0, 0)) ∧ Below w.heap.size w w4 := by
  have low : ∀ k, k < w.heap.size + 3 → k < wr.heap.size → w4.heap[k]? = wr.heap[k]? := fun k hk hlt => hg.block k hlt (fun e => by have := ho.lt k e.symm; omega)
  obtain ⟨o, m, c, hgx, hmc, hib, hneq⟩ := h.rest.out
  have hbl := h.below.grown hg h.below.size (fun k hk => by have := ho.lt k hk; omega)
  have hib2 : IsBytes w4 (some ⟨gb, o, none⟩) m _ := hib.fr (S := fun k => some k = v0.ownBlock) ⟨hg.os, hg.tape, hg.output, hg.size, fun k hk hs => hg.block k hk hs⟩ (fun a ha _ hs => by
    cases ha
    have := ho.lt gb hs.symm
    have := h.old
    omega)
  exact ⟨⟨⟨o, m, c, (low _ (by omega) (blk_lt hgx)).trans hgx, hmc, hib2, hneq⟩⟩, (low _ (by omega) (blk_lt h.fn)).trans h.fn, (low _ (by omega) (blk_lt h.res)).trans h.res, blk_grown h.box ho hg hne, hbl⟩
theorem rest_far {w : World} {g gb : Nat} {r : PB} (h : Rest w g gb r) {p : Addr} (h1 : g ≠ p.block) (h2 : gb ≠ p.block) (u : Value) : Rest (w.setCell p u) g gb r := by
  obtain ⟨o, m, c, hg, hmc, hib, hne⟩ := h.out
  exact ⟨⟨o, m, c, blk_far hg h1 u, hmc, hib.fr (S := fun k => k = p.block) (Fr.setCell (S := fun k => k = p.block) (Fr.refl _ w) rfl u) (fun a ha _ hs => by cases ha; exact h2 hs), hne⟩⟩

theorem RdSt.addCell {w wr w4 : World} {gb nb : Nat} {r : PB} {x0 : Bool} {vc vk vp : Value} {cs : List PCell} {ks : List PB} {is : List Int} {ps : List PV} {qs : List Value} (h : RdSt w wr gb nb r x0 vc vk vp cs ks is ps qs)
    (hgr : wr.grownBy w4 vc.ownBlock) {A4 : Option Addr} {n c4 : Nat} {key val : PB} {ck cv : Value} {over size : Int} (ho : w4.ownsRow (w.heap.size + 3) 61 4 (.slice A4 (n + 1) c4) (n + 1) (cells4 ps ++ [ck, cv, .int .i64 over, .int .i64 size])) (hn : n = cs.length)
    (hk : OwnB wr (w.heap.size + 3) ck key) (hv : OwnB wr (w.heap.size + 3) cv val) :
    RdSt w (w4.setCell ⟨nb, 1, none⟩ (.slice A4 (n + 1) c4)) gb nb r x0 (.slice A4 (n + 1) c4) vk vp (cs ++ [(key, val, over, size)]) ks is (ps ++ [(ck, cv, over, size)]) qs := by
  subst hn
  have hnb := h.nb
  have hold := h.old
  obtain ⟨g1, g2, g3, g4, g5⟩ := h.grew h.cells.own hgr (by decide)
  have keep (e : TypeId) (he : 61 ≠ e) (he2 : 29 ≠ e) : KeepT e wr (w4.setCell ⟨nb, 1, none⟩ (.slice A4 (cs.length + 1) c4)) := ((KeepT.refl e wr).grown h.cells.own hgr he).setCell (p := ⟨nb, 1, none⟩) g4 he2 _
  refine ⟨rest_far g1 (p := ⟨nb, 1, none⟩) (by simp; omega) (by simp; omega) _, blk_far g2 (p := ⟨nb, 1, none⟩) (by simp; omega) _, blk_far g3 (p := ⟨nb, 1, none⟩) (by simp; omega) _, by have := blk_set g4 1 (.slice A4 (cs.length + 1) c4); simpa using this, h.nb, g5.setCell (p := ⟨nb, 1, none⟩) (by simp; omega) _, h.old, ?_, h.keys.keep (keep _ (by decide) (by decide)) (keep _ (by decide) (by decide)), h.kids.keep (keep _ (by decide) (by decide))⟩
  exact h.cells.snoc (p := (ck, cv, over, size)) (x := (key, val, over, size)) (keep _ (by decide) (by decide)) ((KeepT.refl _ w4).setCell (p := ⟨nb, 1, none⟩) g4 (by decide) _ |>.own ho) ((keep _ (by decide) (by decide)).own hk) ((keep _ (by decide) (by decide)).own hv) rfl
theorem RdSt.addKey {w wr w4 : World} {gb nb : Nat} {r : PB} {x0 : Bool} {vc vk vp : Value} {cs : List PCell} {ks : List PB} {is : List Int} {ps : List PV} {qs : List Value} (h : RdSt w wr gb nb r x0 vc vk vp cs ks is ps qs)
    (hgr : wr.grownBy w4 vk.ownBlock) {A4 : Option Addr} {n c4 : Nat} {key : PB} {ck : Value} (ho : w4.ownsRow (w.heap.size + 3) 31 1 (.slice A4 (n + 1) c4) (n + 1) (qs ++ [ck])) (hn : n = ks.length)
    (hk : OwnB wr (w.heap.size + 3) ck key) :
    RdSt w (w4.setCell ⟨nb, 2, none⟩ (.slice A4 (n + 1) c4)) gb nb r x0 vc (.slice A4 (n + 1) c4) vp cs (ks ++ [key]) is ps (qs ++ [ck]) := by
  subst hn
  have hnb := h.nb
  have hold := h.old
  obtain ⟨g1, g2, g3, g4, g5⟩ := h.grew h.keys.own hgr (by decide)
  have keep (e : TypeId) (he : 31 ≠ e) (he2 : 29 ≠ e) : KeepT e wr (w4.setCell ⟨nb, 2, none⟩ (.slice A4 (ks.length + 1) c4)) := ((KeepT.refl e wr).grown h.keys.own hgr he).setCell (p := ⟨nb, 2, none⟩) g4 he2 _
  refine ⟨rest_far g1 (p := ⟨nb, 2, none⟩) (by simp; omega) (by simp; omega) _, blk_far g2 (p := ⟨nb, 2, none⟩) (by simp; omega) _, blk_far g3 (p := ⟨nb, 2, none⟩) (by simp; omega) _, by have := blk_set g4 2 (.slice A4 (ks.length + 1) c4); simpa using this, h.nb, g5.setCell (p := ⟨nb, 2, none⟩) (by simp; omega) _, h.old, h.cells.keep (keep _ (by decide) (by decide)) (keep _ (by decide) (by decide)), ?_, h.kids.keep (keep _ (by decide) (by decide))⟩
  exact h.keys.snoc (keep _ (by decide) (by decide)) ((KeepT.refl _ w4).setCell (p := ⟨nb, 2, none⟩) g4 (by decide) _ |>.own ho) ((keep _ (by decide) (by decide)).own hk)
theorem RdSt.addKid {w wr w4 : World} {gb nb : Nat} {r : PB} {x0 : Bool} {vc vk vp : Value} {cs : List PCell} {ks : List PB} {is : List Int} {ps : List PV} {qs : List Value} (h : RdSt w wr gb nb r x0 vc vk vp cs ks is ps qs)
    (hgr : wr.grownBy w4 vp.ownBlock) {A4 : Option Addr} {n c4 : Nat} {p : Int} (ho : w4.ownsRow (w.heap.size + 3) 3 1 (.slice A4 (n + 1) c4) (n + 1) (icells is ++ [.int .i64 p])) (hn : n = is.length) :
    RdSt w (w4.setCell ⟨nb, 3, none⟩ (.slice A4 (n + 1) c4)) gb nb r x0 vc vk (.slice A4 (n + 1) c4) cs ks (is ++ [p]) ps qs := by
  subst hn
  have hnb := h.nb
  have hold := h.old
  obtain ⟨g1, g2, g3, g4, g5⟩ := h.grew h.kids hgr (by decide)
  have keep (e : TypeId) (he : 3 ≠ e) (he2 : 29 ≠ e) : KeepT e wr (w4.setCell ⟨nb, 3, none⟩ (.slice A4 (is.length + 1) c4)) := ((KeepT.refl e wr).grown h.kids hgr he).setCell (p := ⟨nb, 3, none⟩) g4 he2 _
  refine ⟨rest_far g1 (p := ⟨nb, 3, none⟩) (by simp; omega) (by simp; omega) _, blk_far g2 (p := ⟨nb, 3, none⟩) (by simp; omega) _, blk_far g3 (p := ⟨nb, 3, none⟩) (by simp; omega) _, by have := blk_set g4 3 (.slice A4 (is.length + 1) c4); simpa using this, h.nb, g5.setCell (p := ⟨nb, 3, none⟩) (by simp; omega) _, h.old, h.cells.keep (keep _ (by decide) (by decide)) (keep _ (by decide) (by decide)), h.keys.keep (keep _ (by decide) (by decide)) (keep _ (by decide) (by decide)), ?_⟩
  have : icells (is ++ [p]) = icells is ++ [.int .i64 p] := by simp [icells]
  unfold OwnKids
  rw [this, List.length_append]
  exact ((KeepT.refl _ w4).setCell (p := ⟨nb, 3, none⟩) g4 (by decide) _).own ho
end Go.Proofs.Ytnohhmopiflboaa.Nod
