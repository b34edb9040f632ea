/- The state of the reference's reading. -/
import Derived.Test.YtnohhmopiflboaaNode44
set_option linter.unusedVariables false
set_option linter.unusedSimpArgs false
namespace Go.Proofs.Ytnohhmopiflboaa.Nod
open Go.RowKit Go.Proofs.Ytnohhmopiflboaa.Base Go.Proofs.Ytnohhmopiflboaa.Byt Go.Proofs.Ytnohhmopiflboaa.Rd Go.Proofs.Ytnohhmopiflboaa.App

theorem Rdr.far {w : World} {B g : Nat} {s : SSt} (h : Rdr w B g s) {p : Addr} (h1 : g < p.block) (u : Value) : Rdr (w.setCell p u) B g s := by
  obtain ⟨A, m, c, a1, a2, a3, a4, a5, a6⟩ := h.out
  exact ⟨⟨A, m, c, blk_far a1 (by omega) u, a2, a3, a4.fr (S := fun k => k = p.block) (Fr.setCell (S := fun k => k = p.block) (Fr.refl _ w) rfl u) (fun a ha hm hs => by have := a5 a ha hm; omega), a5, a6⟩⟩
theorem Rdr.grown {w w' : World} {B g : Nat} {s : SSt} {row : Option Nat} (h : Rdr w B g s) (hg : w.grownBy w' row) (hr : ∀ k, row = some k → g < k) : Rdr w' B g s := by
  obtain ⟨A, m, c, a1, a2, a3, a4, a5, a6⟩ := h.out
  refine ⟨⟨A, m, c, (hg.block g (blk_lt a1) (fun e => by have := hr g e.symm; omega)).trans a1, a2, a3, a4.fr (S := fun k => row = some k) (Fr.of_grown hg (fun k hk => hk)) (fun a ha hm hk => by have := a5 a ha hm; have := hr _ hk; omega), a5, a6⟩⟩
/-- What is appended to a new row is seen by nobody. -/
theorem fr_new {W w2 w' : World} {g : Nat} {o : Obj} (h : Fr (fun k => k = g) (W.alloc o) w2) (hg : w2.grownBy w' (some W.heap.size)) : Fr (fun k => k = g) W w' := by
  have h1 : Fr (fun k => k = g) W w2 := (Fr.of_below (S := fun _ => False) (below_alloc (Below.refl _ W) o)).trans h (fun _ h _ => h.elim) (fun _ h _ => h)
  exact h1.trans (Fr.of_grown (S := fun k => k = W.heap.size) hg (fun k hk => by first | exact (Option.some.inj hk).symm | exact Option.some.inj hk)) (fun _ h _ => h) (fun k hk hlt => by subst hk; exact absurd hlt (Nat.lt_irrefl _))

structure SdSt (w wr : World) (B g nb : Nat) (s : SSt) (x0 : Bool) (vc vk vp : Value) (cs : List PCell) (ks : List PB) (is : List Int) (ps : List PV) (qs : List Value) : Prop where
  rdr : Rdr wr B g s
  old : g < w.heap.size
  res : wr.heap[w.heap.size]? = some (.cells #[.bool false, .slice none 0 0, .slice none 0 0, .slice none 0 0] 26 (0, 0))
  box : wr.heap[nb]? = some (.cells #[.bool x0, vc, vk, vp] 26 (0, 0))
  nb : w.heap.size < nb
  fr : Fr (fun k => k = g) w wr
  cells : OwnCells 78 wr (w.heap.size + 1) vc cs ps
  keys : OwnKeys wr (w.heap.size + 1) vk ks qs
  kids : OwnKids wr (w.heap.size + 1) vp is

section
variable {w wr w2 w4 : World} {B g nb : Nat} {s s2 : SSt} {x0 : Bool} {vc vk vp : Value} {cs : List PCell} {ks : List PB} {is : List Int} {ps : List PV} {qs : List Value}
theorem SdSt.took (h : SdSt w wr B g nb s x0 vc vk vp cs ks is ps qs) (hf : Fr (fun k => k = g) wr w2) (hr : Rdr w2 B g s2) : SdSt w w2 B g nb s2 x0 vc vk vp cs ks is ps qs := by
  have hnb := h.nb
  have hold := h.old
  have ha : Above (w.heap.size + 1) wr w2 := above_fr hf (by omega)
  exact ⟨hr, h.old, blk_fr h.res hf (by omega), blk_fr h.box hf (by omega), h.nb, h.fr.trans hf (fun _ h _ => h) (fun _ h _ => h), h.cells.above ha, h.keys.above ha, h.kids.above ha⟩
theorem SdSt.lies (h : SdSt w wr B g nb s x0 vc vk vp cs ks is ps qs) (hb : Below wr.heap.size wr w2) : SdSt w w2 B g nb s x0 vc vk vp cs ks is ps qs := by
  have ha : Above (w.heap.size + 1) wr w2 := above_below hb
  exact ⟨h.rdr.below hb, h.old, blk_below hb h.res, blk_below hb h.box, h.nb, h.fr.trans (Fr.of_below (S := fun _ => False) hb) (fun _ h _ => h) (fun _ h _ => h.elim), h.cells.above ha, h.keys.above ha, h.kids.above ha⟩
theorem SdSt.alloc (h : SdSt w wr B g nb s x0 vc vk vp cs ks is ps qs) (o : Obj) : SdSt w (wr.alloc o) B g nb s x0 vc vk vp cs ks is ps qs := h.lies (below_alloc (Below.refl _ _) o)
theorem SdSt.drew (h : SdSt w wr B g nb s x0 vc vk vp cs ks is ps qs) : SdSt w wr.drew B g nb s x0 vc vk vp cs ks is ps qs := h.lies (Below.refl _ _).drew
theorem SdSt.grew (h : SdSt w wr B g nb s x0 vc vk vp cs ks is ps qs) {e : TypeId} {z n : Nat} {v0 : Value} {xs : List Value} (ho : wr.ownsRow (w.heap.size + 1) e z v0 n xs) (hg : wr.grownBy w4 v0.ownBlock) (hne : e ≠ 26) :
    Rdr w4 B g s ∧ w4.heap[w.heap.size]? = some (.cells #[.bool false, .slice none 0 0, .slice none 0 0, .slice none 0 0] 26 (0, 0)) ∧ w4.heap[nb]? = some (.cells #[.bool x0, vc, vk, vp] 26 (0, 0)) ∧ Fr (fun k => k = g) w w4 := by
  have hold := h.old
  refine ⟨h.rdr.grown hg (fun k hk => by have := ho.lt k hk; omega), (hg.block _ (blk_lt h.res) (fun e => by have := ho.lt _ e.symm; omega)).trans h.res, blk_grown h.box ho hg hne, ?_⟩
  exact h.fr.trans (Fr.of_grown (S := fun k => w.heap.size ≤ k) hg (fun k hk => by have := ho.lt k hk; omega)) (fun _ h _ => h) (fun k hk hlt => absurd hlt (by omega))
theorem SdSt.start {W2 : World} (hold : g < w.heap.size) (hres : W2.heap[w.heap.size]? = some (.cells #[.bool false, .slice none 0 0, .slice none 0 0, .slice none 0 0] 26 (0, 0))) (hf : Fr (fun k => k = g) w W2) (hr : Rdr W2 B g s) :
    SdSt w (W2.alloc (.cells #[.bool x0, .slice none 0 0, .slice none 0 0, .slice none 0 0] 26)) B g W2.heap.size s x0 (.slice none 0 0) (.slice none 0 0) (.slice none 0 0) [] [] [] [] [] :=
  ⟨hr.below (below_alloc (Below.refl _ _) _), hold, blk_alloc hres _, blk_new _ _, blk_lt hres, hf.alloc _, OwnCells.nil _ _ _, OwnKeys.nil _ _, OwnKids.nil _ _⟩
theorem SdSt.setC {cb : Nat} (h : SdSt w wr B g nb s x0 vc vk vp cs ks is ps qs) (hrow : ∀ k, vc.ownBlock = some k → k < cb) {cur : Array Value} (hc : wr.heap[cb]? = some (.cells cur 78 (0, 0))) (hnb : nb < cb) (j : Nat) (u : Value) :
    SdSt w (wr.setCell ⟨cb, j, none⟩ u) B g nb s x0 vc vk vp cs ks is ps qs := by
  have h1 := h.nb
  have h2 := h.old
  have keep (e : TypeId) (he : 78 ≠ e) : KeepT e wr (wr.setCell ⟨cb, j, none⟩ u) := (KeepT.refl e wr).setCell (p := ⟨cb, j, none⟩) hc he u
  refine ⟨h.rdr.far (p := ⟨cb, j, none⟩) (by simp; omega) u, h.old, blk_far h.res (p := ⟨cb, j, none⟩) (by simp; omega) u, blk_far h.box (p := ⟨cb, j, none⟩) (by simp; omega) u, h.nb, h.fr.setNew (p := ⟨cb, j, none⟩) (by simp; omega) u, ?_, h.keys.keep (keep _ (by decide)) (keep _ (by decide)), h.kids.keep (keep _ (by decide))⟩
  refine ⟨?_, h.cells.len, fun j a b => ⟨(keep _ (by decide)).own (h.cells.cell j a b).1, (keep _ (by decide)).own (h.cells.cell j a b).2.1, (h.cells.cell j a b).2.2⟩⟩
  refine h.cells.own.kept (row := some cb) ⟨rfl, rfl, rfl, by simp [World.setCell], fun k hk hne => Below.heap_setCell wr ⟨cb, j, none⟩ u k (fun e => hne (by rw [e]))⟩ ?_
  cases hv : vc.ownBlock with
  | none => exact .inl rfl
  | some k => exact .inr (fun e => by injection e with e; have := hrow k hv; omega)
theorem SdSt.addCell (h : SdSt w wr B g nb s x0 vc vk vp cs ks is ps qs)
    (hgr : wr.grownBy w4 vc.ownBlock) {A4 : Option Addr} {n c4 : Nat} {key val : PB} {ck cv : Value} {over size : Int} (ho : w4.ownsRow (w.heap.size + 1) 78 4 (.slice A4 (n + 1) c4) (n + 1) (cells4 ps ++ [ck, cv, .int .i64 over, .int .i64 size])) (hn : n = cs.length)
    (hk : OwnB wr (w.heap.size + 1) ck key) (hv : OwnB wr (w.heap.size + 1) cv val) :
    SdSt w (w4.setCell ⟨nb, 1, none⟩ (.slice A4 (n + 1) c4)) B g nb s x0 (.slice A4 (n + 1) c4) vk vp (cs ++ [(key, val, over, size)]) ks is (ps ++ [(ck, cv, over, size)]) qs := by
  subst hn
  have hnb := h.nb
  have hold := h.old
  obtain ⟨g1, g2, g3, g4⟩ := h.grew h.cells.own hgr (by decide)
  have keep (e : TypeId) (he : 78 ≠ e) (he2 : 26 ≠ e) : KeepT e wr (w4.setCell ⟨nb, 1, none⟩ (.slice A4 (cs.length + 1) c4)) := ((KeepT.refl e wr).grown h.cells.own hgr he).setCell (p := ⟨nb, 1, none⟩) g3 he2 _
  refine ⟨g1.far (p := ⟨nb, 1, none⟩) (by simp; omega) _, h.old, blk_far g2 (p := ⟨nb, 1, none⟩) (by simp; omega) _, by have := blk_set g3 1 (.slice A4 (cs.length + 1) c4); simpa using this, h.nb, g4.setNew (p := ⟨nb, 1, none⟩) (by simp; omega) _, ?_, h.keys.keep (keep _ (by decide) (by decide)) (keep _ (by decide) (by decide)), h.kids.keep (keep _ (by decide) (by decide))⟩
  exact h.cells.snoc (p := (ck, cv, over, size)) (x := (key, val, over, size)) (keep _ (by decide) (by decide)) ((KeepT.refl _ w4).setCell (p := ⟨nb, 1, none⟩) g3 (by decide) _ |>.own ho) ((keep _ (by decide) (by decide)).own hk) ((keep _ (by decide) (by decide)).own hv) rfl
theorem SdSt.addKey (h : SdSt w wr B g nb s x0 vc vk vp cs ks is ps qs)
    (hgr : wr.grownBy w4 vk.ownBlock) {A4 : Option Addr} {n c4 : Nat} {key : PB} {ck : Value} (ho : w4.ownsRow (w.heap.size + 1) 31 1 (.slice A4 (n + 1) c4) (n + 1) (qs ++ [ck])) (hn : n = ks.length)
    (hk : OwnB wr (w.heap.size + 1) ck key) :
    SdSt w (w4.setCell ⟨nb, 2, none⟩ (.slice A4 (n + 1) c4)) B g nb s x0 vc (.slice A4 (n + 1) c4) vp cs (ks ++ [key]) is ps (qs ++ [ck]) := by
  subst hn
  have hnb := h.nb
  have hold := h.old
  obtain ⟨g1, g2, g3, g4⟩ := h.grew h.keys.own hgr (by decide)
  have keep (e : TypeId) (he : 31 ≠ e) (he2 : 26 ≠ e) : KeepT e wr (w4.setCell ⟨nb, 2, none⟩ (.slice A4 (ks.length + 1) c4)) := ((KeepT.refl e wr).grown h.keys.own hgr he).setCell (p := ⟨nb, 2, none⟩) g3 he2 _
  refine ⟨g1.far (p := ⟨nb, 2, none⟩) (by simp; omega) _, h.old, blk_far g2 (p := ⟨nb, 2, none⟩) (by simp; omega) _, by have := blk_set g3 2 (.slice A4 (ks.length + 1) c4); simpa using this, h.nb, g4.setNew (p := ⟨nb, 2, none⟩) (by simp; omega) _, h.cells.keep (keep _ (by decide) (by decide)) (keep _ (by decide) (by decide)), ?_, h.kids.keep (keep _ (by decide) (by decide))⟩
  exact h.keys.snoc (keep _ (by decide) (by decide)) ((KeepT.refl _ w4).setCell (p := ⟨nb, 2, none⟩) g3 (by decide) _ |>.own ho) ((keep _ (by decide) (by decide)).own hk)
theorem SdSt.addKid (h : SdSt w wr B g nb s x0 vc vk vp cs ks is ps qs)
    (hgr : wr.grownBy w4 vp.ownBlock) {A4 : Option Addr} {n c4 : Nat} {p : Int} (ho : w4.ownsRow (w.heap.size + 1) 3 1 (.slice A4 (n + 1) c4) (n + 1) (icells is ++ [.int .i64 p])) (hn : n = is.length) :
    SdSt w (w4.setCell ⟨nb, 3, none⟩ (.slice A4 (n + 1) c4)) B g nb s x0 vc vk (.slice A4 (n + 1) c4) cs ks (is ++ [p]) ps qs := by
  subst hn
  have hnb := h.nb
  have hold := h.old
  obtain ⟨g1, g2, g3, g4⟩ := h.grew h.kids hgr (by decide)
  have keep (e : TypeId) (he : 3 ≠ e) (he2 : 26 ≠ e) : KeepT e wr (w4.setCell ⟨nb, 3, none⟩ (.slice A4 (is.length + 1) c4)) := ((KeepT.refl e wr).grown h.kids hgr he).setCell (p := ⟨nb, 3, none⟩) g3 he2 _
  refine ⟨g1.far (p := ⟨nb, 3, none⟩) (by simp; omega) _, h.old, blk_far g2 (p := ⟨nb, 3, none⟩) (by simp; omega) _, by have := blk_set g3 3 (.slice A4 (is.length + 1) c4); simpa using this, h.nb, g4.setNew (p := ⟨nb, 3, none⟩) (by simp; omega) _, h.cells.keep (keep _ (by decide) (by decide)) (keep _ (by decide) (by decide)), h.keys.keep (keep _ (by decide) (by decide)) (keep _ (by decide) (by decide)), ?_⟩
  have : icells (is ++ [p]) = icells is ++ [.int .i64 p] := by simp [icells]
  unfold OwnKids
  rw [this, List.length_append]
  exact ((KeepT.refl _ w4).setCell (p := ⟨nb, 3, none⟩) g3 (by decide) _).own ho

def SNoded (w : World) (B g : Nat) (s : SSt) (e : Ending) (w' : World) : Prop := Fr (fun k => k = g) w w' ∧ Rdr w' B g (sNode s).2 ∧ ∃ v0 v1 v2 v3, e = .returned (.agg #[v0, v1, v2, v3]) ∧ OwnNode 78 w' w.heap.size v0 v1 v2 v3 (sNode s).1
theorem sd_fin {t : SSt} (h : SdSt w wr B g nb s x0 vc vk vp cs ks is ps qs) (he : sNode t = ((x0, cs, ks, is), s)) :
    SNoded w B g t (.returned (.agg #[.bool x0, vc, vk, vp])) ((((wr.setCell ⟨w.heap.size, 0, none⟩ (.bool x0)).setCell ⟨w.heap.size, 1, none⟩ vc).setCell ⟨w.heap.size, 2, none⟩ vk).setCell ⟨w.heap.size, 3, none⟩ vp) ∧
      ((((wr.setCell ⟨w.heap.size, 0, none⟩ (.bool x0)).setCell ⟨w.heap.size, 1, none⟩ vc).setCell ⟨w.heap.size, 2, none⟩ vk).setCell ⟨w.heap.size, 3, none⟩ vp).heap[w.heap.size]? = some (.cells #[.bool x0, vc, vk, vp] 26 (0, 0)) := by
  have k1 := blk_set h.res 0 (.bool x0)
  have k2 := blk_set k1 1 vc
  have k3 := blk_set k2 2 vk
  have k4 := blk_set k3 3 vp
  have hold := h.old
  have keep (e : TypeId) (hne : 26 ≠ e) : KeepT e wr _ := ((((KeepT.refl e wr).setCell (p := ⟨w.heap.size, 0, none⟩) h.res hne (.bool x0)).setCell (p := ⟨w.heap.size, 1, none⟩) k1 hne vc).setCell (p := ⟨w.heap.size, 2, none⟩) k2 hne vk).setCell (p := ⟨w.heap.size, 3, none⟩) k3 hne vp
  refine ⟨⟨?_, ?_, ?_⟩, by simpa using k4⟩
  · exact (((h.fr.setNew (p := ⟨w.heap.size, 0, none⟩) (Nat.le_refl _) _).setNew (p := ⟨w.heap.size, 1, none⟩) (Nat.le_refl _) _).setNew (p := ⟨w.heap.size, 2, none⟩) (Nat.le_refl _) _).setNew (p := ⟨w.heap.size, 3, none⟩) (Nat.le_refl _) _
  · rw [he]
    exact (((h.rdr.far (p := ⟨w.heap.size, 0, none⟩) hold _).far (p := ⟨w.heap.size, 1, none⟩) hold _).far (p := ⟨w.heap.size, 2, none⟩) hold _).far (p := ⟨w.heap.size, 3, none⟩) hold _
  · rw [he]
    have hc := h.cells.keep (keep _ (by decide)) (keep _ (by decide))
    have hk := h.keys.keep (keep _ (by decide)) (keep _ (by decide))
    have hi := h.kids.keep (keep _ (by decide))
    exact ⟨_, _, _, _, rfl, ⟨rfl, ⟨ps, own_base hc.own (by omega), hc.len, fun j a b => ⟨own_base (hc.cell j a b).1 (by omega), own_base (hc.cell j a b).2.1 (by omega), (hc.cell j a b).2.2⟩⟩, ⟨qs, own_base hk.own (by omega), fun j a b => own_base (hk.key j a b) (by omega)⟩, own_base hi (by omega)⟩⟩
end
end Go.Proofs.Ytnohhmopiflboaa.Nod
