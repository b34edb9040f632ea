/- Its: the node as the program has it; all of it is the call's own. -/
import Derived.Test.YtnohhmopiflboaaNode12
set_option linter.unusedVariables false
set_option linter.unusedSimpArgs false
namespace Go.Proofs.Ytnohhmopiflboaa.Nod
open Go.RowKit Go.Proofs.Ytnohhmopiflboaa.Base Go.Proofs.Ytnohhmopiflboaa.Byt Go.Proofs.Ytnohhmopiflboaa.Rd Go.Proofs.Ytnohhmopiflboaa.App

/-- What Its answers. -/
def GivesNode (T : TypeId) (w : World) (x : PNode) (e : Ending) (w' : World) : Prop :=
  ∃ v0 v1 v2 v3, e = .returned (.agg #[v0, v1, v2, v3]) ∧ OwnNode T w' w.heap.size v0 v1 v2 v3 x ∧ Below w.heap.size w w'

/-- Between the rounds: n's box, the answer's box, x's box. -/
structure Mid (tn tx : TypeId) (w wr : World) (g : Nat) (u v : Array Value) : Prop where
  n : wr.heap[w.heap.size]? = some (.cells u tn (0, 0))
  r : wr.heap[w.heap.size + 1]? = some (.cells #[.bool false, .slice none 0 0, .slice none 0 0, .slice none 0 0] tx (0, 0))
  x : wr.heap[g]? = some (.cells v tx (0, 0))
  ne : w.heap.size + 1 < g
  below : Below w.heap.size w wr

theorem fin_alloc {tn tx : TypeId} {w W0 w1 : World} {u : Array Value} {x0 : Bool} {gg : Option Addr} {n3 cap : Nat} {ks : List Int} (hn : W0.heap[w.heap.size]? = some (.cells u tn (0, 0)))
    (hr : W0.heap[w.heap.size + 1]? = some (.cells #[.bool false, .slice none 0 0, .slice none 0 0, .slice none 0 0] tx (0, 0))) (hb0 : Below w.heap.size w W0) (hsz : W0.heap.size = w.heap.size + 2) (hb1 : Below W0.heap.size W0 w1)
    (ho : w1.ownsRow (w.heap.size + 2) 3 1 (.slice gg n3 cap) n3 (icells ks)) (hl : ks.length = n3) :
    Mid tn tx w (w1.alloc (.cells #[.bool x0, .slice none 0 0, .slice none 0 0, .slice gg n3 cap] tx)) w1.heap.size u #[.bool x0, .slice none 0 0, .slice none 0 0, .slice gg n3 cap] ∧ OwnKids (w1.alloc (.cells #[.bool x0, .slice none 0 0, .slice none 0 0, .slice gg n3 cap] tx)) w.heap.size (.slice gg n3 cap) ks := by
  subst hl
  have hs := hb1.size
  refine ⟨⟨blk_alloc (blk_below hb1 hn) _, blk_alloc (blk_below hb1 hr) _, blk_new _ _, by omega, ?_⟩, own_base (ho.alloc _) (by omega)⟩
  exact (hb0.trans (hb1.mono (by omega))).alloc (by omega) _
theorem fin_set {tn tx : TypeId} (htx : tx ≠ 3) {w W0 w1 : World} {u : Array Value} {x0 : Bool} {gg : Option Addr} {g n3 cap : Nat} {ks : List Int} (hn : W0.heap[w.heap.size]? = some (.cells u tn (0, 0)))
    (hr : W0.heap[w.heap.size + 1]? = some (.cells #[.bool false, .slice none 0 0, .slice none 0 0, .slice none 0 0] tx (0, 0))) (hb0 : Below w.heap.size w W0) (hsz : W0.heap.size = w.heap.size + 2) (hb1 : Below W0.heap.size W0 w1)
    (ho : w1.ownsRow (w.heap.size + 2) 3 1 (.slice gg n3 cap) n3 (icells ks)) (hl : ks.length = n3) (hg : w.heap.size + 1 < g) (hx : w1.heap[g]? = some (.cells #[.bool false, .slice none 0 0, .slice none 0 0, .slice none 0 0] tx (0, 0))) :
    Mid tn tx w ((((w1.setCell ⟨g, 0, none⟩ (.bool x0)).setCell ⟨g, 1, none⟩ (.slice none 0 0)).setCell ⟨g, 2, none⟩ (.slice none 0 0)).setCell ⟨g, 3, none⟩ (.slice gg n3 cap)) g u #[.bool x0, .slice none 0 0, .slice none 0 0, .slice gg n3 cap] ∧
      OwnKids ((((w1.setCell ⟨g, 0, none⟩ (.bool x0)).setCell ⟨g, 1, none⟩ (.slice none 0 0)).setCell ⟨g, 2, none⟩ (.slice none 0 0)).setCell ⟨g, 3, none⟩ (.slice gg n3 cap)) w.heap.size (.slice gg n3 cap) ks := by
  subst hl
  have hs := hb1.size
  have k1 := blk_set hx 0 (.bool x0)
  have k2 := blk_set k1 1 (.slice none 0 0)
  have k3 := blk_set k2 2 (.slice none 0 0)
  have k4 := blk_set k3 3 (.slice gg ks.length cap)
  have hb2 := below_set (below_set (below_set (below_set hb1 (p := ⟨g, 0, none⟩) (by simp; omega) (.bool x0)) (p := ⟨g, 1, none⟩) (by simp; omega) (.slice none 0 0)) (p := ⟨g, 2, none⟩) (by simp; omega) (.slice none 0 0)) (p := ⟨g, 3, none⟩) (by simp; omega) (.slice gg ks.length cap)
  have hk : KeepT 3 w1 _ := ((((KeepT.refl _ w1).setCell (p := ⟨g, 0, none⟩) hx htx (.bool x0)).setCell (p := ⟨g, 1, none⟩) k1 htx (.slice none 0 0)).setCell (p := ⟨g, 2, none⟩) k2 htx (.slice none 0 0)).setCell (p := ⟨g, 3, none⟩) k3 htx (.slice gg ks.length cap)
  refine ⟨⟨blk_below hb2 hn, blk_below hb2 hr, by simpa using k4, hg, hb0.trans (hb2.mono (by omega))⟩, own_base (hk.own ho) (by omega)⟩


theorem Mid.fr {tn tx : TypeId} {w a b : World} {g : Nat} {u v : Array Value} (h : Mid tn tx w a g u v) (hf : Fr (fun _ => False) a b) : Mid tn tx w b g u v :=
  ⟨blk_fr h.n hf (fun h => h), blk_fr h.r hf (fun h => h), blk_fr h.x hf (fun h => h), h.ne, h.below.trans ((hf.below (fun _ h => h.elim)).mono h.below.size)⟩
theorem Mid.alloc {tn tx : TypeId} {w a : World} {g : Nat} {u v : Array Value} (h : Mid tn tx w a g u v) (o : Obj) : Mid tn tx w (a.alloc o) g u v :=
  ⟨blk_alloc h.n o, blk_alloc h.r o, blk_alloc h.x o, h.ne, h.below.alloc h.below.size o⟩
theorem Mid.drew {tn tx : TypeId} {w a : World} {g : Nat} {u v : Array Value} (h : Mid tn tx w a g u v) : Mid tn tx w a.drew g u v := ⟨h.n, h.r, h.x, h.ne, h.below.drew⟩
theorem Mid.grown {tn tx e : TypeId} {w a b : World} {g B s n : Nat} {v0 : Value} {xs : List Value} {u v : Array Value} (h : Mid tn tx w a g u v) (ho : a.ownsRow B e s v0 n xs) (hg : a.grownBy b v0.ownBlock) (hB : w.heap.size ≤ B) (h1 : e ≠ tn) (h2 : e ≠ tx) : Mid tn tx w b g u v :=
  ⟨blk_grown h.n ho hg h1, blk_grown h.r ho hg h2, blk_grown h.x ho hg h2, h.ne, h.below.grown hg h.below.size (fun k hk => by have := ho.lt k hk; omega)⟩
theorem Mid.set {tn tx : TypeId} {w a : World} {g : Nat} {u v : Array Value} (h : Mid tn tx w a g u v) (j : Nat) (y : Value) : Mid tn tx w (a.setCell ⟨g, j, none⟩ y) g u (v.setIfInBounds j y) := by
  have hne := h.ne
  exact ⟨blk_far h.n (p := ⟨g, j, none⟩) (by simp; omega) y, blk_far h.r (p := ⟨g, j, none⟩) (by simp; omega) y, blk_set h.x j y, h.ne, h.below.setCell (p := ⟨g, j, none⟩) (by simp; omega) y⟩

/-- A round that adds a cell. -/
theorem cell_round {tn tx T : TypeId} (t1 : tx ≠ 3) (t2 : tx ≠ 5) (t3 : tx ≠ T) (t4 : T ≠ 3) (t5 : T ≠ 5) (t6 : T ≠ tn) {w W1 w2 w3 w4 : World} {g n : Nat} {u : Array Value} {x0 : Bool} {vc v2 v3 vk vv : Value} {xs : List PCell} {ps : List PV} {ks : List Int}
    (hm : Mid tn tx w W1 g u #[.bool x0, vc, v2, v3]) (hc : OwnCells T W1 w.heap.size vc xs ps) (hk : OwnKids W1 w.heap.size v3 ks) (hf2 : Fr (fun _ => False) W1.drew w2) {key val : PB} (hok : OwnB w2 W1.drew.heap.size vk key)
    (hf3 : Fr (fun _ => False) w2 w3) (hov : OwnB w3 w2.heap.size vv val) {O : Obj} (hgr : (w3.alloc O).grownBy w4 vc.ownBlock) {A4 : Option Addr} {c4 : Nat} {over size : Int}
    (ho : w4.ownsRow w.heap.size T 4 (.slice A4 (n + 1) c4) (n + 1) (cells4 ps ++ [vk, vv, .int .i64 over, .int .i64 size])) (hn : n = xs.length) :
    Mid tn tx w (w4.setCell ⟨g, 1, none⟩ (.slice A4 (n + 1) c4)) g u #[.bool x0, .slice A4 (n + 1) c4, v2, v3] ∧
      OwnCells T (w4.setCell ⟨g, 1, none⟩ (.slice A4 (n + 1) c4)) w.heap.size (.slice A4 (n + 1) c4) (xs ++ [(key, val, over, size)]) (ps ++ [(vk, vv, over, size)]) ∧ OwnKids (w4.setCell ⟨g, 1, none⟩ (.slice A4 (n + 1) c4)) w.heap.size v3 ks := by
  subst hn
  have hm3 := ((hm.drew.fr hf2).fr hf3).alloc O
  have keep (e : TypeId) : KeepT e W1 (w3.alloc O) := (((KeepT.refl e W1).drew.fr hf2).fr hf3).alloc O
  have hown3 : (w3.alloc O).ownsRow w.heap.size T 4 vc xs.length (cells4 ps) := (keep T).own hc.own
  have hm4 := hm3.grown hown3 hgr (Nat.le_refl _) t6 (Ne.symm t3)
  have keep4 (e : TypeId) (hne : T ≠ e) (hne2 : tx ≠ e) : KeepT e (w3.alloc O) (w4.setCell ⟨g, 1, none⟩ (.slice A4 (xs.length + 1) c4)) := ((KeepT.refl e _).grown hown3 hgr hne).setCell (p := ⟨g, 1, none⟩) hm4.x hne2 _
  have s1 := hm.below.size
  have s2 := hf2.size
  have s3 : W1.drew.heap.size = W1.heap.size := rfl
  refine ⟨hm4.set 1 _, ?_, (keep4 _ t4 t1).own ((keep _).own hk)⟩
  refine hc.snoc (p := (vk, vv, over, size)) (x := (key, val, over, size)) ((keep _).trans (keep4 _ t5 t2)) ((KeepT.refl _ w4).setCell (p := ⟨g, 1, none⟩) hm4.x t3 _ |>.own ho) ?_ ?_ rfl
  · exact own_base ((keep4 _ t5 t2).own ((((KeepT.refl _ w2).fr hf3).alloc O).own hok)) (by omega)
  · exact own_base ((keep4 _ t5 t2).own (hov.alloc O)) (by omega)
/-- A round that adds a key. -/
theorem key_round {tn tx T : TypeId} (t1 : tx ≠ 3) (t2 : tx ≠ 5) (t3 : tx ≠ 31) (t4 : tx ≠ T) (t5 : 31 ≠ T) (t6 : 31 ≠ tn) {w W1 w2 w4 : World} {g n : Nat} {u : Array Value} {x0 : Bool} {vc v2 v3 vk : Value} {xs : List PCell} {ps : List PV} {ys : List PB} {qs : List Value} {ks : List Int}
    (hm : Mid tn tx w W1 g u #[.bool x0, vc, v2, v3]) (hc : OwnCells T W1 w.heap.size vc xs ps) (hy : OwnKeys W1 w.heap.size v2 ys qs) (hk : OwnKids W1 w.heap.size v3 ks) (hf2 : Fr (fun _ => False) W1.drew w2) {key : PB} (hok : OwnB w2 W1.drew.heap.size vk key)
    {O : Obj} (hgr : (w2.alloc O).grownBy w4 v2.ownBlock) {A4 : Option Addr} {c4 : Nat}
    (ho : w4.ownsRow w.heap.size 31 1 (.slice A4 (n + 1) c4) (n + 1) (qs ++ [vk])) (hn : n = ys.length) :
    Mid tn tx w (w4.setCell ⟨g, 2, none⟩ (.slice A4 (n + 1) c4)) g u #[.bool x0, vc, .slice A4 (n + 1) c4, v3] ∧ OwnCells T (w4.setCell ⟨g, 2, none⟩ (.slice A4 (n + 1) c4)) w.heap.size vc xs ps ∧
      OwnKeys (w4.setCell ⟨g, 2, none⟩ (.slice A4 (n + 1) c4)) w.heap.size (.slice A4 (n + 1) c4) (ys ++ [key]) (qs ++ [vk]) ∧ OwnKids (w4.setCell ⟨g, 2, none⟩ (.slice A4 (n + 1) c4)) w.heap.size v3 ks := by
  subst hn
  have hm3 := (hm.drew.fr hf2).alloc O
  have keep (e : TypeId) : KeepT e W1 (w2.alloc O) := ((KeepT.refl e W1).drew.fr hf2).alloc O
  have hown3 : (w2.alloc O).ownsRow w.heap.size 31 1 v2 ys.length qs := (keep _).own hy.own
  have hm4 := hm3.grown hown3 hgr (Nat.le_refl _) t6 (Ne.symm t3)
  have keep4 (e : TypeId) (hne : 31 ≠ e) (hne2 : tx ≠ e) : KeepT e (w2.alloc O) (w4.setCell ⟨g, 2, none⟩ (.slice A4 (ys.length + 1) c4)) := ((KeepT.refl e _).grown hown3 hgr hne).setCell (p := ⟨g, 2, none⟩) hm4.x hne2 _
  have s1 := hm.below.size
  have s2 := hf2.size
  have s3 : W1.drew.heap.size = W1.heap.size := rfl
  refine ⟨hm4.set 2 _, hc.keep ((keep _).trans (keep4 _ t5 t4)) ((keep _).trans (keep4 _ (by decide) t2)), ?_, (keep4 _ (by decide) t1).own ((keep _).own hk)⟩
  refine hy.snoc ((keep _).trans (keep4 _ (by decide) t2)) ((KeepT.refl _ w4).setCell (p := ⟨g, 2, none⟩) hm4.x t3 _ |>.own ho) ?_
  exact own_base ((keep4 _ (by decide) t2).own (hok.alloc O)) (by omega)
/-- The answer laid into its box. -/
theorem its_fin {tn tx T : TypeId} (t1 : tx ≠ 3) (t2 : tx ≠ 5) (t3 : tx ≠ 31) (t4 : tx ≠ T) {w wr : World} {g : Nat} {u : Array Value} {x0 : Bool} {vc v2 v3 : Value} {x : PNode} {ps : List PV} {qs : List Value} (hx : x.1 = x0)
    (hm : Mid tn tx w wr g u #[.bool x0, vc, v2, v3]) (hc : OwnCells T wr w.heap.size vc x.2.1 ps) (hy : OwnKeys wr w.heap.size v2 x.2.2.1 qs) (hk : OwnKids wr w.heap.size v3 x.2.2.2) :
    GivesNode T w x (.returned (.agg #[.bool x0, vc, v2, v3])) ((((wr.setCell ⟨w.heap.size + 1, 0, none⟩ (.bool x0)).setCell ⟨w.heap.size + 1, 1, none⟩ vc).setCell ⟨w.heap.size + 1, 2, none⟩ v2).setCell ⟨w.heap.size + 1, 3, none⟩ v3) ∧
      ((((wr.setCell ⟨w.heap.size + 1, 0, none⟩ (.bool x0)).setCell ⟨w.heap.size + 1, 1, none⟩ vc).setCell ⟨w.heap.size + 1, 2, none⟩ v2).setCell ⟨w.heap.size + 1, 3, none⟩ v3).heap[w.heap.size + 1]? = some (.cells #[.bool x0, vc, v2, v3] tx (0, 0)) := by
  have k1 := blk_set hm.r 0 (.bool x0)
  have k2 := blk_set k1 1 vc
  have k3 := blk_set k2 2 v2
  have k4 := blk_set k3 3 v3
  have keep (e : TypeId) (hne : tx ≠ e) : KeepT e wr _ := ((((KeepT.refl e wr).setCell (p := ⟨w.heap.size + 1, 0, none⟩) hm.r hne (.bool x0)).setCell (p := ⟨w.heap.size + 1, 1, none⟩) k1 hne vc).setCell (p := ⟨w.heap.size + 1, 2, none⟩) k2 hne v2).setCell (p := ⟨w.heap.size + 1, 3, none⟩) k3 hne v3
  refine ⟨⟨_, _, _, _, rfl, ⟨by rw [hx], ⟨ps, hc.keep (keep _ t4) (keep _ t2)⟩, ⟨qs, hy.keep (keep _ t3) (keep _ t2)⟩, hk.keep (keep _ t1)⟩, ?_⟩, by simpa using k4⟩
  exact (((hm.below.setCell (p := ⟨w.heap.size + 1, 0, none⟩) (by simp) _).setCell (p := ⟨w.heap.size + 1, 1, none⟩) (by simp) _).setCell (p := ⟨w.heap.size + 1, 2, none⟩) (by simp) _).setCell (p := ⟨w.heap.size + 1, 3, none⟩) (by simp) _
end Go.Proofs.Ytnohhmopiflboaa.Nod
