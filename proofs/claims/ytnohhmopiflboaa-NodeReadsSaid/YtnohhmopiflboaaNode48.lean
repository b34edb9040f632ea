/- The reference's Decode. -/
import Derived.Test.YtnohhmopiflboaaNode47
import Derived.Test.YtnohhmopiflboaaNode35
set_option linter.unusedVariables false
set_option linter.unusedSimpArgs false
namespace Go.Proofs.Ytnohhmopiflboaa.Nod
open Go.RowKit Go.Proofs.Ytnohhmopiflboaa.Base Go.Proofs.Ytnohhmopiflboaa.Byt Go.Proofs.Ytnohhmopiflboaa.Rd Go.Proofs.Ytnohhmopiflboaa.App

def RDecoded (w : World) (xs : PB) (e : Ending) (w' : World) : Prop := Below w.heap.size w w' ∧ match decP xs with
  | none => e = .returned (.tuple #[.agg #[.bool false, .slice none 0 0, .slice none 0 0, .slice none 0 0], .int .i64 10])
  | some x => ∃ v0 v1 v2 v3, e = .returned (.tuple #[.agg #[v0, v1, v2, v3], .int .i64 0]) ∧ OwnNode 78 w' w.heap.size v0 v1 v2 v3 x
theorem bytes_lt {w : World} {A : Option Addr} {m : Nat} {xs : PB} (h : IsBytes w A m xs) : ∀ a, A = some a → 0 < m → a.block < w.heap.size := fun a ha hm => by
  obtain ⟨b, o, h1, h2⟩ := h.2.2 hm
  rw [h1] at ha
  injection ha with ha
  subst ha
  exact World.block_lt_of_cell? w _ (h2 0 hm)
theorem rdr_start {w : World} {A : Option Addr} {m c : Nat} {xs : PB} (h : IsBytes w A m xs) (hmc : m ≤ c) (hz : A = none → c = 0) (o : Obj) :
    Rdr ((w.alloc o).alloc (.cells #[.slice A m c, .bool true] 87)) w.heap.size (w.heap.size + 1) (xs, true) := by
  have h1 := blk_new (w.alloc o) (.cells #[.slice A m c, .bool true] 87)
  rw [show (w.alloc o).heap.size = w.heap.size + 1 by simp] at h1
  exact ⟨⟨A, m, c, h1, hmc, hz, h.below (below_alloc (below_alloc (Below.refl _ _) _) _), bytes_lt h, by omega⟩⟩
theorem own_node_above {T : TypeId} {W W' : World} {B B' : Nat} {v0 v1 v2 v3 : Value} {x : PNode} (h : OwnNode T W B v0 v1 v2 v3 x) (ha : Above B W W') (hB : B' ≤ B) : OwnNode T W' B' v0 v1 v2 v3 x := by
  obtain ⟨ps, hc⟩ := (h.above ha).cells
  obtain ⟨qs, hk⟩ := (h.above ha).keys
  exact ⟨h.leaf, ⟨ps, own_base hc.own hB, hc.len, fun j a b => ⟨own_base (hc.cell j a b).1 hB, own_base (hc.cell j a b).2.1 hB, (hc.cell j a b).2.2⟩⟩, ⟨qs, own_base hk.own hB, fun j a b => own_base (hk.key j a b) hB⟩, own_base (h.above ha).kids hB⟩

set_option maxRecDepth 100000 in
set_option maxHeartbeats 3200000 in
theorem rdecode_calls (A : Option Addr) (m c : Nat) (xs : PB) (w : World) (h : IsBytes w A m xs) (hmc : m ≤ c) (hz : A = none → c = 0) :
    Calls Try.prog 26 #[.slice A m c] w (RDecoded w xs) := by
  have HR0 := Asd.mk (rdr_start h hmc hz (.cells #[.bool false, .slice none 0 0, .slice none 0 0, .slice none 0 0] 26))
  have HB0 : Asd (Below w.heap.size w ((w.alloc (.cells #[.bool false, .slice none 0 0, .slice none 0 0, .slice none 0 0] 26)).alloc (.cells #[.slice A m c, .bool true] 87))) := Asd.mk (below_alloc (below_alloc (Below.refl _ _) _) _)
  have HN0 : Asd (((w.alloc (.cells #[.bool false, .slice none 0 0, .slice none 0 0, .slice none 0 0] 26)).alloc (.cells #[.slice A m c, .bool true] 87)).heap[w.heap.size]? = some (.cells #[.bool false, .slice none 0 0, .slice none 0 0, .slice none 0 0] 26 (0, 0))) := Asd.mk (blk_alloc (blk_new w _) _)
  have HS0 : Asd (((w.alloc (.cells #[.bool false, .slice none 0 0, .slice none 0 0, .slice none 0 0] 26)).alloc (.cells #[.slice A m c, .bool true] 87)).heap.size = w.heap.size + 2) := Asd.mk (by simp)
  have HIB := Asd.mk h
  have HDR := Asd.mk (dec_ref xs)
  clear h hz
  go_enter Try.func26, Try.ntmps26
  go_wp2_with fail
  refine (snode_calls w.heap.size (w.heap.size + 1) (xs, true) _ HR0.out).mono ?_
  rintro e w3 ⟨hfr, hrd, v0, v1, v2, v3, rfl, hon⟩
  have hsane := sNode_sane (xs, true)
  generalize sNode (xs, true) = q at hrd hon hsane HDR
  obtain ⟨x, s⟩ := q
  dsimp only at hrd hon hsane HDR
  have HSN := Asd.mk hsane
  have hb3 : Below w.heap.size w w3 := HB0.out.trans ⟨hfr.os, hfr.tape, hfr.output, hfr.size, fun k hk => hfr.block k (by have := HB0.out.size; omega) (by omega)⟩
  have hn3 := blk_fr HN0.out hfr (by omega)
  obtain ⟨rfl, ⟨E1, i1, j1, rfl⟩, ⟨E2, i2, j2, rfl⟩, ⟨E3, i3, j3, rfl⟩⟩ := own_node_form hon
  rw [HS0.out] at hon
  have hsz3 : w.heap.size + 2 ≤ w3.heap.size := by have := hfr.size; rw [HS0.out] at this; exact this
  generalize hx0 : x.1 = x0 at hon ⊢
  have HX4 := Asd.mk (blk_new w3 (.cells #[.bool x0, .slice E1 i1 j1, .slice E2 i2 j2, .slice E3 i3 j3] 26))
  have HB4 : Asd (Below w.heap.size w (w3.alloc (.cells #[.bool x0, .slice E1 i1 j1, .slice E2 i2 j2, .slice E3 i3 j3] 26))) := Asd.mk (hb3.alloc hb3.size _)
  have HN4 := Asd.mk (blk_alloc hn3 (.cells #[.bool x0, .slice E1 i1 j1, .slice E2 i2 j2, .slice E3 i3 j3] 26))
  have HR4 := Asd.mk (hrd.below (below_alloc (Below.refl _ _) (.cells #[.bool x0, .slice E1 i1 j1, .slice E2 i2 j2, .slice E3 i3 j3] 26)))
  have HON := Asd.mk (hon.above (above_below (below_alloc (Below.refl _ w3) (.cells #[.bool x0, .slice E1 i1 j1, .slice E2 i2 j2, .slice E3 i3 j3] 26))))
  have HX0 := Asd.mk hx0
  clear hfr hrd hon hb3 hn3 hsane HR0 HB0 HN0 HS0 hx0
  go_upto_region 3 with fail
  generalize w3.alloc (.cells #[.bool x0, .slice E1 i1 j1, .slice E2 i2 j2, .slice E3 i3 j3] 26) = w4 at HX4 HB4 HN4 HR4 HON ⊢
  have p0 := (blk_cell HX4.out 0).trans rfl
  have p1 := (blk_cell HX4.out 1).trans rfl
  have p2 := (blk_cell HX4.out 2).trans rfl
  have p3 := (blk_cell HX4.out 3).trans rfl
  go_wp2_with fail
  refine (rencode_calls _ _ _ _ x w4 (HON.out.read HSN.out)).mono ?_
  rintro e w5 ⟨va, rfl, hoa, hb5⟩
  obtain ⟨Aa, ca, rfl⟩ := own_form hoa
  have HX5 := Asd.mk (blk_below hb5 HX4.out)
  have HB5 : Asd (Below w.heap.size w w5) := Asd.mk (HB4.out.trans (hb5.mono HB4.out.size))
  have HN5 := Asd.mk (blk_below hb5 HN4.out)
  have HR5 := Asd.mk (HR4.out.below hb5)
  have HON5 := Asd.mk (HON.out.above (above_below hb5))
  have HOA := Asd.mk (own_m hoa rfl)
  clear hoa hb5 p0 p1 p2 p3 HX4 HB4 HN4 HR4 HON
  have p0 := (blk_cell HX5.out 0).trans rfl
  have p1 := (blk_cell HX5.out 1).trans rfl
  have p2 := (blk_cell HX5.out 2).trans rfl
  have p3 := (blk_cell HX5.out 3).trans rfl
  have n0 := (blk_cell HN5.out 0).trans rfl
  have n1 := (blk_cell HN5.out 1).trans rfl
  have n2 := (blk_cell HN5.out 2).trans rfl
  have n3 := (blk_cell HN5.out 3).trans rfl
  have z0 := blk_frozen HN5.out 0
  have z1 := blk_frozen HN5.out 1
  have z2 := blk_frozen HN5.out 2
  have z3 := blk_frozen HN5.out 3
  have HNO : Asd (∀ (h : decP xs = none), RDecoded w xs (.returned (.tuple #[.agg #[.bool false, .slice none 0 0, .slice none 0 0, .slice none 0 0], .int .i64 10])) ((((w5.setCell ⟨w.heap.size, 0, none⟩ (.bool false)).setCell ⟨w.heap.size, 1, none⟩ (.slice none 0 0)).setCell ⟨w.heap.size, 2, none⟩ (.slice none 0 0)).setCell ⟨w.heap.size, 3, none⟩ (.slice none 0 0))) := Asd.mk fun h =>
    ⟨below_set (below_set (below_set (below_set HB5.out (p := ⟨w.heap.size, 0, none⟩) (Nat.le_refl _) _) (p := ⟨w.heap.size, 1, none⟩) (Nat.le_refl _) _) (p := ⟨w.heap.size, 2, none⟩) (Nat.le_refl _) _) (p := ⟨w.heap.size, 3, none⟩) (Nat.le_refl _) _, by rw [h]⟩
  have HNC : Asd (((((w5.setCell ⟨w.heap.size, 0, none⟩ (.bool false)).setCell ⟨w.heap.size, 1, none⟩ (.slice none 0 0)).setCell ⟨w.heap.size, 2, none⟩ (.slice none 0 0)).setCell ⟨w.heap.size, 3, none⟩ (.slice none 0 0)).heap[w.heap.size]? = some (.cells #[.bool false, .slice none 0 0, .slice none 0 0, .slice none 0 0] 26 (0, 0))) := Asd.mk (by
    have k1 := blk_set HN5.out 0 (.bool false)
    have k2 := blk_set k1 1 (.slice none 0 0)
    have k3 := blk_set k2 2 (.slice none 0 0)
    have k4 := blk_set k3 3 (.slice none 0 0)
    simpa using k4)
  obtain ⟨A9, m9, c9, hr9, _⟩ := HR5.out.out
  have r1 := (blk_cell hr9 1).trans rfl
  clear hr9 HR5
  by_cases hok : s.2 = true
  rotate_left
  · have HN : Asd (decP xs = none) := Asd.mk (by rw [HDR.out, if_neg (fun h => hok h.1)])
    have hok2 : s.2 = false := by simpa using hok
    rw [hok2] at r1
    generalize checkN x = cn
    clear hok hok2
    go_wp2_with fail
    (try simp only [Exit.inBlock, Exit.then])
    have g0 := (blk_cell HNC.out 0).trans rfl
    have g1 := (blk_cell HNC.out 1).trans rfl
    have g2 := (blk_cell HNC.out 2).trans rfl
    have g3 := (blk_cell HNC.out 3).trans rfl
    exact bodyPost_ret (v := .tuple #[.agg #[.bool false, .slice none 0 0, .slice none 0 0, .slice none 0 0], .int .i64 10]) (by simp [results, Try.results26, go_sem, g0, g1, g2, g3]) rfl (HNO.out HN.out)
  rw [hok] at r1
  by_cases hck : checkN x = 0
  rotate_left
  · have HN : Asd (decP xs = none) := Asd.mk (by rw [HDR.out, if_neg (fun h => hck h.2.1)])
    have hne : (checkN x != 0) = true := by rw [bne_iff_ne]; exact hck
    generalize checkN x = cn at hne hck ⊢
    clear hok hck
    go_wp2_with fail
    (try simp only [Exit.inBlock, Exit.then])
    have g0 := (blk_cell HNC.out 0).trans rfl
    have g1 := (blk_cell HNC.out 1).trans rfl
    have g2 := (blk_cell HNC.out 2).trans rfl
    have g3 := (blk_cell HNC.out 3).trans rfl
    exact bodyPost_ret (v := .tuple #[.agg #[.bool false, .slice none 0 0, .slice none 0 0, .slice none 0 0], .int .i64 10]) (by simp [results, Try.results26, go_sem, g0, g1, g2, g3]) rfl (HNO.out HN.out)
  rw [hck]
  have hbl : (encB x).length = 508 := body_len508 hck HSN.out
  have HIB5 := Asd.mk (HIB.out.below HB5.out)
  rw [hbl] at HOA ⊢
  clear hbl
  have k1 := conv_b ca (HOA.out.bytes (by omega))
  have k2 := conv_b c HIB5.out
  by_cases heq : encB x = xs
  rotate_left
  · have HN : Asd (decP xs = none) := Asd.mk (by rw [HDR.out, if_neg (fun h => heq h.2.2)])
    have hst := str_ne heq
    generalize (⟨(encB x).toArray⟩ : ByteArray) = sk at k1 hst
    generalize (⟨xs.toArray⟩ : ByteArray) = sl at k2 hst
    have hst2 : (!(sk.toList == sl.toList)) = true := by simpa using hst
    clear hok hck heq hst
    go_wp2_with fail
    (try simp only [Exit.inBlock, Exit.then])
    have g0 := (blk_cell HNC.out 0).trans rfl
    have g1 := (blk_cell HNC.out 1).trans rfl
    have g2 := (blk_cell HNC.out 2).trans rfl
    have g3 := (blk_cell HNC.out 3).trans rfl
    exact bodyPost_ret (v := .tuple #[.agg #[.bool false, .slice none 0 0, .slice none 0 0, .slice none 0 0], .int .i64 10]) (by simp [results, Try.results26, go_sem, g0, g1, g2, g3]) rfl (HNO.out HN.out)
  · have HN : Asd (decP xs = some x) := Asd.mk (by rw [HDR.out, if_pos ⟨hok, hck, heq⟩])
    rw [heq] at k1
    generalize (⟨xs.toArray⟩ : ByteArray) = sl at k1 k2
    have kk1 := blk_set HN5.out 0 (.bool x0)
    have kk2 := blk_set kk1 1 (.slice E1 i1 j1)
    have kk3 := blk_set kk2 2 (.slice E2 i2 j2)
    have kk4 := blk_set kk3 3 (.slice E3 i3 j3)
    have HYC : Asd (((((w5.setCell ⟨w.heap.size, 0, none⟩ (.bool x0)).setCell ⟨w.heap.size, 1, none⟩ (.slice E1 i1 j1)).setCell ⟨w.heap.size, 2, none⟩ (.slice E2 i2 j2)).setCell ⟨w.heap.size, 3, none⟩ (.slice E3 i3 j3)).heap[w.heap.size]? = some (.cells #[.bool x0, .slice E1 i1 j1, .slice E2 i2 j2, .slice E3 i3 j3] 26 (0, 0))) := Asd.mk (by simpa using kk4)
    have HYES : Asd (RDecoded w xs (.returned (.tuple #[.agg #[.bool x0, .slice E1 i1 j1, .slice E2 i2 j2, .slice E3 i3 j3], .int .i64 0])) ((((w5.setCell ⟨w.heap.size, 0, none⟩ (.bool x0)).setCell ⟨w.heap.size, 1, none⟩ (.slice E1 i1 j1)).setCell ⟨w.heap.size, 2, none⟩ (.slice E2 i2 j2)).setCell ⟨w.heap.size, 3, none⟩ (.slice E3 i3 j3))) := Asd.mk (by
      refine ⟨below_set (below_set (below_set (below_set HB5.out (p := ⟨w.heap.size, 0, none⟩) (Nat.le_refl _) _) (p := ⟨w.heap.size, 1, none⟩) (Nat.le_refl _) _) (p := ⟨w.heap.size, 2, none⟩) (Nat.le_refl _) _) (p := ⟨w.heap.size, 3, none⟩) (Nat.le_refl _) _, ?_⟩
      rw [HN.out]
      refine ⟨_, _, _, _, rfl, own_node_above HON5.out (fun g o hg ho => ?_) (by omega)⟩
      exact blk_far (blk_far (blk_far (blk_far ho (p := ⟨w.heap.size, 0, none⟩) (by simp; omega) _) (p := ⟨w.heap.size, 1, none⟩) (by simp; omega) _) (p := ⟨w.heap.size, 2, none⟩) (by simp; omega) _) (p := ⟨w.heap.size, 3, none⟩) (by simp; omega) _)
    clear hok hck heq kk1 kk2 kk3 kk4
    go_wp2_with fail
    (try simp only [Exit.inBlock, Exit.then])
    have g0 := (blk_cell HYC.out 0).trans rfl
    have g1 := (blk_cell HYC.out 1).trans rfl
    have g2 := (blk_cell HYC.out 2).trans rfl
    have g3 := (blk_cell HYC.out 3).trans rfl
    exact bodyPost_ret (v := .tuple #[.agg #[.bool x0, .slice E1 i1 j1, .slice E2 i2 j2, .slice E3 i3 j3], .int .i64 0]) (by simp [results, Try.results26, go_sem, g0, g1, g2, g3]) rfl HYES.out
end Go.Proofs.Ytnohhmopiflboaa.Nod
