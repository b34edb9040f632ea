/- Same: are two nodes the same? -/
import Derived.Test.YtnohhmopiflboaaNode20
set_option linter.unusedVariables false
set_option linter.unusedSimpArgs false
namespace Go.Proofs.Ytnohhmopiflboaa.Nod
open Go.RowKit Go.Proofs.Ytnohhmopiflboaa.Base Go.Proofs.Ytnohhmopiflboaa.Byt Go.Proofs.Ytnohhmopiflboaa.Rd Go.Proofs.Ytnohhmopiflboaa.App

/-- The two arguments' boxes. -/
structure Two (w wr : World) (u v : Array Value) : Prop where
  a : wr.heap[w.heap.size]? = some (.cells u 26 (0, 0))
  b : wr.heap[w.heap.size + 1]? = some (.cells v 26 (0, 0))
  below : Below w.heap.size w wr
theorem Two.start (w : World) (u v : Array Value) : Two w ((w.alloc (.cells u 26)).alloc (.cells v 26)) u v := by
  refine ⟨blk_alloc (blk_new _ _) _, ?_, below_alloc (below_alloc (Below.refl _ _) _) _⟩
  have := blk_new (w.alloc (.cells u 26)) (.cells v 26)
  have e : (w.alloc (.cells u 26)).heap.size = w.heap.size + 1 := by simp
  rw [e] at this
  exact this
theorem Two.old {w a b : World} {u v : Array Value} (h : Two w a u v) (hb : Below a.heap.size a b) : Two w b u v := ⟨blk_below hb h.a, blk_below hb h.b, h.below.trans (hb.mono h.below.size)⟩

noncomputable def sameB (x y : PNode) : Bool := @decide (x = y) (Classical.propDecidable _)
theorem same_not {x y : PNode} (h : x ≠ y) : sameB x y = false := by simp [sameB, h]

theorem two_new (w : World) (X Y : Obj) : ((w.alloc X).alloc Y).heap[w.heap.size]? = some X ∧ ((w.alloc X).alloc Y).heap[w.heap.size + 1]? = some Y := by
  refine ⟨blk_alloc (blk_new _ _) _, ?_⟩
  have := blk_new (w.alloc X) Y
  have e : (w.alloc X).heap.size = w.heap.size + 1 := by simp
  rw [e] at this
  exact this
theorem conv_b {w : World} {A : Option Addr} {n : Nat} (c : Nat) {xs : PB} (h : IsBytes w A n xs) : (convert 31 9 (.slice A n c)).run Try.prog w = .ok (.string ⟨xs.toArray⟩) w :=
  run_string 31 9 5 Try.underlying31 Try.underlying5 Try.underlying9 c h
theorem str_ne {a b : PB} (h : a ≠ b) : ¬ (⟨a.toArray⟩ : ByteArray).toList = (⟨b.toArray⟩ : ByteArray).toList := by
  simpa [ByteArray.toList_eq] using h

set_option maxRecDepth 100000 in
set_option maxHeartbeats 3200000 in
theorem same_calls (v0 v1 v2 v3 u0 u1 u2 u3 : Value) (x y : PNode) (w : World) (h : rNode w [v0, v1, v2, v3] x) (h' : rNode w [u0, u1, u2, u3] y) :
    Calls Try.prog 18 #[.agg #[v0, v1, v2, v3], .agg #[u0, u1, u2, u3]] w (Tells w (.bool (sameB x y))) := by
  obtain ⟨A1, n1, c1, A2, n2, c2, A3, n3, c3, rfl, rfl, rfl, rfl, hna⟩ := node_of h
  obtain ⟨B1, m1, d1, B2, m2, d2, B3, m3, d3, rfl, rfl, rfl, rfl, hnb⟩ := node_of h'
  have HNA := Asd.mk hna
  have HNB := Asd.mk hnb
  have hb1 : n1 * 64 ≤ 140737488351232 := hna.b1
  have hb2 : n2 * 24 ≤ 140737488351232 := hna.b2
  have hb3 : n3 * 8 ≤ 140737488351232 := hna.b3
  have hl1 := Asd.mk hna.cells.1
  have hl2 := Asd.mk hna.keys.1
  have hl3 := Asd.mk hna.kids.1
  have hm1 := Asd.mk hnb.cells.1
  have hm2 := Asd.mk hnb.keys.1
  have hm3 := Asd.mk hnb.kids.1
  clear h h' hna hnb
  have HT := Asd.mk (Two.start w #[.bool x.1, .slice A1 n1 c1, .slice A2 n2 c2, .slice A3 n3 c3] #[.bool y.1, .slice B1 m1 d1, .slice B2 m2 d2, .slice B3 m3 d3])
  by_cases e0 : x.1 = y.1
  rotate_left
  · have HF : Asd (sameB x y = false) := Asd.mk (same_not (fun h => e0 (by rw [h])))
    generalize x.1 = x0 at e0 HT ⊢
    generalize y.1 = y0 at e0 HT ⊢
    cases x0 <;> cases y0
    case false.false => exact absurd rfl e0
    case true.true => exact absurd rfl e0
    all_goals
      clear e0
      go_enter Try.func18, Try.ntmps18
      go_wp2
      go_ret
      exact ⟨ret_eq (by rw [HF.out]; rfl), HT.out.below⟩
  by_cases e1 : m1 = n1
  rotate_left
  · have HF : Asd (sameB x y = false) := Asd.mk (same_not (fun h => e1 (by rw [← hm1.out, ← hl1.out, h])))
    have hne : ((n1 : Int) != (m1 : Int)) = true := by rw [bne_iff_ne]; omega
    clear e1
    rw [e0] at HT ⊢
    clear e0
    generalize y.1 = y0 at HT ⊢
    go_enter Try.func18, Try.ntmps18
    go_wp2
    go_ret
    exact ⟨ret_eq (by rw [HF.out]; rfl), HT.out.below⟩
  by_cases e2 : m2 = n2
  rotate_left
  · have HF : Asd (sameB x y = false) := Asd.mk (same_not (fun h => e2 (by rw [← hm2.out, ← hl2.out, h])))
    have hne : ((n2 : Int) != (m2 : Int)) = true := by rw [bne_iff_ne]; omega
    clear e2
    subst e1
    rw [e0] at HT ⊢
    clear e0
    generalize y.1 = y0 at HT ⊢
    go_enter Try.func18, Try.ntmps18
    go_wp2
    go_ret
    exact ⟨ret_eq (by rw [HF.out]; rfl), HT.out.below⟩
  by_cases e3 : m3 = n3
  rotate_left
  · have HF : Asd (sameB x y = false) := Asd.mk (same_not (fun h => e3 (by rw [← hm3.out, ← hl3.out, h])))
    have hne : ((n3 : Int) != (m3 : Int)) = true := by rw [bne_iff_ne]; omega
    clear e3
    subst e1 e2
    rw [e0] at HT ⊢
    clear e0
    generalize y.1 = y0 at HT ⊢
    go_enter Try.func18, Try.ntmps18
    go_wp2
    go_ret
    exact ⟨ret_eq (by rw [HF.out]; rfl), HT.out.below⟩
  subst e1 e2 e3
  have HE0 := Asd.mk e0
  rw [e0] at HT ⊢
  clear e0
  generalize y.1 = y0 at HT ⊢
  go_enter Try.func18, Try.ntmps18
  go_wp2
  go_loopw [5] (fun i wr => ∃ (k : Nat), k ≤ m1 ∧ i = .int .i64 (k : Int) ∧ Asd (Two w wr #[.bool y0, .slice A1 m1 c1, .slice A2 m2 c2, .slice A3 m3 c3] #[.bool y0, .slice B1 m1 d1, .slice B2 m2 d2, .slice B3 m3 d3]) ∧ Asd (x.2.1.take k = y.2.1.take k)) (fun i _ => m1 - (intOf i).toNat)
  case atStart => exact ⟨0, by omega, rfl, HT, ⟨rfl⟩⟩
  case round =>
    obtain ⟨k, hk, rfl, HT, HQ⟩ := hrel
    have p1 := (blk_cell HT.out.a 1).trans rfl
    by_cases hlt : k < m1
    · have hkx : k < x.2.1.length := by rw [hl1.out]; exact hlt
      have hky : k < y.2.1.length := by rw [hm1.out]; exact hlt
      obtain ⟨b, o, Ak, nk, ck, Av, nv, cv, rfl, hbl, q0, q1, q2, q3, ib0, ib1, zk, zv, hnk, hnv⟩ := cell_at (HNA.out.below HT.out.below).cells k hkx
      obtain ⟨b', o', Bk, mk, dk, Bv, mv, dv, rfl, hbl', r0, r1, r2, r3, jb0, jb1, yk, yv, hmk, hmv⟩ := cell_at (HNB.out.below HT.out.below).cells k hky
      have HTX := Asd.mk (take_snoc x.2.1 k hkx)
      have HTY := Asd.mk (take_snoc y.2.1 k hky)
      have HSX := Asd.mk (fun (h : x = y) => show x.2.1[k] = y.2.1[k] by subst h; rfl)
      generalize x.2.1[k] = cx at HTX HSX q2 q3 ib0 ib1
      generalize y.2.1[k] = cy at HTY HSX r2 r3 jb0 jb1
      obtain ⟨key, val, over, size⟩ := cx
      obtain ⟨key', val', over', size'⟩ := cy
      have HI0 := Asd.mk ib0
      have HI1 := Asd.mk ib1
      have HJ0 := Asd.mk jb0
      have HJ1 := Asd.mk jb1
      dsimp only at q2 q3 r2 r3
      have hi0 : (0 : Int) ≤ (k : Int) := by omega
      have hi1 : (k : Int) < (m1 : Int) := by omega
      have s0 := (blk_cell HT.out.b 1).trans rfl
      clear ib0 ib1 jb0 jb1 zk zv yk yv
      go_upto_region 6 with fail
      go_cut [6, 7] (fun s6 s7 wx => ∃ g h : Nat, s6 = .pointer (some ⟨g, 0, none⟩) ∧ s7 = .pointer (some ⟨h, 0, none⟩) ∧ Below wr.heap.size wr wx ∧ wx.cell? ⟨g, 0, none⟩ = some (.slice Ak nk ck) ∧ wx.cell? ⟨g, 1, none⟩ = some (.slice Av nv cv) ∧ wx.cell? ⟨g, 2, none⟩ = some (.int .i64 over) ∧ wx.cell? ⟨g, 3, none⟩ = some (.int .i64 size)
        ∧ wx.cell? ⟨h, 0, none⟩ = some (.slice Bk mk dk) ∧ wx.cell? ⟨h, 1, none⟩ = some (.slice Bv mv dv) ∧ wx.cell? ⟨h, 2, none⟩ = some (.int .i64 over') ∧ wx.cell? ⟨h, 3, none⟩ = some (.int .i64 size'))
      case first =>
        have HS : Asd (∀ w', Below wr.heap.size wr w' → w'.cell? ⟨w.heap.size, 1, none⟩ = some (.slice (some ⟨b, o, none⟩) m1 c1) ∧ w'.cell? ⟨w.heap.size + 1, 1, none⟩ = some (.slice (some ⟨b', o', none⟩) m1 d1) ∧ w'.cell? ⟨b, o + k * 4, none⟩ = some (.slice Ak nk ck) ∧ w'.cell? ⟨b, o + k * 4 + 1, none⟩ = some (.slice Av nv cv) ∧ w'.cell? ⟨b, o + k * 4 + 2, none⟩ = some (.int .i64 over) ∧ w'.cell? ⟨b, o + k * 4 + 3, none⟩ = some (.int .i64 size)
          ∧ w'.cell? ⟨b', o' + k * 4, none⟩ = some (.slice Bk mk dk) ∧ w'.cell? ⟨b', o' + k * 4 + 1, none⟩ = some (.slice Bv mv dv) ∧ w'.cell? ⟨b', o' + k * 4 + 2, none⟩ = some (.int .i64 over') ∧ w'.cell? ⟨b', o' + k * 4 + 3, none⟩ = some (.int .i64 size') ∧ Below wr.heap.size wr w') := Asd.mk fun w' hb =>
          ⟨(hb.cell (p := ⟨w.heap.size, 1, none⟩) (blk_lt HT.out.a)).trans p1, (hb.cell (p := ⟨w.heap.size + 1, 1, none⟩) (blk_lt HT.out.b)).trans s0, (hb.cell (p := ⟨b, o + k * 4, none⟩) hbl).trans q0, (hb.cell (p := ⟨b, o + k * 4 + 1, none⟩) hbl).trans q1, (hb.cell (p := ⟨b, o + k * 4 + 2, none⟩) hbl).trans q2, (hb.cell (p := ⟨b, o + k * 4 + 3, none⟩) hbl).trans q3,
            (hb.cell (p := ⟨b', o' + k * 4, none⟩) hbl').trans r0, (hb.cell (p := ⟨b', o' + k * 4 + 1, none⟩) hbl').trans r1, (hb.cell (p := ⟨b', o' + k * 4 + 2, none⟩) hbl').trans r2, (hb.cell (p := ⟨b', o' + k * 4 + 3, none⟩) hbl').trans r3, hb⟩
        clear p1 s0 q0 q1 q2 q3 r0 r1 r2 r3
        go_region_held3 (fun w' => w'.cell? ⟨w.heap.size, 1, none⟩ = some (.slice (some ⟨b, o, none⟩) m1 c1) ∧ w'.cell? ⟨w.heap.size + 1, 1, none⟩ = some (.slice (some ⟨b', o', none⟩) m1 d1) ∧ w'.cell? ⟨b, o + k * 4, none⟩ = some (.slice Ak nk ck) ∧ w'.cell? ⟨b, o + k * 4 + 1, none⟩ = some (.slice Av nv cv) ∧ w'.cell? ⟨b, o + k * 4 + 2, none⟩ = some (.int .i64 over) ∧ w'.cell? ⟨b, o + k * 4 + 3, none⟩ = some (.int .i64 size)
          ∧ w'.cell? ⟨b', o' + k * 4, none⟩ = some (.slice Bk mk dk) ∧ w'.cell? ⟨b', o' + k * 4 + 1, none⟩ = some (.slice Bv mv dv) ∧ w'.cell? ⟨b', o' + k * 4 + 2, none⟩ = some (.int .i64 over') ∧ w'.cell? ⟨b', o' + k * 4 + 3, none⟩ = some (.int .i64 size') ∧ Below wr.heap.size wr w')
          (first
            | exact HS.out _ (Below.refl _ _).drew
            | exact HS.out _ (below_alloc (Below.refl _ _).drew _)
            | exact HS.out _ (below_alloc (below_alloc (Below.refl _ _).drew _) _)
            | fail)
          (fail)
        all_goals
          go_wp2_with fail
          go_meet
        · have hn := two_new wr (.cells #[.slice Ak nk ck, .slice Av nv cv, .int .i64 over, .int .i64 size] 78) (.cells #[.slice Bk mk dk, .slice Bv mv dv, .int .i64 over', .int .i64 size'] 78)
          exact ⟨_, _, rfl, rfl, (below_alloc (below_alloc (Below.refl _ _) _) _).drew, (blk_cell hn.1 0).trans rfl, (blk_cell hn.1 1).trans rfl, (blk_cell hn.1 2).trans rfl, (blk_cell hn.1 3).trans rfl, (blk_cell hn.2 0).trans rfl, (blk_cell hn.2 1).trans rfl, (blk_cell hn.2 2).trans rfl, (blk_cell hn.2 3).trans rfl⟩
        · have hn := two_new wr (.cells #[.slice Bk mk dk, .slice Bv mv dv, .int .i64 over', .int .i64 size'] 78) (.cells #[.slice Ak nk ck, .slice Av nv cv, .int .i64 over, .int .i64 size] 78)
          exact ⟨_, _, rfl, rfl, (below_alloc (below_alloc (Below.refl _ _) _) _).drew, (blk_cell hn.2 0).trans rfl, (blk_cell hn.2 1).trans rfl, (blk_cell hn.2 2).trans rfl, (blk_cell hn.2 3).trans rfl, (blk_cell hn.1 0).trans rfl, (blk_cell hn.1 1).trans rfl, (blk_cell hn.1 2).trans rfl, (blk_cell hn.1 3).trans rfl⟩
      case rest =>
        obtain ⟨g, h, rfl, rfl, hbx, g0, g1, g2, g3, h0, h1, h2, h3⟩ := hcut
        have HT2 := Asd.mk (HT.out.old hbx)
        have k0 := conv_b ck (HI0.out.below hbx)
        have k1 := conv_b cv (HI1.out.below hbx)
        have l0 := conv_b dk (HJ0.out.below hbx)
        have l1 := conv_b dv (HJ1.out.below hbx)
        clear hbx p1 s0 q0 q1 q2 q3 r0 r1 r2 r3
        by_cases ek : key = key'
        rotate_left
        · have HF : Asd (sameB x y = false) := Asd.mk (same_not (fun h => by have := HSX.out h; simp only [Prod.mk.injEq] at this; exact ek this.1))
          have hs := str_ne ek
          generalize (⟨key.toArray⟩ : ByteArray) = sk at k0 hs
          generalize (⟨key'.toArray⟩ : ByteArray) = sl at l0 hs
          have hs2 : (sk.toList != sl.toList) = true := by rw [bne_iff_ne]; exact hs
          have hs3 : (sk.toList == sl.toList) = false := by rw [beq_eq_false_iff_ne]; exact hs
          clear ek k1 l1
          go_wp2
          go_ret
          exact ⟨ret_eq (by rw [HF.out]; rfl), HT2.out.below⟩
        by_cases ev : val = val'
        rotate_left
        · have HF : Asd (sameB x y = false) := Asd.mk (same_not (fun h => by have := HSX.out h; simp only [Prod.mk.injEq] at this; exact ev this.2.1))
          have hs := str_ne ev
          subst ek
          generalize (⟨key.toArray⟩ : ByteArray) = sq at k0 l0
          generalize (⟨val.toArray⟩ : ByteArray) = sk at k1 hs
          generalize (⟨val'.toArray⟩ : ByteArray) = sl at l1 hs
          have hs2 : (sk.toList != sl.toList) = true := by rw [bne_iff_ne]; exact hs
          have hs3 : (sk.toList == sl.toList) = false := by rw [beq_eq_false_iff_ne]; exact hs
          clear ev
          go_wp2
          go_ret
          exact ⟨ret_eq (by rw [HF.out]; rfl), HT2.out.below⟩
        by_cases eo : over = over'
        rotate_left
        · have HF : Asd (sameB x y = false) := Asd.mk (same_not (fun h => by have := HSX.out h; simp only [Prod.mk.injEq] at this; exact eo this.2.2.1))
          have hs : (over != over') = true := by rw [bne_iff_ne]; exact eo
          subst ek ev
          generalize (⟨key.toArray⟩ : ByteArray) = sq at k0 l0
          generalize (⟨val.toArray⟩ : ByteArray) = sk at k1 l1
          go_wp2
          go_ret
          exact ⟨ret_eq (by rw [HF.out]; rfl), HT2.out.below⟩
        by_cases es : size = size'
        rotate_left
        · have HF : Asd (sameB x y = false) := Asd.mk (same_not (fun h => by have := HSX.out h; simp only [Prod.mk.injEq] at this; exact es this.2.2.2))
          have hs : (size != size') = true := by rw [bne_iff_ne]; exact es
          subst ek ev eo
          generalize (⟨key.toArray⟩ : ByteArray) = sq at k0 l0
          generalize (⟨val.toArray⟩ : ByteArray) = sk at k1 l1
          go_wp2
          go_ret
          exact ⟨ret_eq (by rw [HF.out]; rfl), HT2.out.below⟩
        subst ek ev eo es
        generalize (⟨key.toArray⟩ : ByteArray) = sq at k0 l0
        generalize (⟨val.toArray⟩ : ByteArray) = sk at k1 l1
        go_wp2
        go_roundw
        case rel => exact ⟨k + 1, by omega, by go_num, HT2, ⟨by rw [HTX.out, HTY.out, HQ.out]⟩⟩
        case measure => simp [intOf]; omega
    · have HC : Asd (x.2.1 = y.2.1) := Asd.mk (by
        have h := HQ.out
        rw [List.take_of_length_le (by rw [hl1.out]; omega), List.take_of_length_le (by rw [hm1.out]; omega)] at h
        exact h)
      clear HQ
      go_wp2
      go_loopw [8] (fun i wr => ∃ (k : Nat), k ≤ m2 ∧ i = .int .i64 (k : Int) ∧ Asd (Two w wr #[.bool y0, .slice A1 m1 c1, .slice A2 m2 c2, .slice A3 m3 c3] #[.bool y0, .slice B1 m1 d1, .slice B2 m2 d2, .slice B3 m3 d3]) ∧ Asd (x.2.2.1.take k = y.2.2.1.take k)) (fun i _ => m2 - (intOf i).toNat)
      case atStart => exact ⟨0, by omega, rfl, HT, ⟨rfl⟩⟩
      clear p1 HT
      case round =>
        obtain ⟨k, hk, rfl, HT, HQ⟩ := hrel
        have p2 := (blk_cell HT.out.a 2).trans rfl
        by_cases hlt : k < m2
        · have hkx : k < x.2.2.1.length := by rw [hl2.out]; exact hlt
          have hky : k < y.2.2.1.length := by rw [hm2.out]; exact hlt
          obtain ⟨b, o, Ak, nk, ck, rfl, hbl, q0, ib0, zk, hnk⟩ := key_at (HNA.out.below HT.out.below).keys k hkx
          obtain ⟨b', o', Bk, mk, dk, rfl, hbl', r0, jb0, yk, hmk⟩ := key_at (HNB.out.below HT.out.below).keys k hky
          have HTX := Asd.mk (take_snoc x.2.2.1 k hkx)
          have HTY := Asd.mk (take_snoc y.2.2.1 k hky)
          have HSX := Asd.mk (fun (h : x = y) => show x.2.2.1[k] = y.2.2.1[k] by subst h; rfl)
          generalize x.2.2.1[k] = key at HTX HSX ib0
          generalize y.2.2.1[k] = key' at HTY HSX jb0
          have hi0 : (0 : Int) ≤ (k : Int) := by omega
          have hi1 : (k : Int) < (m2 : Int) := by omega
          have s0 := (blk_cell HT.out.b 2).trans rfl
          have HK := Asd.mk (fun w' (hb : Below wr.heap.size wr w') => conv_b ck (ib0.below hb))
          have HL := Asd.mk (fun w' (hb : Below wr.heap.size wr w') => conv_b dk (jb0.below hb))
          clear ib0 jb0 zk yk
          have HS : Asd (∀ sk sl, (⟨key.toArray⟩ : ByteArray) = sk → (⟨key'.toArray⟩ : ByteArray) = sl → ∀ w', Below wr.heap.size wr w' → w'.cell? ⟨w.heap.size, 2, none⟩ = some (.slice (some ⟨b, o, none⟩) m2 c2) ∧ w'.cell? ⟨w.heap.size + 1, 2, none⟩ = some (.slice (some ⟨b', o', none⟩) m2 d2) ∧ w'.cell? ⟨b, o + k, none⟩ = some (.slice Ak nk ck) ∧ w'.cell? ⟨b', o' + k, none⟩ = some (.slice Bk mk dk)
            ∧ (convert 31 9 (.slice Ak nk ck)).run Try.prog w' = .ok (.string sk) w' ∧ (convert 31 9 (.slice Bk mk dk)).run Try.prog w' = .ok (.string sl) w') := Asd.mk fun sk sl hsk hsl w' hb => by
            subst hsk hsl
            exact ⟨(hb.cell (p := ⟨w.heap.size, 2, none⟩) (blk_lt HT.out.a)).trans p2, (hb.cell (p := ⟨w.heap.size + 1, 2, none⟩) (blk_lt HT.out.b)).trans s0, (hb.cell (p := ⟨b, o + k, none⟩) hbl).trans q0, (hb.cell (p := ⟨b', o' + k, none⟩) hbl').trans r0, HK.out w' hb, HL.out w' hb⟩
          have HT2 := Asd.mk (HT.out.old (Below.refl _ _).drew)
          clear HK HL
          by_cases ek : key = key'
          · subst ek
            generalize hsk : (⟨key.toArray⟩ : ByteArray) = sk at HS
            have HS2 := Asd.mk (HS.out sk sk rfl rfl)
            clear HS hsk
            go_upto_region 12 with fail
            clear p2 s0 q0 r0
            go_region_held3 (fun w' => w'.cell? ⟨w.heap.size, 2, none⟩ = some (.slice (some ⟨b, o, none⟩) m2 c2) ∧ w'.cell? ⟨w.heap.size + 1, 2, none⟩ = some (.slice (some ⟨b', o', none⟩) m2 d2) ∧ w'.cell? ⟨b, o + k, none⟩ = some (.slice Ak nk ck) ∧ w'.cell? ⟨b', o' + k, none⟩ = some (.slice Bk mk dk)
              ∧ (convert 31 9 (.slice Ak nk ck)).run Try.prog w' = .ok (.string sk) w' ∧ (convert 31 9 (.slice Bk mk dk)).run Try.prog w' = .ok (.string sk) w')
              (first
                | exact HS2.out _ (Below.refl _ _).drew
                | fail)
              (fail)
            all_goals
              go_wp2
              go_roundw
              case rel => exact ⟨k + 1, by omega, by go_num, HT2, ⟨by rw [HTX.out, HTY.out, HQ.out]⟩⟩
              case measure => simp [intOf]; omega
          · have HF : Asd (sameB x y = false) := Asd.mk (same_not (fun h => ek (HSX.out h)))
            have hs := str_ne ek
            generalize hsk : (⟨key.toArray⟩ : ByteArray) = sk at HS hs
            generalize hsl : (⟨key'.toArray⟩ : ByteArray) = sl at HS hs
            have HS2 := Asd.mk (HS.out sk sl rfl rfl)
            have hs2 : (sk.toList != sl.toList) = true := by rw [bne_iff_ne]; exact hs
            have hs3 : (sk.toList == sl.toList) = false := by rw [beq_eq_false_iff_ne]; exact hs
            clear HS ek hsk hsl
            go_upto_region 12 with fail
            clear p2 s0 q0 r0
            go_region_held3 (fun w' => w'.cell? ⟨w.heap.size, 2, none⟩ = some (.slice (some ⟨b, o, none⟩) m2 c2) ∧ w'.cell? ⟨w.heap.size + 1, 2, none⟩ = some (.slice (some ⟨b', o', none⟩) m2 d2) ∧ w'.cell? ⟨b, o + k, none⟩ = some (.slice Ak nk ck) ∧ w'.cell? ⟨b', o' + k, none⟩ = some (.slice Bk mk dk)
              ∧ (convert 31 9 (.slice Ak nk ck)).run Try.prog w' = .ok (.string sk) w' ∧ (convert 31 9 (.slice Bk mk dk)).run Try.prog w' = .ok (.string sl) w')
              (first
                | exact HS2.out _ (Below.refl _ _).drew
                | fail)
              (fail)
            all_goals
              go_wp2
              go_ret
              exact ⟨ret_eq (by rw [HF.out]; rfl), HT2.out.below⟩
        · have HKE : Asd (x.2.2.1 = y.2.2.1) := Asd.mk (by
            have h := HQ.out
            rw [List.take_of_length_le (by rw [hl2.out]; omega), List.take_of_length_le (by rw [hm2.out]; omega)] at h
            exact h)
          clear HQ
          go_wp2
          go_loopw [9] (fun i wr => ∃ (k : Nat), k ≤ m3 ∧ i = .int .i64 (k : Int) ∧ Asd (Two w wr #[.bool y0, .slice A1 m1 c1, .slice A2 m2 c2, .slice A3 m3 c3] #[.bool y0, .slice B1 m1 d1, .slice B2 m2 d2, .slice B3 m3 d3]) ∧ Asd (x.2.2.2.take k = y.2.2.2.take k)) (fun i _ => m3 - (intOf i).toNat)
          case atStart => exact ⟨0, by omega, rfl, HT, ⟨rfl⟩⟩
          clear p2 HT
          case round =>
            obtain ⟨k, hk, rfl, HT, HQ⟩ := hrel
            have p3 := (blk_cell HT.out.a 3).trans rfl
            by_cases hlt : k < m3
            · have hkx : k < x.2.2.2.length := by rw [hl3.out]; exact hlt
              have hky : k < y.2.2.2.length := by rw [hm3.out]; exact hlt
              obtain ⟨b, o, rfl, hbl, q0, hra, hrb⟩ := kid_at (HNA.out.below HT.out.below).kids k hkx
              obtain ⟨b', o', rfl, hbl', r0, hrc, hrd⟩ := kid_at (HNB.out.below HT.out.below).kids k hky
              clear hra hrb hrc hrd
              have HTX := Asd.mk (take_snoc x.2.2.2 k hkx)
              have HTY := Asd.mk (take_snoc y.2.2.2 k hky)
              have HSX := Asd.mk (fun (h : x = y) => show x.2.2.2[k] = y.2.2.2[k] by subst h; rfl)
              generalize x.2.2.2[k] = key at HTX HSX q0
              generalize y.2.2.2[k] = key' at HTY HSX r0
              have hi0 : (0 : Int) ≤ (k : Int) := by omega
              have hi1 : (k : Int) < (m3 : Int) := by omega
              have s0 := (blk_cell HT.out.b 3).trans rfl
              have HT2 := Asd.mk (HT.out.old (Below.refl _ _).drew)
              by_cases ek : key = key'
              · subst ek
                go_upto_region 17 with fail
                go_region_held3 (fun w' => w'.cell? ⟨w.heap.size, 3, none⟩ = some (.slice (some ⟨b, o, none⟩) m3 c3) ∧ w'.cell? ⟨w.heap.size + 1, 3, none⟩ = some (.slice (some ⟨b', o', none⟩) m3 d3) ∧ w'.cell? ⟨b, o + k, none⟩ = some (.int .i64 key) ∧ w'.cell? ⟨b', o' + k, none⟩ = some (.int .i64 key))
                  (first
                    | exact ⟨p3, s0, q0, r0⟩
                    | fail)
                  (fail)
                all_goals
                  go_wp2
                  go_roundw
                  case rel => exact ⟨k + 1, by omega, by go_num, HT2, ⟨by rw [HTX.out, HTY.out, HQ.out]⟩⟩
                  case measure => simp [intOf]; omega
              · have HF : Asd (sameB x y = false) := Asd.mk (same_not (fun h => ek (HSX.out h)))
                have hs2 : (key != key') = true := by rw [bne_iff_ne]; exact ek
                go_upto_region 17 with fail
                go_region_held3 (fun w' => w'.cell? ⟨w.heap.size, 3, none⟩ = some (.slice (some ⟨b, o, none⟩) m3 c3) ∧ w'.cell? ⟨w.heap.size + 1, 3, none⟩ = some (.slice (some ⟨b', o', none⟩) m3 d3) ∧ w'.cell? ⟨b, o + k, none⟩ = some (.int .i64 key) ∧ w'.cell? ⟨b', o' + k, none⟩ = some (.int .i64 key'))
                  (first
                    | exact ⟨p3, s0, q0, r0⟩
                    | fail)
                  (fail)
                all_goals
                  go_wp2
                  go_ret
                  exact ⟨ret_eq (by rw [HF.out]; rfl), HT2.out.below⟩
            · have HF : Asd (sameB x y = true) := Asd.mk (by
                have h := HQ.out
                rw [List.take_of_length_le (by rw [hl3.out]; omega), List.take_of_length_le (by rw [hm3.out]; omega)] at h
                have : x = y := Prod.ext HE0.out (Prod.ext HC.out (Prod.ext HKE.out h))
                simp [sameB, this])
              go_wp2
              go_ret
              exact ⟨ret_eq (by rw [HF.out]; rfl), HT.out.below⟩
end Go.Proofs.Ytnohhmopiflboaa.Nod
