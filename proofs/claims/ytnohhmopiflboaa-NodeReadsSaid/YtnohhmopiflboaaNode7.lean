/- (Node).fields: whether all of a node is right but its size. -/
import Derived.Test.YtnohhmopiflboaaNode6
set_option linter.unusedVariables false
set_option linter.unusedSimpArgs false
namespace Go.Proofs.Ytnohhmopiflboaa.Nod
open Go.RowKit Go.Proofs.Ytnohhmopiflboaa.Base Go.Proofs.Ytnohhmopiflboaa.Byt Go.Proofs.Ytnohhmopiflboaa.Rd

def cellOk (c : PCell) : Bool := cRight c.1.length c.2.1.length c.2.2.1 c.2.2.2
def keyOk (k : PB) : Bool := decide (k.length ≤ 128)
def leafOk (x : PNode) : Bool := x.2.1.all cellOk && decide (0 < x.2.1.length) && decide (x.2.2.1.length + x.2.2.2.length = 0) && risingB (x.2.1.map (·.1))
def innerOk (x : PNode) : Bool := decide (x.2.1.length = 0) && decide (0 < x.2.2.1.length) && decide (x.2.2.2.length = x.2.2.1.length + 1) && risingB x.2.2.1 && x.2.2.1.all keyOk && x.2.2.2.all isPage
def fieldsB (x : PNode) : Bool := if x.1 then leafOk x else innerOk x

theorem info31 : (Try.prog.info? 31).map (fun i => (i.zero, i.size, i.bytes)) = some (some (.slice none 0 0), 1, 24) := by kernel_rfl

/-- The keys that fields gathers. -/
structure Keys (B : Nat) (w wr : World) (x : PNode) (v : Value) (k : Nat) (us : List Value) : Prop where
  own : wr.ownsRow B 31 1 v k us
  len : us.length = k
  read : ∀ j (h : j < us.length), ∃ hj : j < x.2.1.length, rB w [us[j]] (x.2.1[j]'hj).1
  ok : ∀ j (h : j < k), ∃ hj : j < x.2.1.length, cellOk (x.2.1[j]'hj) = true

theorem Keys.sl {w wr : World} {x : PNode} {v : Value} {k : Nat} {us : List Value} (h : Keys w.heap.size w wr x v k us) (hk : k = x.2.1.length) (hb : Below w.heap.size w wr) :
    ∃ A c, v = .slice A k c ∧ IsSl rB 1 wr A k (x.2.1.map (·.1)) := by
  rcases h.own with ⟨_, ⟨rfl, h0⟩ | ⟨g, cap, cur, rfl, hbg, hh, hcap, _, hsz, ht⟩⟩
  · exact ⟨none, 0, by rw [h0], by simp [hk], fun hp => by omega⟩
  · refine ⟨_, cap, rfl, by simp [hk], fun hp => ⟨g, 0, rfl, blk_lt hh, fun j hj => ?_⟩⟩
    simp only [List.length_map] at hj
    have hju : j < us.length := by rw [h.len]; omega
    obtain ⟨hj2, hr⟩ := h.read j hju
    refine ⟨[us[j]], rfl, fun i hi => ?_, ?_⟩
    · obtain rfl : i = 0 := by omega
      rw [Nat.zero_add, blk_cell hh]
      have : (cur.toList.take (k * 1))[j]? = us[j]? := by rw [ht]
      rw [List.getElem?_take, if_pos (by omega), Array.getElem?_toList] at this
      simp only [Nat.mul_one, Nat.add_zero]
      rw [this]
      simp [hju]
    · rw [List.getElem_map]
      exact lasts_b _ _ _ _ hb hr

theorem key_read {W W' : World} {b o n : Nat} {xs : List PCell} (h : IsSl rCell 4 W (some ⟨b, o, none⟩) n xs) (hb : Below W.heap.size W W') (k : Nat) (hk : k < xs.length) {v : Value} (hc : W'.cell? ⟨b, o + k * 4, none⟩ = some v) : rB W [v] xs[k].1 := by
  obtain ⟨b', o', he, hlt, hcs⟩ := h.2 (by have := h.1; omega)
  injection he with he
  injection he with h1 h2
  subst h1 h2
  obtain ⟨es, _, hcell, c0, c1, c2, c3, rfl, h0, _⟩ := hcs k hk
  have h1 := hcell 0 (by omega)
  rw [Nat.add_zero, ← hb.cell hlt, hc] at h1
  simp at h1
  rw [h1]; exact h0
theorem blk_below {W W' : World} {g : Nat} {o : Obj} (hb : Below W.heap.size W W') (h : W.heap[g]? = some o) : W'.heap[g]? = some o := (hb.block g (blk_lt h)).trans h
theorem own_below {W W' : World} {B : Nat} {e : TypeId} {s : Nat} {v : Value} {n : Nat} {xs : List Value} (h : W.ownsRow B e s v n xs) (hb : Below W.heap.size W W') : W'.ownsRow B e s v n xs :=
  h.kept (row := none) ⟨hb.os, hb.tape, hb.output, hb.size, fun j hj _ => hb.block j hj⟩ (by cases hv : v.ownBlock <;> simp)
theorem grown_blk {W W' : World} {g : Nat} {o : Obj} {row : Option Nat} (hg : W.grownBy W' row) (h : W.heap[g]? = some o) (hne : some g ≠ row) : W'.heap[g]? = some o := (hg.block g (blk_lt h) hne).trans h
theorem own_type {W : World} {B : Nat} {e : TypeId} {s : Nat} {v : Value} {n : Nat} {xs : List Value} (h : W.ownsRow B e s v n xs) {g : Nat} {cs : Array Value} {t : TypeId} {fr : Nat × Nat} (hb : W.heap[g]? = some (.cells cs t fr)) (hne : e ≠ t) : some g ≠ v.ownBlock := by
  rcases h.2 with ⟨rfl, _⟩ | ⟨g', cap, cur, rfl, _, hh, _⟩
  · simp [Value.ownBlock]
  · intro hk
    simp [Value.ownBlock] at hk
    subst hk
    rw [hh] at hb
    injection hb with hb
    injection hb with _ ht
    exact hne ht

theorem grown_below {W W' : World} {B : Nat} {e : TypeId} {s : Nat} {v : Value} {n : Nat} {xs : List Value} (hg : W.grownBy W' v.ownBlock) (h : W.ownsRow B e s v n xs) (hB : B ≤ W.heap.size) : Below B W W' :=
  ⟨hg.os, hg.tape, hg.output, hg.size, fun j hj => hg.block j (by omega) (fun hk => by have := h.lt j hk.symm; omega)⟩

theorem below_drewN {B : Nat} {w w' : World} (h : Below B w w') (n : Nat) : Below B w (w'.drewN n) := ⟨h.os, h.tape, h.output, h.size, h.block⟩

/-- An answer; nothing old has turned. -/
def Tells (w : World) (v : Value) (e : Ending) (w' : World) : Prop := e = .returned v ∧ Below w.heap.size w w'

set_option maxRecDepth 100000 in
set_option maxHeartbeats 3200000 in
theorem fields_leaf (v1 v2 v3 : Value) (x : PNode) (w : World) (h : rNode w [.bool true, v1, v2, v3] x) :
    Calls Try.prog 40 #[.agg #[.bool true, v1, v2, v3]] w (Tells w (.bool (leafOk x))) := by
  obtain ⟨A1, n1, c1, A2, n2, c2, A3, n3, c3, hv0, rfl, rfl, rfl, hna⟩ := node_of h
  have HNA := Asd.mk hna
  have hb1 : n1 * 64 ≤ 140737488351232 := hna.b1
  have hb2 : n2 ≤ 140737488351232 := by have := hna.b2; simp only [reachBytes] at this; omega
  have hb3 : n3 ≤ 140737488351232 := by have := hna.b3; simp only [reachBytes] at this; omega
  have hl1 := Asd.mk hna.cells.1
  have hl2 := Asd.mk hna.keys.1
  have hl3 := Asd.mk hna.kids.1
  obtain ⟨i0, hi, hz0, hz1, hz2⟩ := info_parts info31
  clear h hna hv0
  go_enter Try.func40, Try.ntmps40
  go_wp2
  go_loopw [3, 13] (fun v i wr => ∃ (k : Nat) (us : List Value), k ≤ n1 ∧ i = .int .i64 (k : Int) ∧ Keys w.heap.size w wr x v k us ∧ wr.heap[w.heap.size]? = some (.cells #[.bool true, .slice A1 n1 c1, .slice A2 n2 c2, .slice A3 n3 c3] 29 (0, 0)) ∧ Below w.heap.size w wr) (fun _ i _ => n1 - (intOf i).toNat)
  case atStart => exact ⟨0, [], by omega, rfl, ⟨World.ownsRow_nil _ _ _ _, rfl, fun j h => by simp at h, fun j h => by omega⟩, blk_new w _, (Below.refl _ _).alloc (Nat.le_refl _) _⟩
  case round =>
    obtain ⟨k, us, hk, rfl, hks, hp, hb⟩ := hrel
    have HP := Asd.mk hp
    have hgt := blk_lt hp
    have p1 := (blk_cell hp 1).trans rfl
    have p2 := (blk_cell hp 2).trans rfl
    have p3 := (blk_cell hp 3).trans rfl
    clear hp
    have HK := Asd.mk hks
    have HB := Asd.mk hb
    by_cases hlt : k < n1
    · have hkl : k < x.2.1.length := by rw [hl1.out]; exact hlt
      obtain ⟨b, o, Ak, nk, ck, Av, nv, cv, rfl, hbl, q0, q1, q2, q3, ib0, ib1, _, _, hnk, hnv⟩ := cell_at (HNA.out.below hb).cells k hkl
      have HOK : Asd (cellOk x.2.1[k] = cRight nk nv x.2.1[k].2.2.1 x.2.1[k].2.2.2) := Asd.mk (by unfold cellOk; rw [ib0.1, ib1.1])
      generalize hover : x.2.1[k].2.2.1 = over at q2 HOK
      generalize hsize : x.2.1[k].2.2.2 = size at q3 HOK
      have HKEY := Asd.mk (key_read HNA.out.cells hb k hkl q0)
      clear hb ib0 ib1 hover hsize hks
      cases hcr : cRight nk nv over size with
      | false =>
        have HCR := Asd.mk hcr
        clear hcr
        go_wp2_with fail
        refine (right_calls Ak Av nk nv ck cv over size _ hnk hnv).mono ?_
        rintro e w2 ⟨rfl, hb2⟩
        have HB2 : Asd (Below w.heap.size w w2) := Asd.mk ((HB.out.alloc HB.out.size _).trans (hb2.mono (by simp; omega)))
        rw [HCR.out]
        clear hb2
        go_wp2
        go_ret
        have HF : Asd (leafOk x = false) := Asd.mk (by
          have h1 : x.2.1.all cellOk = false := by
            rw [List.all_eq_false]
            exact ⟨x.2.1[k], List.getElem_mem hkl, by rw [HOK.out, HCR.out]; simp⟩
          simp [leafOk, h1])
        exact ⟨ret_eq (by rw [HF.out]; rfl), HB2.out⟩
      | true =>
        have HCR := Asd.mk hcr
        clear hcr
        go_wp2_with fail
        refine (right_calls Ak Av nk nv ck cv over size _ hnk hnv).mono ?_
        rintro e w2 ⟨rfl, hb2⟩
        have HB2 : Asd (Below w.heap.size w w2) := Asd.mk ((HB.out.alloc HB.out.size _).trans (hb2.mono (by simp; omega)))
        have HKO := Asd.mk (own_below (HK.out.own.alloc _) hb2)
        have HP2 := Asd.mk (blk_below hb2 (blk_alloc HP.out _))
        have d0 := (blk_cell (blk_below hb2 (blk_new wr _)) 0).trans rfl
        have hs2 : w.heap.size < w2.heap.size := blk_lt HP2.out
        have HOWN := Asd.mk (HKO.out.alloc (.cells #[.slice Ak nk ck] 31))
        rw [HCR.out]
        clear hb2
        go_wp2_with (at_builtin; refine wpList_append_own _ rfl (.tmp 20) (.tmp 23) 23 rfl w.heap.size 31 i0 (.slice none 0 0) 1 24 Try.underlying23 hi hz0 hz1 hz2 rfl (by decide) _ _ _ rfl HOWN.out ⟨w2.heap.size, 0, none⟩ 1 1 [.slice Ak nk ck] rfl rfl ?c0 ?c00 ?c1 ?c2 ?c3 ?_)
        case c0 =>
          intro j u hj
          match j, hj with
          | 0, hj => simp at hj; subst hj; simp [Addr.add]
        case c00 => intro u hu; simp at hu; subst hu; rfl
        case c1 => unfold maxLen; omega
        case c2 => omega
        case c3 => simp; omega
        · intro v' w3 hown' hgr _
          have HP3 := Asd.mk (grown_blk hgr (blk_alloc HP2.out _) (own_type HOWN.out (blk_alloc HP2.out _) (by decide)))
          have HB3 : Asd (Below w.heap.size w w3) := Asd.mk (by
            refine ((HB2.out.alloc HB2.out.size (.cells #[.slice Ak nk ck] 31)).trans ?_)
            exact grown_below hgr HOWN.out (Nat.le_trans HB2.out.size (by simp)))
          have HK3 : Asd (Keys w.heap.size w w3 x v' (k + 1) (us ++ [.slice Ak nk ck])) := Asd.mk (by
            refine ⟨hown', by simp [HK.out.len], fun j hj => ?_, fun j hj => ?_⟩
            · by_cases hjk : j < us.length
              · obtain ⟨a, b⟩ := HK.out.read j hjk
                exact ⟨a, by rw [List.getElem_append_left hjk]; exact b⟩
              · have hj2 : j = us.length := by simp at hj; omega
                subst hj2
                have hlen := HK.out.len
                refine ⟨by rw [hlen]; exact hkl, ?_⟩
                simp only [List.getElem_concat_length]
                have hr := HKEY.out
                simp only [← hlen] at hr
                exact hr
            · by_cases hjk : j < k
              · exact HK.out.ok j hjk
              · obtain rfl : j = k := by omega
                exact ⟨hkl, by rw [HOK.out, HCR.out]⟩)
          clear hown' hgr
          go_wp2
          go_roundw
          case rel => exact ⟨k + 1, _, by omega, by go_num, HK3.out, HP3.out, HB3.out⟩
          case measure => simp [intOf]; omega
    · have hkn : k = n1 := by omega
      subst hkn
      have HALL : Asd (x.2.1.all cellOk = true) := Asd.mk (by
        rw [List.all_eq_true]
        intro c hc
        obtain ⟨j, hj, rfl⟩ := List.getElem_of_mem hc
        obtain ⟨_, h⟩ := hks.ok j (by rw [← hl1.out]; exact hj)
        exact h)
      clear hks hb
      by_cases h0 : k = 0
      · have HF : Asd (leafOk x = false) := Asd.mk (by simp [leafOk, hl1.out, h0])
        have h00 : ¬ (0 < k) := by omega
        go_wp2
        go_ret
        exact ⟨ret_eq (by rw [HF.out]; rfl), HB.out⟩
      · have h00 : 0 < k := by omega
        by_cases h1 : n2 + n3 = 0
        · have HF : Asd (leafOk x = risingB (x.2.1.map (·.1))) := Asd.mk (by simp only [leafOk, HALL.out, hl1.out, hl2.out, hl3.out, h1]; simp [h00])
          have h11 : ((n2 : Int) + n3 == 0) = true := by simp; omega
          obtain ⟨A, c, rfl, hsl⟩ := HK.out.sl hl1.out.symm HB.out
          have HSL := Asd.mk hsl
          clear h0 h1 hsl HK
          go_wp2_with fail
          refine (rising_calls A k c _ _ HSL.out (by omega)).mono ?_
          rintro e w' ⟨rfl, nq, rfl⟩
          cases hr : risingB (x.2.1.map (·.1)) with
          | false =>
            have HF2 : Asd (leafOk x = false) := Asd.mk (HF.out.trans hr)
            clear hr
            go_wp2
            go_ret
            exact ⟨ret_eq (by rw [HF2.out]; rfl), below_drewN HB.out nq⟩
          | true =>
            have HF2 : Asd (leafOk x = true) := Asd.mk (HF.out.trans hr)
            clear hr
            go_wp2
            go_ret
            exact ⟨ret_eq (by rw [HF2.out]; rfl), below_drewN HB.out nq⟩
        · have HF : Asd (leafOk x = false) := Asd.mk (by simp only [leafOk, hl2.out, hl3.out, h1]; simp)
          have h11 : ((n2 : Int) + n3 == 0) = false := by simp; omega
          clear h0 h1
          go_wp2
          go_ret
          exact ⟨ret_eq (by rw [HF.out]; rfl), HB.out⟩
end Go.Proofs.Ytnohhmopiflboaa.Nod
