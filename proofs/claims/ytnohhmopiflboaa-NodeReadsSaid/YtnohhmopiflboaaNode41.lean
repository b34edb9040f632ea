/- NodeBack: the walk. -/
import Derived.Test.YtnohhmopiflboaaNode36
import Derived.Test.YtnohhmopiflboaaNode40
set_option linter.unusedVariables false
set_option linter.unusedSimpArgs false
namespace Go.Proofs.Ytnohhmopiflboaa.Nod
open Go.RowKit Go.Proofs.Ytnohhmopiflboaa.Base Go.Proofs.Ytnohhmopiflboaa.Byt Go.Proofs.Ytnohhmopiflboaa.Rd Go.Proofs.Ytnohhmopiflboaa.App

theorem cut_508 (a : Int) : ∃ k : Nat, k < 508 ∧ (IntKind.u64.wrap a).tmod 508 = (k : Int) := by
  have h0 : 0 ≤ IntKind.u64.wrap a := by simp [IntKind.wrap, IntKind.signed, IntKind.bits]; omega
  have h1 : 0 ≤ (IntKind.u64.wrap a).tmod 508 := Int.tmod_nonneg _ h0
  have h3 : (IntKind.u64.wrap a).tmod 508 < 508 := Int.tmod_lt_of_pos _ (by omega)
  exact ⟨((IntKind.u64.wrap a).tmod 508).toNat, by omega, by omega⟩
theorem sane_dec {b : PB} {y : PNode} (h : decP b = some y) : Sane y := by
  unfold decP at h
  split at h
  · rename_i hl
    simp only [Option.bind_eq_some_iff] at h
    obtain ⟨x, hx, h2⟩ := h
    split at h2
    · injection h2 with h2
      subst h2
      exact sane_read hx (by omega)
    · cases h2
  · cases h
theorem enc_none {x : PNode} (h : checkN x ≠ 0) : encB x = [] := by rw [encB, if_neg h]
/-- A load of which one byte is another one is another load. -/
theorem set_ne {xs : PB} {k : Nat} {c : UInt8} (hk : k < xs.length) (h : xs.getD k 0 ≠ c) : xs.set k c ≠ xs := fun e => by
  apply h
  have h2 : (xs.set k c).getD k 0 = xs.getD k 0 := by rw [e]
  simp only [List.getD, List.getElem?_set, hk, if_true, Option.getD_some] at h2
  exact h2.symm
theorem back_other {x y : PNode} {xs : PB} {k : Nat} {c : UInt8} (hx : encB x = xs) (hk : k < xs.length) (h : xs.getD k 0 ≠ c) (hy : decP (xs.set k c) = some y) : checkN y = 0 ∧ encB y = xs.set k c ∧ sameB y x = false := by
  obtain ⟨h1, h2⟩ := dec_back hy
  refine ⟨h1, h2, same_not fun e => ?_⟩
  subst e
  exact set_ne hk h (by rw [← h2, hx])

set_option maxRecDepth 100000 in
set_option maxHeartbeats 3200000 in
theorem law_back (v0 v1 v2 v3 : Value) (a : Int) (c : UInt8) (x : PNode) (w : World) (h : rNode w [v0, v1, v2, v3] x) :
    Calls Try.prog 7 #[.agg #[v0, v1, v2, v3], .int .i64 a, .int .u8 (c.toNat : Int)] w (Tells w (.bool true)) := by
  have HR := Asd.mk h
  obtain ⟨A1, n1, c1, A2, n2, c2, A3, n3, c3, rfl, rfl, rfl, rfl, hna⟩ := node_of h
  have HSN := Asd.mk hna.sane
  clear h hna
  have HBX0 := Asd.mk (Box.start (w := w) (u := #[.bool x.1, .slice A1 n1 c1, .slice A2 n2 c2, .slice A3 n3 c3]) (t := 26))
  generalize hx0 : x.1 = x0 at HR HBX0 ⊢
  have HX0 := Asd.mk hx0
  clear hx0
  go_enter Try.func7, Try.ntmps7
  go_wp2_with fail
  refine (works_calls _).mono ?_
  rintro e w0 ⟨rfl, hb0⟩
  have HBX := Asd.mk (HBX0.out.old hb0)
  have p0 := (blk_cell HBX.out.n 0).trans rfl
  have p1 := (blk_cell HBX.out.n 1).trans rfl
  have p2 := (blk_cell HBX.out.n 2).trans rfl
  have p3 := (blk_cell HBX.out.n 3).trans rfl
  clear hb0 HBX0
  go_wp2_with fail
  refine (its_calls _ _ _ _ x _ (lasts_node _ _ _ _ HBX.out.below HR.out)).mono ?_
  rintro e w1 ⟨u0, u1, u2, u3, rfl, hon, hb1⟩
  obtain ⟨rfl, ⟨E1, i1, j1, rfl⟩, ⟨E2, i2, j2, rfl⟩, ⟨E3, i3, j3, rfl⟩⟩ := own_node_form hon
  rw [HX0.out] at hon ⊢
  have HBX1 := Asd.mk (HBX.out.old hb1)
  have HRX := Asd.mk (hon.read HSN.out)
  clear hon hb1 HBX p0 p1 p2 p3
  go_wp2_with fail
  refine (encode_calls _ _ _ _ x w1 HRX.out).mono ?_
  rintro e w2 ⟨va, rfl, hoa, hb2⟩
  obtain ⟨Aa, ca, rfl⟩ := own_form hoa
  have HB2 := Asd.mk hb2
  clear hb2 HRX
  by_cases hck : checkN x = 0
  rotate_left
  · have HBE := Asd.mk (HBX1.out.below.trans (HB2.out.mono HBX1.out.below.size))
    have hne : (checkN x != 0) = true := by rw [bne_iff_ne]; exact hck
    rw [enc_none hck]
    generalize checkN x = cn at hne hck ⊢
    go_wp2
    go_ret
    exact ⟨rfl, HBE.out⟩
  have HCK := Asd.mk hck
  have hlen := body_len508 hck HSN.out
  have HOA := Asd.mk (own_m hoa rfl)
  rw [hck]
  rw [hlen] at HOA ⊢
  clear hck hoa
  obtain ⟨gb, cur, rfl, hbg, hh, _⟩ := own_cell HOA.out 0 (by omega)
  have hRA := own_reads HOA.out (by omega)
  have HRA := Asd.mk hRA.1
  have hca := hRA.2.2
  have hgb := blk_lt hh
  have HGB := Asd.mk hbg
  clear hbg hh hRA
  have HDE := Asd.mk (dec_enc HCK.out HSN.out)
  generalize hxb : encB x = xb at HRA HOA HDE hlen
  have HXB := Asd.mk hxb
  have HLN := Asd.mk hlen
  clear hxb hlen
  go_wp2_with fail
  refine (decode_calls gb 0 ca xb w2 HRA.out hca hgb).mono ?_
  rintro e w3 ⟨hb3, hm⟩
  rw [HDE.out] at hm
  obtain ⟨u0, u1, u2, u3, rfl, hon⟩ := hm
  obtain ⟨rfl, ⟨E1, i1, j1, rfl⟩, ⟨E2, i2, j2, rfl⟩, ⟨E3, i3, j3, rfl⟩⟩ := own_node_form hon
  rw [HX0.out] at hon ⊢
  have HON := Asd.mk (hon.above (above_below (below_alloc (Below.refl _ w3) (.cells #[.bool x0, .slice E1 i1 j1, .slice E2 i2 j2, .slice E3 i3 j3] 29))))
  have HX3 := Asd.mk (blk_new w3 (.cells #[.bool x0, .slice E1 i1 j1, .slice E2 i2 j2, .slice E3 i3 j3] 29))
  have HB3 : Asd (Below w2.heap.size w2 (w3.alloc (.cells #[.bool x0, .slice E1 i1 j1, .slice E2 i2 j2, .slice E3 i3 j3] 29))) := Asd.mk (hb3.alloc hb3.size _)
  clear hb3 hon HRA
  go_upto_region 7 with fail
  generalize w3.alloc (.cells #[.bool x0, .slice E1 i1 j1, .slice E2 i2 j2, .slice E3 i3 j3] 29) = w4 at HON HX3 HB3 ⊢
  have HBX4 := Asd.mk (HBX1.out.old (HB2.out.trans (HB3.out.mono HB2.out.size)))
  have HS : Asd (∀ w', Below w4.heap.size w4 w' → w'.cell? ⟨w.heap.size, 0, none⟩ = some (.bool x0) ∧ w'.cell? ⟨w.heap.size, 1, none⟩ = some (.slice A1 n1 c1) ∧ w'.cell? ⟨w.heap.size, 2, none⟩ = some (.slice A2 n2 c2) ∧ w'.cell? ⟨w.heap.size, 3, none⟩ = some (.slice A3 n3 c3)
      ∧ w'.cell? ⟨w3.heap.size, 0, none⟩ = some (.bool x0) ∧ w'.cell? ⟨w3.heap.size, 1, none⟩ = some (.slice E1 i1 j1) ∧ w'.cell? ⟨w3.heap.size, 2, none⟩ = some (.slice E2 i2 j2) ∧ w'.cell? ⟨w3.heap.size, 3, none⟩ = some (.slice E3 i3 j3)) := Asd.mk fun w' hb => by
    have h := HBX4.out.old hb
    have hx := blk_below hb HX3.out
    exact ⟨(blk_cell h.n 0).trans rfl, (blk_cell h.n 1).trans rfl, (blk_cell h.n 2).trans rfl, (blk_cell h.n 3).trans rfl, (blk_cell hx 0).trans rfl, (blk_cell hx 1).trans rfl, (blk_cell hx 2).trans rfl, (blk_cell hx 3).trans rfl⟩
  go_region_held3 (fun w' => w'.cell? ⟨w.heap.size, 0, none⟩ = some (.bool x0) ∧ w'.cell? ⟨w.heap.size, 1, none⟩ = some (.slice A1 n1 c1) ∧ w'.cell? ⟨w.heap.size, 2, none⟩ = some (.slice A2 n2 c2) ∧ w'.cell? ⟨w.heap.size, 3, none⟩ = some (.slice A3 n3 c3)
      ∧ w'.cell? ⟨w3.heap.size, 0, none⟩ = some (.bool x0) ∧ w'.cell? ⟨w3.heap.size, 1, none⟩ = some (.slice E1 i1 j1) ∧ w'.cell? ⟨w3.heap.size, 2, none⟩ = some (.slice E2 i2 j2) ∧ w'.cell? ⟨w3.heap.size, 3, none⟩ = some (.slice E3 i3 j3))
    (first
      | exact HS.out _ HC.out
      | exact HS.out _ (Below.refl _ _).drew
      | fail)
    (first
      | (go_at_call 19
         refine (ours_calls _ _ _ _ x _ (lasts_node _ _ _ _ (Below.refl _ _).drew (HON.out.read HSN.out))).mono ?_
         rintro e w5 ⟨u0, u1, u2, u3, rfl, hon, hb4⟩
         have HC : Asd (Below w4.heap.size w4 w5) := Asd.mk (below_step (Below.refl _ _).drew hb4)
         have HRO := Asd.mk (hon.read HSN.out)
         clear hb4 hon)
      | (go_at_call 18
         refine (same_calls _ _ _ _ _ _ _ _ x x _ HRO.out (lasts_node _ _ _ _ (HBX4.out.old HC.out).below HR.out)).mono ?_
         rintro e w6 ⟨rfl, hb5⟩
         have HC8 := HC
         have HC : Asd (Below w4.heap.size w4 w6) := Asd.mk (below_step HC8.out hb5)
         clear hb5)
      | fail)
  have HF : Asd (sameB x x = true) := Asd.mk (by simp [sameB])
  rw [HF.out]
  have HBA : Asd (Below w1.heap.size w1 w6) := Asd.mk (HB2.out.trans ((HB3.out.trans (HC.out.mono HB3.out.size)).mono HB2.out.size))
  have HOA6 := Asd.mk (HOA.out.old (HB3.out.trans (HC.out.mono HB3.out.size)))
  clear HS HC8 HC HRO HBX4 HX3 HON HB3 HOA HB2 HF
  obtain ⟨k, hk, hke⟩ := cut_508 a
  have hq1 : IntKind.i64.wrap ((IntKind.u64.wrap a).tmod 508) = (IntKind.u64.wrap a).tmod 508 := by rw [IntKind.wrap_i64]; omega
  have HKE := Asd.mk hke
  clear hke
  obtain ⟨gb', cur, e', _, hh, hcur⟩ := own_cell HOA6.out k hk
  cases e'
  have q0 := (blk_cell hh k).trans hcur
  have z0 := blk_frozen hh k
  have HKL : Asd (k < xb.length) := Asd.mk (by rw [HLN.out]; exact hk)
  have HGT : Asd (xb.getD k 0 ≠ c → ∀ y, decP (xb.set k c) = some y → checkN y = 0 ∧ encB y = xb.set k c ∧ sameB y x = false) := Asd.mk fun hd y hy => back_other HXB.out HKL.out hd hy
  generalize hyb : xb.getD k 0 = yb at q0 HGT
  simp only [bcell] at q0
  clear hh hcur hyb
  have hk0 : (0 : Int) ≤ (k : Int) := by omega
  have hk1 : (k : Int) < 508 := by omega
  go_upto_region 10 with fail
  rw [HKE.out]
  by_cases hc : yb = c
  · have HBZ := Asd.mk (HBX1.out.old HBA.out).below
    subst hc
    go_wp2
    go_ret
    exact ⟨rfl, HBZ.out⟩
  have hcn : ¬ ((yb.toNat : Int) = (c.toNat : Int)) := fun e => hc (UInt8.toNat_inj.1 (by omega))
  have HGT2 := Asd.mk (HGT.out hc)
  clear HGT hc
  have HOB := Asd.mk (own_set HOA6.out k c)
  have HBB := Asd.mk (HBA.out.setCell (p := ⟨gb, k, none⟩) HGB.out (bcell c))
  have hlb : (xb.set k c).length = 508 := by rw [List.length_set]; exact HLN.out
  simp only [bcell] at HOB HBB
  clear HOA6 HBA
  go_upto_region 13 with fail
  generalize w6.setCell ⟨gb, k, none⟩ (.int .u8 (c.toNat : Int)) = w7 at HOB HBB ⊢
  generalize xb.set k c = xc at HOB HGT2 hlb
  have HLC := Asd.mk hlb
  clear hlb q0 z0
  have hRB := own_reads HOB.out (by omega)
  have hgb2 : gb < w7.heap.size := by
    obtain ⟨g', cur, e, _, hh, _⟩ := own_cell HOB.out 0 (by omega)
    cases e
    exact blk_lt hh
  have HRB := Asd.mk hRB.1
  clear hRB
  go_wp2_with fail
  refine (decode_calls gb 0 ca xc w7 HRB.out hca hgb2).mono ?_
  rintro e w8 ⟨hb8, hm⟩
  cases hdc : decP xc with
  | none =>
    rw [hdc] at hm
    subst hm
    have HBZ := Asd.mk (HBX1.out.old (HBB.out.trans (hb8.mono HBB.out.size))).below
    have HBY := Asd.mk (HBZ.out.alloc HBZ.out.size (.cells #[.bool false, .slice none 0 0, .slice none 0 0, .slice none 0 0] 29))
    clear hb8 HBZ
    go_wp2
    go_ret
    exact ⟨rfl, HBY.out⟩
  | some y =>
    rw [hdc] at hm
    obtain ⟨u0, u1, u2, u3, rfl, hon⟩ := hm
    obtain ⟨rfl, ⟨F1, k1, l1, rfl⟩, ⟨F2, k2, l2, rfl⟩, ⟨F3, k3, l3, rfl⟩⟩ := own_node_form hon
    have HSY := Asd.mk (sane_dec hdc)
    have HLW := Asd.mk (HGT2.out _ hdc)
    generalize hy0 : y.1 = y0 at hon ⊢
    have HON := Asd.mk (hon.above (above_below (below_alloc (Below.refl _ w8) (.cells #[.bool y0, .slice F1 k1 l1, .slice F2 k2 l2, .slice F3 k3 l3] 29))))
    have HX8 := Asd.mk (blk_new w8 (.cells #[.bool y0, .slice F1 k1 l1, .slice F2 k2 l2, .slice F3 k3 l3] 29))
    have HB8 : Asd (Below w7.heap.size w7 (w8.alloc (.cells #[.bool y0, .slice F1 k1 l1, .slice F2 k2 l2, .slice F3 k3 l3] 29))) := Asd.mk (hb8.alloc hb8.size _)
    clear hdc hb8 hon HRB
    go_upto_region 16 with fail
    have r0 := (blk_cell HX8.out 0).trans rfl
    have r1 := (blk_cell HX8.out 1).trans rfl
    have r2 := (blk_cell HX8.out 2).trans rfl
    have r3 := (blk_cell HX8.out 3).trans rfl
    generalize w8.alloc (.cells #[.bool y0, .slice F1 k1 l1, .slice F2 k2 l2, .slice F3 k3 l3] 29) = w9 at HON HX8 HB8 r0 r1 r2 r3 ⊢
    go_wp2_with fail
    refine (encode_calls _ _ _ _ y w9 (HON.out.read HSY.out)).mono ?_
    rintro e wA ⟨va, rfl, hoa, hbA⟩
    rw [HLW.out.1]
    rw [HLW.out.2.1] at hoa
    obtain ⟨A9, c9, rfl⟩ := own_form hoa
    have HO9 := Asd.mk (own_m hoa rfl)
    rw [HLC.out] at HO9 ⊢
    have HONA := Asd.mk (HON.out.above (above_below hbA))
    have HXA := Asd.mk (blk_below hbA HX8.out)
    have HOBA := Asd.mk (HOB.out.old (HB8.out.trans (hbA.mono HB8.out.size)))
    have HBXA := Asd.mk (HBX1.out.old (HBB.out.trans ((HB8.out.trans (hbA.mono HB8.out.size)).mono HBB.out.size)))
    clear hoa hbA HON HX8 HB8 r0 r1 r2 r3 HOB
    go_upto_region 17 with fail
    generalize hsk : (⟨xc.toArray⟩ : ByteArray) = sk
    have HS : Asd (∀ w', Below wA.heap.size wA w' → w'.cell? ⟨w.heap.size, 0, none⟩ = some (.bool x0) ∧ w'.cell? ⟨w.heap.size, 1, none⟩ = some (.slice A1 n1 c1) ∧ w'.cell? ⟨w.heap.size, 2, none⟩ = some (.slice A2 n2 c2) ∧ w'.cell? ⟨w.heap.size, 3, none⟩ = some (.slice A3 n3 c3)
      ∧ w'.cell? ⟨w8.heap.size, 0, none⟩ = some (.bool y0) ∧ w'.cell? ⟨w8.heap.size, 1, none⟩ = some (.slice F1 k1 l1) ∧ w'.cell? ⟨w8.heap.size, 2, none⟩ = some (.slice F2 k2 l2) ∧ w'.cell? ⟨w8.heap.size, 3, none⟩ = some (.slice F3 k3 l3)
      ∧ (convert 31 9 (.slice A9 508 c9)).run Try.prog w' = .ok (.string sk) w' ∧ (convert 31 9 (.slice (some ⟨gb, 0, none⟩) 508 ca)).run Try.prog w' = .ok (.string sk) w' ∧ Below wA.heap.size wA w') := Asd.mk fun w' hb => by
      have h := HBXA.out.old hb
      have hx := blk_below hb HXA.out
      have h1 := (HO9.out.old hb).bytes (by omega)
      have h2 := (HOBA.out.old hb).bytes (by omega)
      subst hsk
      exact ⟨(blk_cell h.n 0).trans rfl, (blk_cell h.n 1).trans rfl, (blk_cell h.n 2).trans rfl, (blk_cell h.n 3).trans rfl, (blk_cell hx 0).trans rfl, (blk_cell hx 1).trans rfl, (blk_cell hx 2).trans rfl, (blk_cell hx 3).trans rfl, conv_b c9 h1, conv_b ca h2, hb⟩
    clear hsk
    go_region_held3 (fun w' => w'.cell? ⟨w.heap.size, 0, none⟩ = some (.bool x0) ∧ w'.cell? ⟨w.heap.size, 1, none⟩ = some (.slice A1 n1 c1) ∧ w'.cell? ⟨w.heap.size, 2, none⟩ = some (.slice A2 n2 c2) ∧ w'.cell? ⟨w.heap.size, 3, none⟩ = some (.slice A3 n3 c3)
      ∧ w'.cell? ⟨w8.heap.size, 0, none⟩ = some (.bool y0) ∧ w'.cell? ⟨w8.heap.size, 1, none⟩ = some (.slice F1 k1 l1) ∧ w'.cell? ⟨w8.heap.size, 2, none⟩ = some (.slice F2 k2 l2) ∧ w'.cell? ⟨w8.heap.size, 3, none⟩ = some (.slice F3 k3 l3)
      ∧ (convert 31 9 (.slice A9 508 c9)).run Try.prog w' = .ok (.string sk) w' ∧ (convert 31 9 (.slice (some ⟨gb, 0, none⟩) 508 ca)).run Try.prog w' = .ok (.string sk) w' ∧ Below wA.heap.size wA w')
      (first
        | exact HS.out _ HC.out
        | exact HS.out _ (Below.refl _ _).drew
        | fail)
      (first
        | (go_at_call 19
           refine (ours_calls _ _ _ _ y _ (lasts_node _ _ _ _ (Below.refl _ _).drew (HONA.out.read HSY.out))).mono ?_
           rintro e wB ⟨u0, u1, u2, u3, rfl, hon, hb4⟩
           have HC : Asd (Below wA.heap.size wA wB) := Asd.mk (below_step (Below.refl _ _).drew hb4)
           have HRO := Asd.mk (hon.read HSY.out)
           clear hb4 hon)
        | (go_at_call 18
           refine (same_calls _ _ _ _ _ _ _ _ y x _ HRO.out (lasts_node _ _ _ _ (HBXA.out.old HC.out).below HR.out)).mono ?_
           rintro e wC ⟨rfl, hb5⟩
           rw [HLW.out.2.2]
           have HC8 := HC
           have HC : Asd (Below wA.heap.size wA wC) := Asd.mk (below_step HC8.out hb5)
           clear hb5)
        | fail)
    have HBZ := Asd.mk (HBXA.out.old HC.out).below
    go_wp2
    go_ret
    exact ⟨rfl, HBZ.out⟩

set_option maxRecDepth 100000 in
theorem back_open {H : Type} {enc : TypeId × Value → H} (W : World) (v : Value) (d : DataW H) (p : List MemPlace) {base : Nat} (ok : Value.okWide Try.prog W .any base 26 v) (h : DataW.Trod enc Try.prog W 0 (fun _ => true) true 26 v d p)
    (wt : ∀ k ∈ d.weights Try.prog 26, k ≤ reachBytes) (a : Int) (wa : (Lit.int .i64 a).wf = true) (c : Int) (wc : (Lit.int .u8 c).wf = true) : Calls Try.prog 7 #[v, .int .i64 a, .int .u8 c] W (Tells W (.bool true)) := by
  obtain ⟨v0, v1, v2, v3, x, rfl, hx⟩ := node_open W v d p ok h wt
  have hc : (c : Int) = ((UInt8.ofNat c.toNat).toNat : Int) := by
    simp only [Lit.wf, IntKind.min, IntKind.max, IntKind.signed, IntKind.bits, Bool.and_eq_true, decide_eq_true_eq] at wc
    simp at wc ⊢
    omega
  rw [hc]
  exact law_back v0 v1 v2 v3 a _ x W hx
end Go.Proofs.Ytnohhmopiflboaa.Nod
