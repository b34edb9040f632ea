/- The reference's reader: two, key. -/
import Derived.Test.YtnohhmopiflboaaNode43
set_option linter.unusedVariables false
set_option linter.unusedSimpArgs false
namespace Go.Proofs.Ytnohhmopiflboaa.Nod
open Go.RowKit Go.Proofs.Ytnohhmopiflboaa.Base Go.Proofs.Ytnohhmopiflboaa.Byt Go.Proofs.Ytnohhmopiflboaa.Rd Go.Proofs.Ytnohhmopiflboaa.App

def STold (w : World) (B g : Nat) (s : SSt) (e : Ending) (w' : World) : Prop := Fr (fun k => k = g) w w' ∧ Rdr w' B g (sTwo s).2 ∧ e = .returned (.int .i64 (sTwo s).1)
def SKeyed (w : World) (B g : Nat) (s : SSt) (e : Ending) (w' : World) : Prop := Fr (fun k => k = g) w w' ∧ Rdr w' B g (sKey s).2 ∧ ∃ A' c', e = .returned (.slice A' (sKey s).1.length c') ∧ OwnM w' w.heap.size A' (sKey s).1.length c' (sKey s).1

set_option maxRecDepth 100000 in
set_option maxHeartbeats 1600000 in
theorem stwo_calls (B g : Nat) (s : SSt) (w : World) (h : Rdr w B g s) :
    Calls Try.prog 81 #[.pointer (some ⟨g, 0, none⟩)] w (STold w B g s) := by
  have HR := Asd.mk h
  clear h
  go_enter Try.func81, Try.ntmps81
  go_wp2_with fail
  refine (stake_calls B g 2 s w (by omega) HR.out).mono ?_
  rintro e w1 ⟨hfr, hrd, A, c, rfl, hc2, _, hib⟩
  have HFR : Asd (Fr (fun k => k = g) w w1.drew) := Asd.mk ⟨hfr.os, hfr.tape, hfr.output, hfr.size, hfr.block⟩
  have HRD : Asd (Rdr w1.drew B g (sTake 2 s).2) := Asd.mk (hrd.below (Below.refl _ _).drew)
  have HT : Asd (sTwo s = (num2 (sTake 2 s).1, (sTake 2 s).2)) := Asd.mk rfl
  generalize sTake 2 s = q at hib HRD HT
  obtain ⟨b, o, rfl, hcell⟩ := hib.2.2 (by omega)
  have q0 := hcell 0 (by omega)
  have q1 := hcell 1 (by omega)
  have HN : Asd (num2 q.1 = ((q.1.getD 0 0).toNat : Int) + 256 * ((q.1.getD 1 0).toNat : Int)) := Asd.mk rfl
  have h0 := (q.1.getD 0 0).toNat_lt
  have h1 := (q.1.getD 1 0).toNat_lt
  generalize q.1.getD 0 0 = y0 at q0 HN h0
  generalize q.1.getD 1 0 = y1 at q1 HN h1
  simp only [bcell, Nat.add_zero] at q0 q1
  have c0 : IntKind.i64.wrap (y0.toNat : Int) = (y0.toNat : Int) := by rw [IntKind.wrap_i64]; omega
  have c1 : IntKind.i64.wrap (y1.toNat : Int) = (y1.toNat : Int) := by rw [IntKind.wrap_i64]; omega
  have c2 : IntKind.i64.wrap (256 * (y1.toNat : Int)) = 256 * (y1.toNat : Int) := by rw [IntKind.wrap_i64]; omega
  have c3 : IntKind.i64.wrap ((y0.toNat : Int) + 256 * (y1.toNat : Int)) = (y0.toNat : Int) + 256 * (y1.toNat : Int) := by rw [IntKind.wrap_i64]; omega
  clear hfr hrd hib hcell h0 h1
  go_upto_region 2 with fail
  go_region_held3 (fun w' => w'.cell? ⟨b, o, none⟩ = some (.int .u8 (y0.toNat : Int)) ∧ w'.cell? ⟨b, o + 1, none⟩ = some (.int .u8 (y1.toNat : Int)))
    (first
      | exact ⟨q0, q1⟩
      | fail)
    (fail)
  go_wp2
  go_ret
  refine ⟨HFR.out, ?_, ?_⟩
  · rw [HT.out]; exact HRD.out
  · rw [HT.out, HN.out]
    rfl

theorem own_empty_fr {w w1 : World} {g e : Nat} {B : Nat} (h : Fr (fun k => k = g) (w.alloc (.cells #[] 5)) w1) (he : w.heap.size = e) (hg : g < e) (hB : B ≤ e) : w1.ownsRow B 5 1 (.slice (some ⟨e, 0, none⟩) 0 0) 0 [] := by
  have h1 : (w.alloc (.cells #[] 5)).ownsRow B 5 1 (.slice (some ⟨e, 0, none⟩) 0 0) 0 [] := own_empty_new he hB
  refine ⟨h1.1, ?_⟩
  rcases h1.2 with h0 | ⟨g', cap, cur, hv, hb, hh, rest⟩
  · exact .inl h0
  · refine .inr ⟨g', cap, cur, hv, hb, ?_, rest⟩
    injection hv with hv1
    injection hv1 with hv1
    injection hv1 with hv1
    exact (h.block g' (blk_lt hh) (by omega)).trans hh

set_option maxRecDepth 100000 in
set_option maxHeartbeats 1600000 in
theorem skey_calls (B g : Nat) (s : SSt) (w : World) (h : Rdr w B g s) :
    Calls Try.prog 82 #[.pointer (some ⟨g, 0, none⟩)] w (SKeyed w B g s) := by
  have HR : Asd (Rdr (w.alloc (.cells #[] 5)) B g s) := Asd.mk (h.below (below_alloc (Below.refl _ _) _))
  have hgl := h.lt
  have HGL := Asd.mk hgl
  clear h
  go_enter Try.func82, Try.ntmps82
  go_wp2_with fail
  refine (stake_calls B g 1 s _ (by omega) HR.out).mono ?_
  rintro e w1 ⟨hfr, hrd, A, c, rfl, hc2, _, hib⟩
  have HFR := Asd.mk hfr
  have HRD := Asd.mk hrd
  have HK : Asd (sKey s = sTake ((sTake 1 s).1.getD 0 0).toNat (sTake 1 s).2) := Asd.mk rfl
  generalize sTake 1 s = q at hib HRD HK
  obtain ⟨b, o, rfl, hcell⟩ := hib.2.2 (by omega)
  have q0 := hcell 0 (by omega)
  have h0 := (q.1.getD 0 0).toNat_lt
  generalize q.1.getD 0 0 = y0 at q0 HK h0
  simp only [bcell, Nat.add_zero] at q0
  have c0 : IntKind.i64.wrap (y0.toNat : Int) = (y0.toNat : Int) := by rw [IntKind.wrap_i64]; omega
  clear hfr hrd hib hcell
  go_wp2_with fail
  refine (stake_calls B g y0.toNat q.2 w1 (by omega) HRD.out).mono ?_
  rintro e w2 ⟨hfr, hrd, A, c, rfl, hc2, hz, hib⟩
  rw [← HK.out] at hib hrd
  have hlen := hib.1
  have HFR2 := Asd.mk (HFR.out.trans (U := fun k => k = g) hfr (fun _ h _ => h) (fun _ h _ => h))
  have HRD2 := Asd.mk hrd
  have HO := Asd.mk (own_empty_fr (B := w.heap.size) HFR2.out rfl HGL.out (Nat.le_refl _))
  have HF := Asd.mk (src_bytes (c := c) hib hz)
  have hy : y0.toNat ≤ 256 := by omega
  have hsz : w.heap.size ≤ w2.heap.size := by
    have := HFR2.out.size
    simp at this
    omega
  have HLEN := Asd.mk hlen
  clear hfr hrd hib hz hlen q0
  go_wp2_with (at_builtin; refine wpList_src rfl (.tmp 3) (.tmp 10) _ rfl rowB _ rfl HO.out A y0.toNat c rfl HF.out (by unfold maxLen; omega) (by omega) hsz ?_)
  intro A' c' w' ho hg
  have HOM : Asd (OwnM w' w.heap.size A' y0.toNat c' (sKey s).1) := Asd.mk (by
    have h2 := ho
    try simp only [Nat.zero_add, List.nil_append] at h2
    exact h2)
  have HB : Asd (Below w2.heap.size w2 w' ∨ True) := Asd.mk (.inr trivial)
  have HFR3 : Asd (Fr (fun k => k = g) w w') := Asd.mk (by
    have h1 : Fr (fun k => k = g) w w2 := (Fr.of_below (S := fun _ => False) (below_alloc (Below.refl _ w) (.cells #[] 5))).trans HFR2.out (fun _ h _ => h.elim) (fun _ h _ => h)
    exact h1.trans (Fr.of_grown (S := fun k => k = w.heap.size) hg (fun k hk => by first | exact (Option.some.inj hk).symm | exact Option.some.inj hk)) (fun _ h _ => h) (fun k hk hlt => by subst hk; exact absurd hlt (Nat.lt_irrefl _)))
  have HRD3 : Asd (Rdr w' B g (sKey s).2) := Asd.mk (by
    obtain ⟨A9, m9, c9, h1, h2, h3, h4, h5, h6⟩ := HRD2.out.out
    have hgl := HGL.out
    refine ⟨⟨A9, m9, c9, (hg.block g (blk_lt h1) (fun e => by have h9 : g = w.heap.size := Option.some.inj e; omega)).trans h1, h2, h3, ?_, h5, h6⟩⟩
    exact h4.fr (S := fun k => k = w.heap.size) (Fr.of_grown hg (fun k hk => by first | exact (Option.some.inj hk).symm | exact Option.some.inj hk)) (fun a ha hm hk => by have := h5 a ha hm; omega))
  clear ho hg HB
  go_wp2
  go_ret
  exact ⟨HFR3.out, HRD3.out, A', c', by simp [HLEN.out], by rw [HLEN.out]; exact HOM.out⟩
end Go.Proofs.Ytnohhmopiflboaa.Nod
