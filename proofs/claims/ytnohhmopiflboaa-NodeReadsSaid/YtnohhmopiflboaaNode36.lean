/- works: a leaf of two cells is written and read. -/
import Derived.Test.YtnohhmopiflboaaNode35
import Derived.Lib.SlBytesConst
set_option linter.unusedVariables false
set_option linter.unusedSimpArgs false
namespace Go.Proofs.Ytnohhmopiflboaa.Nod
open Go.RowKit Go.Proofs.Ytnohhmopiflboaa.Base Go.Proofs.Ytnohhmopiflboaa.Byt Go.Proofs.Ytnohhmopiflboaa.Rd Go.Proofs.Ytnohhmopiflboaa.App

def xW : PNode := (true, [([97], [120], 0, 1), ([98], [], 9, 100)], [], [])
theorem xW_check : checkN xW = 0 := by kernel_rfl
theorem xW_len : (encB xW).length = 508 := by kernel_rfl
theorem xW_take : (encB xW).take 14 = [1, 2, 0, 1, 97, 1, 0, 120, 1, 98, 100, 0, 9, 0] := by kernel_rfl
theorem xW_back : decP (encB xW) = some xW := by kernel_rfl
theorem xW_sane : Sane xW := ⟨by decide, by decide, by decide, by decide, by decide, by decide⟩
theorem e_check : checkN (true, [], [], []) = 3 := by kernel_rfl

theorem rb_block {w : World} {b : Nat} {x : UInt8} {t : TypeId} {fr : Nat × Nat} (h : w.heap[b]? = some (.cells #[bcell x] t fr)) : rB w [.slice (some ⟨b, 0, none⟩) 1 1] [x] := by
  refine ⟨_, 1, 1, rfl, by decide, (fun h => by cases h), rfl, fun _ => ⟨b, 0, rfl, blk_lt h, fun j hj => ?_⟩⟩
  match j, hj with
  | 0, _ => exact ⟨[bcell x], rfl, fun i hi => by (obtain rfl : i = 0 := by omega); rw [blk_cell h]; rfl, rfl⟩
theorem rb_nil (w : World) : rB w [.slice none 0 0] [] := ⟨none, 0, 0, rfl, by decide, fun _ => rfl, rfl, fun h => by omega⟩
/-- The node that works writes lies in four blocks. -/
theorem xW_read (w : World) : rNode ((((w.alloc (.cells #[.int .u8 97] 5 (1, 2))).alloc (.cells #[.int .u8 120] 5 (1, 2))).alloc (.cells #[.int .u8 98] 5 (1, 2))).alloc (.cells #[.slice (some ⟨w.heap.size, 0, none⟩) 1 1, .slice (some ⟨w.heap.size + 1, 0, none⟩) 1 1, .int .i64 0, .int .i64 1, .slice (some ⟨w.heap.size + 2, 0, none⟩) 1 1, .slice none 0 0, .int .i64 9, .int .i64 100] 61)) [.bool true, .slice (some ⟨w.heap.size + 3, 0, none⟩) 2 2, .slice none 0 0, .slice none 0 0] xW := by
  have h2 := two_new w (.cells #[.int .u8 97] 5 (1, 2)) (.cells #[.int .u8 120] 5 (1, 2))
  have hs2 : ((w.alloc (.cells #[.int .u8 97] 5 (1, 2))).alloc (.cells #[.int .u8 120] 5 (1, 2))).heap.size = w.heap.size + 2 := by simp
  have h3 := blk_new ((w.alloc (.cells #[.int .u8 97] 5 (1, 2))).alloc (.cells #[.int .u8 120] 5 (1, 2))) (.cells #[.int .u8 98] 5 (1, 2))
  rw [hs2] at h3
  have hs3 : (((w.alloc (.cells #[.int .u8 97] 5 (1, 2))).alloc (.cells #[.int .u8 120] 5 (1, 2))).alloc (.cells #[.int .u8 98] 5 (1, 2))).heap.size = w.heap.size + 3 := by simp
  have h4 := blk_new (((w.alloc (.cells #[.int .u8 97] 5 (1, 2))).alloc (.cells #[.int .u8 120] 5 (1, 2))).alloc (.cells #[.int .u8 98] 5 (1, 2))) (.cells #[.slice (some ⟨w.heap.size, 0, none⟩) 1 1, .slice (some ⟨w.heap.size + 1, 0, none⟩) 1 1, .int .i64 0, .int .i64 1, .slice (some ⟨w.heap.size + 2, 0, none⟩) 1 1, .slice none 0 0, .int .i64 9, .int .i64 100] 61)
  rw [hs3] at h4
  have r0 := rb_block (x := 97) (blk_alloc (blk_alloc h2.1 (.cells #[.int .u8 98] 5 (1, 2))) (.cells #[.slice (some ⟨w.heap.size, 0, none⟩) 1 1, .slice (some ⟨w.heap.size + 1, 0, none⟩) 1 1, .int .i64 0, .int .i64 1, .slice (some ⟨w.heap.size + 2, 0, none⟩) 1 1, .slice none 0 0, .int .i64 9, .int .i64 100] 61))
  have r1 := rb_block (x := 120) (blk_alloc (blk_alloc h2.2 (.cells #[.int .u8 98] 5 (1, 2))) (.cells #[.slice (some ⟨w.heap.size, 0, none⟩) 1 1, .slice (some ⟨w.heap.size + 1, 0, none⟩) 1 1, .int .i64 0, .int .i64 1, .slice (some ⟨w.heap.size + 2, 0, none⟩) 1 1, .slice none 0 0, .int .i64 9, .int .i64 100] 61))
  have r2 := rb_block (x := 98) (blk_alloc h3 (.cells #[.slice (some ⟨w.heap.size, 0, none⟩) 1 1, .slice (some ⟨w.heap.size + 1, 0, none⟩) 1 1, .int .i64 0, .int .i64 1, .slice (some ⟨w.heap.size + 2, 0, none⟩) 1 1, .slice none 0 0, .int .i64 9, .int .i64 100] 61))
  refine ⟨_, _, _, _, rfl, rfl, ⟨_, 2, 2, rfl, by decide, (fun h => by cases h), rfl, fun _ => ⟨w.heap.size + 3, 0, rfl, blk_lt h4, fun j hj => ?_⟩⟩, ⟨none, 0, 0, rfl, by decide, fun _ => rfl, rfl, fun h => by omega⟩, ⟨none, 0, 0, rfl, by decide, fun _ => rfl, rfl, fun h => by omega⟩⟩
  match j, hj with
  | 0, _ =>
    refine ⟨[.slice (some ⟨w.heap.size, 0, none⟩) 1 1, .slice (some ⟨w.heap.size + 1, 0, none⟩) 1 1, .int .i64 0, .int .i64 1], rfl, fun i hi => ?_, ⟨_, _, _, _, rfl, r0, r1, ⟨rfl, wf_small (n := 0) (by omega) (by omega)⟩, ⟨rfl, wf_small (n := 1) (by omega) (by omega)⟩⟩⟩
    rw [blk_cell h4]
    match i, hi with
    | 0, _ => rfl
    | 1, _ => rfl
    | 2, _ => rfl
    | 3, _ => rfl
  | 1, _ =>
    refine ⟨[.slice (some ⟨w.heap.size + 2, 0, none⟩) 1 1, .slice none 0 0, .int .i64 9, .int .i64 100], rfl, fun i hi => ?_, ⟨_, _, _, _, rfl, r2, rb_nil _, ⟨rfl, wf_small (n := 9) (by omega) (by omega)⟩, ⟨rfl, wf_small (n := 100) (by omega) (by omega)⟩⟩⟩
    rw [blk_cell h4]
    match i, hi with
    | 0, _ => rfl
    | 1, _ => rfl
    | 2, _ => rfl
    | 3, _ => rfl

theorem e_read (w : World) : rNode w [.bool true, .slice none 0 0, .slice none 0 0, .slice none 0 0] (true, [], [], []) :=
  (OwnNode.mk (T := 61) (B := 0) rfl ⟨[], OwnCells.nil _ _ _⟩ ⟨[], OwnKeys.nil _ _⟩ (OwnKids.nil _ _)).read (x := (true, [], [], [])) ⟨by decide, by decide, by decide, by simp, by simp, by simp⟩

set_option maxRecDepth 100000 in
set_option maxHeartbeats 3200000 in
theorem works_calls (w : World) : Calls Try.prog 31 #[] w (Tells w (.bool true)) := by
  have HOW := Asd.mk (xW_read w)
  have HB0 : Asd (Below w.heap.size w ((((w.alloc (.cells #[.int .u8 97] 5 (1, 2))).alloc (.cells #[.int .u8 120] 5 (1, 2))).alloc (.cells #[.int .u8 98] 5 (1, 2))).alloc (.cells #[.slice (some ⟨w.heap.size, 0, none⟩) 1 1, .slice (some ⟨w.heap.size + 1, 0, none⟩) 1 1, .int .i64 0, .int .i64 1, .slice (some ⟨w.heap.size + 2, 0, none⟩) 1 1, .slice none 0 0, .int .i64 9, .int .i64 100] 61))) := Asd.mk (below_alloc (below_alloc (below_alloc (below_alloc (Below.refl _ _) _) _) _) _)
  have e1 := Go.Lib.run_convert_bytes_const (P := Try.prog) w 31 5 #[.int .u8 97] 1 1 Try.underlying31 Try.underlying5
  have e2 := Go.Lib.run_convert_bytes_const (P := Try.prog) (w.alloc (.cells #[.int .u8 97] 5 (1, 2))) 31 5 #[.int .u8 120] 1 1 Try.underlying31 Try.underlying5
  have e3 := Go.Lib.run_convert_bytes_const (P := Try.prog) ((w.alloc (.cells #[.int .u8 97] 5 (1, 2))).alloc (.cells #[.int .u8 120] 5 (1, 2))) 31 5 #[.int .u8 98] 1 1 Try.underlying31 Try.underlying5
  simp at e1 e2 e3
  go_enter Try.func31, Try.ntmps31
  go_wp2_with fail
  refine (encode_calls _ _ _ _ xW _ HOW.out).mono ?_
  rintro e w2 ⟨va, rfl, hoa, hb⟩
  rw [xW_check]
  obtain ⟨Aa, ca, rfl⟩ := own_form hoa
  rw [xW_len] at hoa ⊢
  have hom := own_m hoa xW_len.symm
  obtain ⟨gb, cur, rfl, hbg, hh, _⟩ := own_cell hom 0 (by omega)
  have hRA := own_reads hom (by omega)
  have HRA := Asd.mk hRA.1
  have hca := hRA.2.2
  have hgb := blk_lt hh
  have HB2 : Asd (Below w.heap.size w w2) := Asd.mk (HB0.out.trans (hb.mono HB0.out.size))
  clear hoa hom hbg hh hb hRA HOW HB0 e1 e2 e3
  generalize hxb : encB xW = xb at HRA
  have HXB := Asd.mk hxb
  clear hxb
  have hca14 : 14 ≤ ca := by omega
  have hca15 : (14 : Int) ≤ (ca : Int) := by omega
  generalize hsk : (⟨#[1, 2, 0, 1, 97, 1, 0, 120, 1, 98, 100, 0, 9, 0]⟩ : ByteArray) = sk
  have HS : Asd (∀ w', Below w2.heap.size w2 w' → (convert 31 9 (.slice (some ⟨gb, 0, none⟩) 14 ca)).run Try.prog w' = .ok (.string sk) w' ∧ Below w2.heap.size w2 w') := Asd.mk fun w' hb => by
    have h1 := bytes_take (HRA.out.below hb) 14 (by omega)
    rw [← HXB.out, xW_take] at h1
    have h2 := conv_b ca h1
    rw [← hsk]
    exact ⟨h2, hb⟩
  have k2 : (convert 31 9 (.slice (some ⟨w2.heap.size, 0, none⟩) 14 14)).run Try.prog (w2.alloc (.cells #[.int .u8 1, .int .u8 2, .int .u8 0, .int .u8 1, .int .u8 97, .int .u8 1, .int .u8 0, .int .u8 120, .int .u8 1, .int .u8 98, .int .u8 100, .int .u8 0, .int .u8 9, .int .u8 0] 5)).drew = .ok (.string sk) (w2.alloc (.cells #[.int .u8 1, .int .u8 2, .int .u8 0, .int .u8 1, .int .u8 97, .int .u8 1, .int .u8 0, .int .u8 120, .int .u8 1, .int .u8 98, .int .u8 100, .int .u8 0, .int .u8 9, .int .u8 0] 5)).drew := by
    have h := (IsBytes.new w2 [1, 2, 0, 1, 97, 1, 0, 120, 1, 98, 100, 0, 9, 0] 5 (by simp)).below (w' := (w2.alloc (.cells #[.int .u8 1, .int .u8 2, .int .u8 0, .int .u8 1, .int .u8 97, .int .u8 1, .int .u8 0, .int .u8 120, .int .u8 1, .int .u8 98, .int .u8 100, .int .u8 0, .int .u8 9, .int .u8 0] 5)).drew) (Below.refl _ _).drew
    have h2 := conv_b 14 h
    rw [← hsk]
    exact h2
  clear hsk
  go_upto_region 2 with fail
  rw [show Op.convert 31 9 (.tmp 30) = id (Op.convert 31 9 (.tmp 30)) from rfl]
  go_region_held3 (fun w' => (convert 31 9 (.slice (some ⟨gb, 0, none⟩) 14 ca)).run Try.prog w' = .ok (.string sk) w' ∧ Below w2.heap.size w2 w')
    (first
      | exact HS.out _ (Below.refl _ _).drew
      | exact HS.out _ (below_alloc (Below.refl _ _).drew _)
      | fail)
    (fail)
  have hb3 : Below w2.heap.size w2 (w2.alloc (.cells #[.int .u8 1, .int .u8 2, .int .u8 0, .int .u8 1, .int .u8 97, .int .u8 1, .int .u8 0, .int .u8 120, .int .u8 1, .int .u8 98, .int .u8 100, .int .u8 0, .int .u8 9, .int .u8 0] 5)).drew := (below_alloc (Below.refl _ _) _).drew
  generalize (w2.alloc (.cells #[.int .u8 1, .int .u8 2, .int .u8 0, .int .u8 1, .int .u8 97, .int .u8 1, .int .u8 0, .int .u8 120, .int .u8 1, .int .u8 98, .int .u8 100, .int .u8 0, .int .u8 9, .int .u8 0] 5)).drew = w3 at hb3 ⊢
  have HB3 : Asd (Below w.heap.size w w3) := Asd.mk (HB2.out.trans (hb3.mono HB2.out.size))
  have HRA3 := Asd.mk (HRA.out.below hb3)
  have hgb3 : gb < w3.heap.size := Nat.lt_of_lt_of_le hgb hb3.size
  clear hb3 k2 HS HRA hgb
  go_wp2_with fail
  refine (decode_calls gb 0 ca xb w3 HRA3.out hca hgb3).mono ?_
  rintro e w4 ⟨hb4, hm⟩
  rw [← HXB.out, xW_back] at hm
  obtain ⟨v0, v1, v2, v3, rfl, hon⟩ := hm
  have hrn := hon.read xW_sane
  obtain ⟨A1, n1, c1, A2, n2, c2, A3, n3, c3, rfl, rfl, rfl, rfl, hna⟩ := node_of hrn
  have hn1 : n1 = 2 := hna.cells.1.symm
  subst hn1
  obtain ⟨b, o, Ak, nk, ck, Av, nv, cv, rfl, hbl, q0, q1, q2, q3, _⟩ := cell_at hna.cells 1 (by decide)
  have HB4 : Asd (Below w.heap.size w w4) := Asd.mk (HB3.out.trans (hb4.mono HB3.out.size))
  have q6 : w4.cell? ⟨b, o + 6, none⟩ = some (.int .i64 9) := q2
  have q42 : w4.cell? ⟨b, o + 4 + 2, none⟩ = some (.int .i64 9) := q2
  have HL : Asd (xW.1 = true) := Asd.mk rfl
  rw [HL.out]
  clear hb4 hon hrn hna q0 q1 q2 q3
  go_wp2_with fail
  refine (check_calls _ _ _ _ (true, [], [], []) _ (e_read _)).mono ?_
  rintro e w5 ⟨rfl, hb5⟩
  rw [e_check]
  have HB5 : Asd (Below w.heap.size w w5) := Asd.mk ((HB4.out.alloc HB4.out.size _).trans (hb5.mono (by have := HB4.out.size; simp; omega)))
  clear hb5
  go_wp2
  go_ret
  exact ⟨rfl, HB5.out⟩
end Go.Proofs.Ytnohhmopiflboaa.Nod
