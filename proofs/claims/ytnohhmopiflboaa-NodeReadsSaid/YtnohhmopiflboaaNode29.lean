/- NodePieces: the walk. -/
import Derived.Test.YtnohhmopiflboaaNode28
set_option linter.unusedVariables false
set_option linter.unusedSimpArgs false
namespace Go.Proofs.Ytnohhmopiflboaa.Nod
open Go.RowKit Go.Proofs.Ytnohhmopiflboaa.Base Go.Proofs.Ytnohhmopiflboaa.Byt Go.Proofs.Ytnohhmopiflboaa.Rd Go.Proofs.Ytnohhmopiflboaa.App

/-- What a row of the call's own is to a reader. -/
theorem own_reads {w : World} {B : Nat} {A : Option Addr} {m c : Nat} {xs : PB} (h : OwnM w B A m c xs) (hm : m ≤ 140737488351232) : IsBytes w A m xs ∧ (A = none → c = 0) ∧ m ≤ c := by
  refine ⟨h.bytes hm, ?_, ?_⟩
  · rcases h.2 with ⟨he, _⟩ | ⟨g, cap, cur, he, _⟩
    · injection he with h1 h2 h3; intro _; exact h3
    · injection he with h1 h2 h3; intro hn; rw [hn] at h1; cases h1
  · rcases h.2 with ⟨he, _⟩ | ⟨g, cap, cur, he, _, _, hc, _⟩
    · injection he with h1 h2 h3; omega
    · injection he with h1 h2 h3; omega

theorem byte_num {k : Int} (h0 : 0 ≤ k) (h1 : k < 65536) : (UInt8.ofNat (k % 256).toNat).toNat + 256 * (UInt8.ofNat (k / 256 % 256).toNat).toNat = k.toNat := by
  rw [UInt8.toNat_ofNat', UInt8.toNat_ofNat']
  omega
theorem piece_open {xs : PB} {next : Int} (h : pieceOk xs.length next = true) :
    openOk (pieceB xs next) = true ∧ (at2 (pieceB xs next) 1 : Int) = next ∧ ((pieceB xs next).drop 5).take (at2 (pieceB xs next) 3) = xs ∧ (pieceB xs next).length = 508 ∧ (pieceB xs next).getD 0 0 = 3 := by
  simp only [pieceOk, Bool.and_eq_true, Bool.or_eq_true, decide_eq_true_eq] at h
  obtain ⟨⟨h1, h2⟩, h3⟩ := h
  have hnx : 0 ≤ next ∧ next < 4096 := by
    rcases h3 with h | h
    · omega
    · exact page_pos h
  have e : pieceB xs next = 3 :: UInt8.ofNat (next % 256).toNat :: UInt8.ofNat (next / 256 % 256).toNat :: UInt8.ofNat ((xs.length : Int) % 256).toNat :: UInt8.ofNat ((xs.length : Int) / 256 % 256).toNat :: (xs ++ noughts (503 - xs.length)) := by
    have : 508 - (xs.length + 2 + 2 + 1) = 503 - xs.length := by omega
    simp [pieceB, padB, le2, this]
  have a1 : at2 (pieceB xs next) 1 = next.toNat := by
    rw [e]
    exact byte_num hnx.1 (by omega)
  have a3 : at2 (pieceB xs next) 3 = xs.length := by
    rw [e]
    have := byte_num (k := (xs.length : Int)) (by omega) (by omega)
    exact this.trans (by omega)
  have d5 : (pieceB xs next).drop 5 = xs ++ noughts (503 - xs.length) := by rw [e]; rfl
  have hlen : (pieceB xs next).length = 508 := by rw [e]; simp [noughts]; omega
  have h00 : (pieceB xs next).getD 0 0 = 3 := by rw [e]; rfl
  have hz : zeros ((pieceB xs next).drop (5 + xs.length)) = true := by
    rw [← List.drop_drop, d5]
    simp [zeros, noughts]
  have hpg : (decide (next.toNat = 0) || isPage (next.toNat : Int)) = true := by
    have : ((next.toNat : Nat) : Int) = next := by omega
    rw [this]
    rcases h3 with h | h
    · simp [h]
    · simp [h]
  refine ⟨?_, by rw [a1]; omega, by rw [a3, d5]; simp, hlen, h00⟩
  unfold openOk
  rw [hlen, h00, a1, a3, hz, hpg]
  simp
  omega

set_option maxRecDepth 100000 in
set_option maxHeartbeats 3200000 in
theorem law_pieces (A : Option Addr) (n c : Nat) (xs : PB) (next : Int) (w : World) (h : IsBytes w A n xs) (hc : A = none → c = 0) :
    Calls Try.prog 6 #[.slice A n c, .int .i64 next] w (Tells w (.bool true)) := by
  have hl := h.1
  have hn := h.2.1
  have HD := Asd.mk h
  have HC := Asd.mk hc
  clear h hc
  go_enter Try.func6, Try.ntmps6
  go_wp2_with fail
  refine (clone_calls A n c xs w HD.out HC.out).mono ?_
  rintro e w1 ⟨v, rfl, ho, hf⟩
  obtain ⟨A1, c1, rfl⟩ := own_form ho
  rw [hl] at ho ⊢
  have HO := Asd.mk (own_m ho hl.symm)
  have HB1 : Asd (Below w.heap.size w w1) := Asd.mk (hf.below (fun _ h => h.elim))
  have HR1 := Asd.mk (own_reads HO.out hn)
  clear ho hf
  go_wp2_with fail
  refine (piece_calls A1 n c1 xs next w1 HR1.out.1 HR1.out.2.1).mono ?_
  rintro e w2 ⟨va, rfl, hoa, hb2⟩
  obtain ⟨Aa, ca, rfl⟩ := own_form hoa
  have HOA := Asd.mk (own_m hoa rfl)
  have HB2 : Asd (Below w.heap.size w w2) := Asd.mk (HB1.out.trans (hb2.mono HB1.out.size))
  have HO2 := Asd.mk (HO.out.old hb2)
  clear hoa hb2
  go_wp2_with fail
  refine (rpiece_calls A n c xs next w2 (HD.out.below HB2.out) HC.out).mono ?_
  rintro e w3 ⟨vb, rfl, hob, hb3⟩
  obtain ⟨Ab, cb, rfl⟩ := own_form hob
  have HOB := Asd.mk (own_m hob rfl)
  have HB3 : Asd (Below w.heap.size w w3) := Asd.mk (HB2.out.trans (hb3.mono HB2.out.size))
  have HO3 := Asd.mk (HO2.out.old hb3)
  have HOA3 := Asd.mk (HOA.out.old hb3)
  clear hob hb3
  have hla : (pieceL xs next).length ≤ 140737488351232 := by
    unfold pieceL
    split
    · rename_i hp
      simp only [pieceOk, Bool.and_eq_true, Bool.or_eq_true, decide_eq_true_eq] at hp
      have := hp.1.2
      simp only [pieceB, padB, noughts, List.length_append, List.length_replicate, List.length_cons, le2_len]; omega
    · simp
  have k1 := conv_b ca (HOA3.out.bytes hla)
  have k2 := conv_b cb (HOB.out.bytes hla)
  have k3 := conv_b c1 (HO3.out.bytes hn)
  have k4 := conv_b c (HD.out.below HB3.out)
  generalize hsa : (⟨(pieceL xs next).toArray⟩ : ByteArray) = sa at k1 k2
  generalize hsx : (⟨xs.toArray⟩ : ByteArray) = sx at k3 k4
  have HSX := Asd.mk hsx
  clear hsa hsx hla
  cases hok : pieceOk xs.length next with
  | false =>
    have HN : Asd (pieceN xs next = 3) := Asd.mk (by simp [pieceN, hok])
    clear hok
    rw [HN.out]
    generalize (pieceL xs next).length = la at k1 k2 ⊢
    go_wp2
    go_ret
    exact ⟨rfl, HB3.out⟩
  | true =>
    have HN : Asd (pieceN xs next = 0) := Asd.mk (by simp [pieceN, hok])
    have HL : Asd (pieceL xs next = pieceB xs next) := Asd.mk (by simp [pieceL, hok])
    have HPO := Asd.mk (piece_open hok)
    clear hok
    rw [HN.out]
    have hlen : (pieceL xs next).length = 508 := by rw [HL.out]; exact HPO.out.2.2.2.1
    have hoa : OwnM w3 w1.heap.size Aa 508 ca (pieceB xs next) := by have := HOA3.out; rw [HL.out] at this; rw [HPO.out.2.2.2.1] at this; exact this
    rw [hlen] at k1 k2 ⊢
    obtain ⟨gb, cur, rfl, hbg, hh, _⟩ := own_cell hoa 0 (by omega)
    have hRA := own_reads hoa (by omega)
    have hgb := blk_lt hh
    have HRA := Asd.mk hRA.1
    have hca := hRA.2.2
    clear hlen hoa hh hbg hRA
    go_wp2_with fail
    refine (open_calls gb 0 508 ca (pieceB xs next) w3 HRA.out hca).mono ?_
    rintro e w4 ⟨vc, rfl, hoc, hb4⟩
    rw [if_pos HPO.out.1, if_pos HPO.out.1]
    rw [if_pos HPO.out.1, HPO.out.2.2.1] at hoc
    rw [HPO.out.2.1]
    obtain ⟨Ac, cc, rfl⟩ := own_form hoc
    have hoc2 := own_m hoc rfl
    rw [hl] at hoc2 ⊢
    have HOC := Asd.mk hoc2
    have HB4 : Asd (Below w.heap.size w w4) := Asd.mk (HB3.out.trans (hb4.mono HB3.out.size))
    have HRA4 := Asd.mk (HRA.out.below hb4)
    have hgb4 : gb < w4.heap.size := Nat.lt_of_lt_of_le hgb hb4.size
    clear hoc hoc2 hb4
    go_wp2_with fail
    refine (decode_kind gb 0 ca (pieceB xs next) w4 HRA4.out hca hgb4 (by rw [HPO.out.2.2.2.2]; decide) (by rw [HPO.out.2.2.2.2]; decide)).mono ?_
    rintro e w5 ⟨rfl, hb5⟩
    have HB5 : Asd (Below w.heap.size w w5) := Asd.mk (HB4.out.trans (hb5.mono HB4.out.size))
    have HOC5 := Asd.mk (HOC.out.old hb5)
    clear hb5
    have k5 := conv_b cc ((HOC5.out.alloc (.cells #[.bool false, .slice none 0 0, .slice none 0 0, .slice none 0 0] 29)).bytes hn)
    have k6 := conv_b c (HD.out.below (below_alloc HB5.out (.cells #[.bool false, .slice none 0 0, .slice none 0 0, .slice none 0 0] 29)))
    rw [HSX.out] at k5 k6
    have HB6 := Asd.mk (below_alloc HB5.out (.cells #[.bool false, .slice none 0 0, .slice none 0 0, .slice none 0 0] 29))
    go_wp2
    go_ret
    exact ⟨rfl, HB6.out⟩

set_option maxRecDepth 100000 in
/-- Bytes that came in, as the walks read them. -/
theorem b_open {H : Type} {enc : TypeId × Value → H} (W : World) (v : Value) (d : DataW H) (p : List MemPlace) (h : DataW.Trod enc Try.prog W 0 (fun _ => true) true 31 v d p) {base : Nat} (ok : Value.okWide Try.prog W .any base 31 v)
    (wt : ∀ k ∈ d.weights Try.prog 31, k ≤ reachBytes) : ∃ A n c xs, v = .slice A n c ∧ IsBytes W A n xs ∧ (A = none → c = 0) := by
  obtain ⟨fuel, hf⟩ := h
  obtain ⟨xs, hx⟩ := opens_b H enc W fuel _ d p hf wt
  obtain ⟨A', n', c', rfl⟩ := Go.WideShapes.okWide_slice Try.underlying31 ok
  obtain ⟨A, n, c, e, ib, hz, _⟩ := b_of (c := .slice A' n' c') (by simpa [Value.cells] using hx)
  injection e with e1 e2 e3
  subst e1 e2 e3
  exact ⟨_, _, _, xs, rfl, ib, hz⟩
set_option maxRecDepth 100000 in
theorem pieces_open {H : Type} {enc : TypeId × Value → H} (W : World) (v : Value) (d : DataW H) (p : List MemPlace) {base : Nat} (ok : Value.okWide Try.prog W .any base 31 v) (h : DataW.Trod enc Try.prog W 0 (fun _ => true) true 31 v d p)
    (wt : ∀ k ∈ d.weights Try.prog 31, k ≤ reachBytes) (a : Int) (wa : (Lit.int .i64 a).wf = true) : Calls Try.prog 6 #[v, .int .i64 a] W (Tells W (.bool true)) := by
  obtain ⟨A, n, c, xs, rfl, ib, hz⟩ := b_open W v d p h ok wt
  exact law_pieces A n c xs a W ib hz
end Go.Proofs.Ytnohhmopiflboaa.Nod
