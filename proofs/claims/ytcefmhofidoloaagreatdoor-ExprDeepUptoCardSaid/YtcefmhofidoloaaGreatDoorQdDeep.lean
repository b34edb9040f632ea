/- ExprDeep: the walk. -/
import Derived.Test.YtcefmhofidoloaaGreatDoorQc10
import Derived.Test.YtcefmhofidoloaaGreatDoorQdDeepQ
set_option linter.unusedVariables false
set_option linter.unusedSimpArgs false
namespace Go.Proofs.YtcefmhofidoloaaGreatDoor.Exp
open Go.RowKit Go.Proofs.YtcefmhofidoloaaGreatDoor.Base Go.Proofs.YtcefmhofidoloaaGreatDoor.App Go.Proofs.YtcefmhofidoloaaGreatDoor.Byt Go.Proofs.YtcefmhofidoloaaGreatDoor.Lex Go.Proofs.YtcefmhofidoloaaGreatDoor.Rd

theorem kd_in {xs : List Int} {k : Nat} (h : k < xs.length) : kdOf xs k = d3 (xs[k]'h) := by unfold kdOf; rw [List.getElem?_eq_getElem h]
theorem kd_out {xs : List Int} {k : Nat} (h : xs.length ≤ k) : kdOf xs k = 0 := by unfold kdOf; rw [List.getElem?_eq_none h]
/-- What the first loop has gathered. -/
structure Gat (xs : List Int) (k : Nat) (sa sb : ByteArray) : Prop where
  a : sa.data.toList = ahT (kds xs k)
  b : sb.data.toList = bhT k
  la : sa.size ≤ 5 * k
  lb : sb.size ≤ k
theorem Gat.start (xs : List Int) : Gat xs 0 ⟨#[]⟩ ⟨#[]⟩ := ⟨rfl, rfl, by decide, by decide⟩
theorem Gat.step {xs : List Int} {k : Nat} {sa sb : ByteArray} (h : Gat xs k sa sb) (t : ByteArray) (ht : t.data.toList = aheadT (kdOf xs k)) : Gat xs (k + 1) (sa ++ t) (sb ++ ⟨#[41]⟩) := by
  have hl : t.size ≤ 5 := by
    have := aheadT_len (kdOf xs k)
    rw [← ht] at this
    exact this
  have h1 : (⟨#[41]⟩ : ByteArray).size = 1 := rfl
  refine ⟨?_, ?_, ?_, ?_⟩
  · rw [ByteArray.data_append, Array.toList_append, h.a, ht, kds_succ, ahT_snoc]
  · rw [ByteArray.data_append, Array.toList_append, h.b, bhT_succ]
  · rw [ByteArray.size_append]; have := h.la; omega
  · rw [ByteArray.size_append, h1]; have := h.lb; omega

set_option maxRecDepth 100000 in
set_option maxHeartbeats 12800000 in
theorem deep_calls (A : Option Addr) (len cap : Nat) (xs : List Int) (n : Int) (chain : Int) (w : World) (hsl : IsSl (rInt .i64) 1 w A len xs) (hlen : len ≤ 140737488351232) (hl : LexW w) (he : EtyW w) (hp : Lib.TabIs Tryz.prog w "internal/strconv.uint64pow10" .u64 Lib.pow10Tab) :
    Calls Tryz.prog 6 #[.slice A len cap, .int .i64 n, .int .i64 chain] w fun e w' => e = .returned (.bool true) ∧ Below w.heap.size w w' := by
  obtain ⟨m, hm, hmx⟩ := rem40 n
  obtain ⟨c, hc, hcx⟩ := rem300 chain
  have HSL := Asd.mk hsl
  have HXL := Asd.mk hsl.1
  have HW : Asd (LawW w) := Asd.mk ⟨hl, he, hp⟩
  clear hsl hl he hp
  go_enter Tryz.func6, Tryz.ntmps6
  go_wp2_with fail
  refine (works13_calls w HW.out).mono ?_
  rintro e w0 ⟨rfl, hb0⟩
  have HB0 := Asd.mk hb0
  have HW0 := Asd.mk (HW.out.below hb0)
  have HSL0 := Asd.mk (HSL.out.below (lasts_int .i64) hb0)
  clear hb0 HSL
  go_wp2_with fail
  go_loopw [7, 8, 9] (fun v7 v8 v9 wr => ∃ (k : Nat) (sa sb : ByteArray), k ≤ m ∧ v7 = .string sa ∧ v8 = .string sb ∧ v9 = .int .i64 (k : Int) ∧ Asd (Gat xs k sa sb) ∧ w0 = wr) (fun _ _ v9 _ => m - (intOf v9).toNat)
  case atStart => exact ⟨0, ⟨#[]⟩, ⟨#[]⟩, by omega, rfl, rfl, rfl, ⟨Gat.start xs⟩, rfl⟩
  case round =>
    obtain ⟨k, sa, sb, hk, rfl, rfl, rfl, HG, rfl⟩ := hrel
    have hla := HG.out.la
    have hlb := HG.out.lb
    by_cases hlt : k < m
    · by_cases hin : k < len
      · obtain ⟨g, o, rfl, hglt, hcl⟩ := HSL0.out.2 (by omega)
        obtain ⟨es, he1, he2, he3, _⟩ := hcl k (by rw [HXL.out]; exact hin)
        have hx := he2 0 (by omega)
        rw [he3] at hx
        have HKD := Asd.mk (kd_in (xs := xs) (k := k) (by rw [HXL.out]; exact hin))
        generalize xs[k]'(by rw [HXL.out]; exact hin) = x at hx HKD
        clear he1 he2 he3 hcl
        simp only [List.getElem?_cons_zero, Nat.mul_one, Nat.add_zero] at hx
        rcases d3_lt x with h0 | h0 | h0
        · have HS := Asd.mk (HG.out.step ⟨#[40]⟩ (by rw [HKD.out, h0]; rfl))
          have hd : wrap64 ((IntKind.u64.wrap x).tmod 3) = (0 : Int) := by rw [d3_eq, h0]; rfl
          clear h0 HG
          go_wp2
          go_roundw
          case rel => exact ⟨k + 1, _, _, by omega, rfl, rfl, by go_num, HS, by first | rfl | trivial⟩
          case measure => simp [intOf]; omega
        · have HS := Asd.mk (HG.out.step ⟨#[97, 98, 115, 40]⟩ (by rw [HKD.out, h0]; rfl))
          have hd : wrap64 ((IntKind.u64.wrap x).tmod 3) = (1 : Int) := by rw [d3_eq, h0]; rfl
          clear h0 HG
          go_wp2
          go_roundw
          case rel => exact ⟨k + 1, _, _, by omega, rfl, rfl, by go_num, HS, by first | rfl | trivial⟩
          case measure => simp [intOf]; omega
        · have HS := Asd.mk (HG.out.step ⟨#[40, 110, 111, 116, 32]⟩ (by rw [HKD.out, h0]; rfl))
          have hd : wrap64 ((IntKind.u64.wrap x).tmod 3) = (2 : Int) := by rw [d3_eq, h0]; rfl
          clear h0 HG
          go_wp2
          go_roundw
          case rel => exact ⟨k + 1, _, _, by omega, rfl, rfl, by go_num, HS, by first | rfl | trivial⟩
          case measure => simp [intOf]; omega
      · have HS := Asd.mk (HG.out.step ⟨#[40]⟩ (by rw [kd_out (by rw [HXL.out]; omega)]; rfl))
        clear HG
        go_wp2
        go_roundw
        case rel => exact ⟨k + 1, _, _, by omega, rfl, rfl, by go_num, HS, by first | rfl | trivial⟩
        case measure => simp [intOf]; omega
    · obtain rfl : k = m := by omega
      clear hlt hk
      go_wp2_with fail
      go_loopw [11, 12] (fun v11 v12 wr => ∃ (q : Nat), q ≤ k ∧ v11 = .int .i64 (dep (kds xs q) : Nat) ∧ v12 = .int .i64 (q : Int) ∧ w0 = wr) (fun _ v12 _ => k - (intOf v12).toNat)
      case atStart => exact ⟨0, by omega, rfl, rfl, rfl⟩
      case round =>
        obtain ⟨q, hq, rfl, rfl, rfl⟩ := hrel
        have hdl : dep (kds xs q) ≤ 80 := by have := dep_le (kds xs q); rw [kds_len] at this; omega
        have HDS : Asd (dep (kds xs (q + 1)) = dep (kds xs q) + depK (kdOf xs q)) := Asd.mk (by rw [kds_succ, dep_snoc])
        by_cases hlt : q < k
        · by_cases hin : q < len
          · obtain ⟨g, o, rfl, hglt, hcl⟩ := HSL0.out.2 (by omega)
            obtain ⟨es, he1, he2, he3, _⟩ := hcl q (by rw [HXL.out]; exact hin)
            have hx := he2 0 (by omega)
            rw [he3] at hx
            have HKD := Asd.mk (kd_in (xs := xs) (k := q) (by rw [HXL.out]; exact hin))
            generalize xs[q]'(by rw [HXL.out]; exact hin) = x at hx HKD
            clear he1 he2 he3 hcl
            simp only [List.getElem?_cons_zero, Nat.mul_one, Nat.add_zero] at hx
            rcases d3_lt x with h0 | h0 | h0
            · have HE : Asd (dep (kds xs (q + 1)) = dep (kds xs q) + 1) := Asd.mk (by rw [HDS.out, HKD.out, h0]; rfl)
              have hd : wrap64 ((IntKind.u64.wrap x).tmod 3) = (0 : Int) := by rw [d3_eq, h0]; rfl
              clear h0 HDS
              generalize dep (kds xs q) = dq at hdl HE ⊢
              go_wp2
              go_roundw
              case rel => exact ⟨q + 1, by omega, by rw [HE.out]; go_num, by go_num, by first | rfl | trivial⟩
              case measure => simp [intOf]; omega
            · have HE : Asd (dep (kds xs (q + 1)) = dep (kds xs q) + 1) := Asd.mk (by rw [HDS.out, HKD.out, h0]; rfl)
              have hd : wrap64 ((IntKind.u64.wrap x).tmod 3) = (1 : Int) := by rw [d3_eq, h0]; rfl
              clear h0 HDS
              generalize dep (kds xs q) = dq at hdl HE ⊢
              go_wp2
              go_roundw
              case rel => exact ⟨q + 1, by omega, by rw [HE.out]; go_num, by go_num, by first | rfl | trivial⟩
              case measure => simp [intOf]; omega
            · have HE : Asd (dep (kds xs (q + 1)) = dep (kds xs q) + 2) := Asd.mk (by rw [HDS.out, HKD.out, h0]; rfl)
              have hd : wrap64 ((IntKind.u64.wrap x).tmod 3) = (2 : Int) := by rw [d3_eq, h0]; rfl
              clear h0 HDS
              generalize dep (kds xs q) = dq at hdl HE ⊢
              go_wp2
              go_roundw
              case rel => exact ⟨q + 1, by omega, by rw [HE.out]; go_num, by go_num, by first | rfl | trivial⟩
              case measure => simp [intOf]; omega
          · have HE : Asd (dep (kds xs (q + 1)) = dep (kds xs q) + 1) := Asd.mk (by rw [HDS.out, kd_out (by rw [HXL.out]; omega)]; rfl)
            clear HDS
            generalize dep (kds xs q) = dq at hdl HE ⊢
            go_wp2
            go_roundw
            case rel => exact ⟨q + 1, by omega, by rw [HE.out]; go_num, by go_num, by first | rfl | trivial⟩
            case measure => simp [intOf]; omega
        · obtain rfl : q = k := by omega
          clear hlt hq HDS
          have HDW := Asd.mk (fun c hc => deep_words (kds xs q) c (by rw [kds_len]; exact hm) hc)
          rw [kds_len] at HDW
          generalize dep (kds xs q) = dq at hdl HDW ⊢
          go_wp2_with fail
          go_loopw [13, 14] (fun v13 v14 wr => ∃ (p : Nat) (s : ByteArray), p ≤ c ∧ v13 = .string s ∧ v14 = .int .i64 (p : Int) ∧ Asd (s.data.toList = coreT p) ∧ w0 = wr) (fun _ v14 _ => c - (intOf v14).toNat)
          case atStart => exact ⟨0, ⟨#[97]⟩, by omega, rfl, rfl, ⟨rfl⟩, rfl⟩
          case round =>
            obtain ⟨p, s, hp, rfl, rfl, HS, rfl⟩ := hrel
            have hsz : s.size ≤ 1 + 4 * p := by
              have h1 : s.size = s.data.toList.length := rfl
              rw [h1, HS.out, coreT_len]
              omega
            by_cases hlt : p < c
            · have HSN : Asd ((s ++ (⟨#[32, 43, 32, 49]⟩ : ByteArray)).data.toList = coreT (p + 1)) := Asd.mk (by rw [ByteArray.data_append, Array.toList_append, HS.out, coreT_succ])
              go_wp2
              go_roundw
              case rel => exact ⟨p + 1, _, by omega, rfl, by go_num, HSN, by first | rfl | trivial⟩
              case measure => simp [intOf]; omega
            · obtain rfl : p = c := by omega
              clear hlt hp
              have HTX : Asd ((sa ++ s ++ sb).data.toList = ahT (kds xs q) ++ coreT p ++ bhT q) := Asd.mk (by rw [ByteArray.data_append, ByteArray.data_append, Array.toList_append, Array.toList_append, HG.out.a, HS.out, HG.out.b])
              have HD2 := Asd.mk (HDW.out p hc)
              generalize ahT (kds xs q) ++ coreT p ++ bhT q = txt at HTX HD2
              clear HDW HS
              go_wp2_with fail
              generalize sa ++ s ++ sb = st at HTX ⊢
              refine (words_calls st w0 HW0.out.lex).mono ?_
              rintro e w1 ⟨hb1, A1, m1, c1, rfl, ht1⟩
              rw [HTX.out] at ht1
              have HB1 : Asd (Below w.heap.size w w1) := Asd.mk (HB0.out.trans (hb1.mono HB0.out.size))
              have HW1 := Asd.mk (HW0.out.below hb1)
              have HT1 := Asd.mk ht1
              clear hb1 ht1 HTX
              go_wp2_with fail
              refine (read_words A1 m1 c1 txt w1 HW1.out.lex.shaped HT1.out).mono ?_
              rintro e w2 ⟨hb2, hr⟩
              have HB2 : Asd (Below w.heap.size w w2) := Asd.mk (HB1.out.trans (hb2.mono HB1.out.size))
              have HW2 := Asd.mk (HW1.out.below hb2)
              clear hb2 HT1
              by_cases hdeep : dq ≤ 32
              · obtain ⟨x, j, hrd⟩ := HD2.out.1 hdeep
                rw [hrd] at hr
                obtain ⟨sv, rfl, hh⟩ := hr
                obtain ⟨As, cs, rfl⟩ := held_len hh
                clear hrd hh HD2
                unfold exV
                go_wp2
                go_ret
                exact ⟨ret_eq rfl, below_alloc HB2.out _⟩
              · obtain ⟨pp, hrd⟩ := HD2.out.2 (by omega)
                rw [hrd] at hr
                obtain ⟨N, rfl, hN⟩ := hr
                clear hrd HD2
                have hfl : ∀ W, (Instr.field 35 (.agg #[.int .i64 ((pp : Nat) : Int), .int .i64 21]) 1).run Tryz.prog W = .ok (.int .i64 21) W := fun _ => by kernel_rfl
                rw [exV_zero]
                have HBZ : Asd (Below w2.heap.size w2 _) := Asd.mk (below_alloc (Below.refl _ w2) (.cells #[.int .i64 0, .int .i64 0, .int .i64 0, .int .i64 0, .string ⟨#[]⟩, .string ⟨#[]⟩, .string ⟨#[]⟩, .int .i64 0, .int .i64 0, .slice none 0 0] 58 (0, 0)))
                have HN := Asd.mk hN
                clear hN
                go_upto_region 33 with fail
                generalize w2.alloc (.cells #[.int .i64 0, .int .i64 0, .int .i64 0, .int .i64 0, .string ⟨#[]⟩, .string ⟨#[]⟩, .string ⟨#[]⟩, .int .i64 0, .int .i64 0, .slice none 0 0] 58 (0, 0)) = w3 at HBZ ⊢
                have HB3 : Asd (Below w.heap.size w w3) := Asd.mk (HB2.out.trans (HBZ.out.mono HB2.out.size))
                have HW3 := Asd.mk (HW2.out.below HBZ.out)
                have HN3 := Asd.mk (blk_below HBZ.out HN.out)
                go_wp2_with fail
                refine (seen_fault N _ 21 w3 HW3.out.ety HN3.out).mono ?_
                rintro e w4 ⟨rfl, hb4⟩
                have HB4 : Asd (Below w.heap.size w w4) := Asd.mk (HB3.out.trans (hb4.mono HB3.out.size))
                clear hb4
                go_wp2
                go_ret
                have hnd : decide ((dq : Int) ≤ 32) = false := by rw [decide_eq_false_iff_not]; omega
                refine ⟨ret_eq ?_, HB4.out⟩
                show Value.bool (!decide ((dq : Int) ≤ 32)) = Value.bool true
                rw [hnd]; rfl

set_option maxRecDepth 100000 in
theorem deep_open {H : Type} {enc : TypeId × Value → H} (W : World) (v : Value) (d : DataW H) (p : List MemPlace) {base : Nat} (ok : Value.okWide Tryz.prog W .any base 53 v) (h : DataW.Trod enc Tryz.prog W 0 (fun _ => true) true 53 v d p)
    (wt : ∀ k ∈ d.weights Tryz.prog 53, k ≤ reachBytes) (n : Int) (hn : (Lit.int .i64 n).wf = true) (chain : Int) (hc : (Lit.int .i64 chain).wf = true) (hl : LexW W) (he : EtyW W) (hp : Lib.TabIs Tryz.prog W "internal/strconv.uint64pow10" .u64 Lib.pow10Tab) :
    Calls Tryz.prog 6 #[v, .int .i64 n, .int .i64 chain] W fun e w' => e = .returned (.bool true) ∧ Below W.heap.size W w' := by
  obtain ⟨fuel, hf⟩ := h
  have op : Opens Tryz.prog 53 (rSl (rInt .i64) 1 8) := opens_sl Tryz.underlying53 (by kernel_rfl) (by decide) (by kernel_rfl) (opens_int Tryz.underlying3)
  obtain ⟨xs, A, m, c, hv, hm, _, hs⟩ := op H enc W fuel _ d p hf wt
  obtain ⟨A', n', c', rfl⟩ := Go.WideShapes.okWide_slice Tryz.underlying53 ok
  simp [Value.cells] at hv
  obtain ⟨rfl, rfl, rfl⟩ := hv
  exact deep_calls A' n' c' xs n chain W hs (by unfold reachBytes at hm; omega) hl he hp
end Go.Proofs.YtcefmhofidoloaaGreatDoor.Exp
