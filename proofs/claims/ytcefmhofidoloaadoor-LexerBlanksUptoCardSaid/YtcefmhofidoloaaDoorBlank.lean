/- LexerBlanks: the walk. -/
import Derived.Test.YtcefmhofidoloaaDoorWorks
import Derived.Test.YtcefmhofidoloaaDoorBlankQ
import Derived.Test.YtcefmhofidoloaaDoorPlace
import Derived.Test.YtcefmhofidoloaaDoorRead
import Derived.Deep.QuietTactic
import Derived.Deep.DeepCutAuto
import Derived.Deep.CutBlock
import Derived.BigQuiet
set_option linter.unusedVariables false
set_option linter.unusedSimpArgs false
namespace Go.Proofs.YtcefmhofidoloaaDoor.Lex
open Go.RowKit Go.Proofs.YtcefmhofidoloaaDoor.Base Go.Proofs.YtcefmhofidoloaaDoor.App Go.Proofs.YtcefmhofidoloaaDoor.Byt Go.Proofs.YtcefmhofidoloaaDoor.Rd

theorem toks_bad_place : ∀ (f k : Nat) (s : List UInt8) (p : Nat), toksP f k s = .error p → p ≤ k + s.length
  | 0, k, s, p, h => by simp [toksP] at h
  | f + 1, k, [], p, h => by simp [toksP] at h
  | f + 1, k, c :: r, p, h => by
    rw [toksP] at h
    try simp only at h
    split at h
    · have := toks_bad_place f _ _ _ h
      simp only [List.length_cons]; omega
    · split at h
      · split at h
        · have h1 := toks_bad_place f _ _ _ h
          have h2 : ((c :: r).takeWhile (· != 10)).length + ((c :: r).dropWhile (· != 10)).length = (c :: r).length := by
            have e : (c :: r).takeWhile (· != 10) ++ (c :: r).dropWhile (· != 10) = c :: r := List.takeWhile_append_dropWhile
            have := congrArg List.length e
            rw [List.length_append] at this
            exact this
          omega
        · cases h
      · cases ht : tokP (c :: r) with
        | none =>
          rw [ht] at h
          injection h with h
          omega
        | some y =>
          obtain ⟨t, n⟩ := y
          rw [ht] at h
          simp only at h
          have hn := tokP_le ht
          simp only at hn
          cases hr : toksP f (k + n) ((c :: r).drop n) with
          | error j =>
            rw [hr] at h
            simp [Except.map] at h
            subst h
            have := toks_bad_place f _ _ _ hr
            rw [List.length_drop] at this
            omega
          | ok ts' => rw [hr] at h; simp [Except.map] at h
theorem lexT_bad_place {l : List UInt8} {p : Nat} (h : lexT l = .error p) : p ≤ l.length := by
  have := toks_bad_place _ _ _ _ h
  omega
/-- Only blanks. -/
def Blk (l : List UInt8) : Prop := ∀ c ∈ l, c = 32 ∨ c = 9 ∨ c = 10 ∨ c = 13
theorem Blk.ahead : ∀ {l : List UInt8}, Blk l → Ahead l
  | [], _ => Ahead.nil
  | c :: l, h => Ahead.blank (h c (by simp)) (Blk.ahead fun d hd => h d (by simp [hd]))
/-- How Tokens ends, by cases. -/
theorem lexR_three {l : List UInt8} {w w' : World} {e : Ending} (hl : ¬ 16384 < l.length) (h : LexR l w e w') :
    Below w.heap.size w w' ∧ ((∃ ts A m c, e = .returned (.tuple #[.slice A m c, .nilIface]) ∧ lexT l = .ok ts ∧ TokSl w' A m ts) ∨
    (∃ k N, e = .returned (.tuple #[.slice none 0 0, .iface 48 (.pointer (some ⟨N, 0, none⟩))]) ∧ lexT l = .error k ∧ w'.heap[N]? = some (.cells #[.int .i64 (k : Nat), .iface 36 (.int .i64 20)] 50 (0, 0)))) := by
  obtain ⟨hb, h⟩ := h
  refine ⟨hb, ?_⟩
  rw [if_neg hl] at h
  cases hx : lexT l with
  | ok ts =>
    rw [hx] at h
    obtain ⟨A, m, c, rfl, ht⟩ := h
    exact .inl ⟨ts, A, m, c, rfl, rfl, ht⟩
  | error k =>
    rw [hx] at h
    obtain ⟨N, rfl, h1⟩ := h
    exact .inr ⟨k, N, rfl, rfl, h1.2⟩

def arr4 : Value := .agg #[.string ⟨#[32]⟩, .string ⟨#[9]⟩, .string ⟨#[10]⟩, .string ⟨#[13]⟩]
theorem at4 (n : Int) (h : n = 0 ∨ n = 1 ∨ n = 2 ∨ n = 3) : ∃ b : UInt8, (b = 32 ∨ b = 9 ∨ b = 10 ∨ b = 13) ∧ ∀ w, (Instr.index 29 (.agg #[.string ⟨#[32]⟩, .string ⟨#[9]⟩, .string ⟨#[10]⟩, .string ⟨#[13]⟩]) (.int .i64 n)).run Tryd.prog w = .ok (.string ⟨#[b]⟩) w := by
  rcases h with rfl | rfl | rfl | rfl
  · exact ⟨32, by simp, fun _ => by kernel_rfl⟩
  · exact ⟨9, by simp, fun _ => by kernel_rfl⟩
  · exact ⟨10, by simp, fun _ => by kernel_rfl⟩
  · exact ⟨13, by simp, fun _ => by kernel_rfl⟩
theorem rem4 (x : Int) : wrap64 ((IntKind.u64.wrap x).tmod 4) = 0 ∨ wrap64 ((IntKind.u64.wrap x).tmod 4) = 1 ∨ wrap64 ((IntKind.u64.wrap x).tmod 4) = 2 ∨ wrap64 ((IntKind.u64.wrap x).tmod 4) = 3 := by
  have h0 : 0 ≤ IntKind.u64.wrap x := by
    simp [IntKind.wrap, IntKind.signed, IntKind.bits]
    omega
  generalize IntKind.u64.wrap x = y at h0
  have e : y.tmod 4 = y % 4 := Int.tmod_eq_emod_of_nonneg h0
  rw [e]
  unfold wrap64
  omega
theorem Blk.snoc {l : List UInt8} {b : UInt8} (h : Blk l) (hb : b = 32 ∨ b = 9 ∨ b = 10 ∨ b = 13) : Blk (l ++ [b]) := by
  intro c hc
  rcases List.mem_append.mp hc with hc | hc
  · exact h c hc
  · simp only [List.mem_singleton] at hc; subst hc; exact hb
/-- What stands ahead of the text while the remark is gathered. -/
def Pre (p s2 : List UInt8) : Prop := ∃ r, s2 = p ++ 45 :: 45 :: r ∧ ¬ (10 : UInt8) ∈ r
theorem Pre.start (p : List UInt8) : Pre p (p ++ [45, 45]) := ⟨[], rfl, by simp⟩
theorem Pre.snoc {p s2 : List UInt8} (h : Pre p s2) {c : UInt8} (hc : c ≠ 10) : Pre p (s2 ++ [c]) := by
  obtain ⟨r, rfl, hr⟩ := h
  refine ⟨r ++ [c], by simp, ?_⟩
  simp only [List.mem_append, List.mem_singleton, not_or]
  exact ⟨hr, fun e => hc e.symm⟩
theorem Pre.ahead {p s2 : List UInt8} (h : Pre p s2) (hp : Blk p) : Ahead (s2 ++ [10]) := by
  obtain ⟨r, rfl, hr⟩ := h
  have := hp.ahead.append (Ahead.note hr)
  simpa using this
def endB : List UInt8 := [32, 45, 45, 32, 101, 110, 100]
theorem lex_end : lexT endB = .ok [] := by kernel_rfl
theorem end_noq : ¬ (39 : UInt8) ∈ endB := by decide

set_option maxRecDepth 100000 in
set_option maxHeartbeats 6400000 in
theorem blank_calls (A : Option Addr) (len cap : Nat) (xs : List Int) (remark text : ByteArray) (w : World) (hsl : IsSl (rInt .i64) 1 w A len xs) (hlen : len ≤ 140737488351232) (hr : remark.size ≤ 1048576) (ht : text.size ≤ 1048576) (hw : LexW w) (hg : EtyW w) :
    Calls Tryd.prog 4 #[.slice A len cap, .string remark, .string text] w fun e w' => e = .returned (.bool true) ∧ Below w.heap.size w w' := by
  have HW := Asd.mk hw
  have HG := Asd.mk hg
  have HSL := Asd.mk hsl
  clear hw hg hsl
  go_enter Tryd.func4, Tryd.ntmps4
  go_wp2_with fail
  refine (works_calls w HW.out HG.out).mono ?_
  rintro e w0 ⟨rfl, hb0⟩
  have HB0 := Asd.mk hb0
  have HW0 := Asd.mk (HW.out.below hb0)
  have HSL0 := Asd.mk (HSL.out.below (lasts_int .i64) hb0)
  clear hb0
  go_upto_block 0 with fail
  go_cut [7] (fun s7 wx => wx = w0 ∧ ∃ s : ByteArray, s7 = .string s ∧ s.size ≤ 50 ∧ Asd (Blk s.data.toList))
  case first =>
    go_wp2_with fail
    go_loopw [7, 8] (fun v7 v8 wr => ∃ (k : Nat) (s : ByteArray), k ≤ len ∧ k ≤ 50 ∧ v7 = .string s ∧ v8 = .int .i64 (k : Int) ∧ s.size = k ∧ Asd (Blk s.data.toList) ∧ wr = w0) (fun _ v8 _ => 50 - (intOf v8).toNat)
    case atStart => exact ⟨0, ⟨#[]⟩, by omega, by omega, rfl, rfl, rfl, ⟨by intro c hc; simp at hc⟩, rfl⟩
    case round =>
      obtain ⟨k, s, hk, hk50, rfl, rfl, hs, HS, rfl⟩ := hrel
      by_cases hlt : k < len
      · by_cases hlt50 : k < 50
        · obtain ⟨g, o, rfl, hglt, hc⟩ := HSL0.out.2 (by omega)
          obtain ⟨es, he1, he2, he3, _⟩ := hc k (by rw [HSL0.out.1]; exact hlt)
          have hx := he2 0 (by omega)
          rw [he3] at hx
          generalize xs[k]'(by rw [HSL0.out.1]; exact hlt) = x at hx
          clear he1 he2 he3 hc
          simp only [List.getElem?_cons_zero, Nat.mul_one, Nat.add_zero] at hx
          obtain ⟨b, hb, hi⟩ := at4 _ (rem4 x)
          have HBB := Asd.mk hb
          clear hb
          go_wp2
          go_roundw
          case rel => exact ⟨k + 1, s ++ ⟨#[b]⟩, by omega, by omega, rfl, by go_num, by rw [ByteArray.size_append, hs]; rfl, ⟨by rw [ByteArray.data_append, Array.toList_append]; exact HS.out.snoc HBB.out⟩, by first | rfl | trivial⟩
          case measure => simp [intOf]; omega
        · obtain rfl : k = 50 := by omega
          go_wp2
          go_meet
          exact ⟨rfl, s, rfl, by omega, HS⟩
      · obtain rfl : k = len := by omega
        go_wp2
        go_meet
        exact ⟨rfl, s, rfl, by omega, HS⟩
  case rest =>
    obtain ⟨rfl, s, rfl, hs50, HS⟩ := hcut
    have HSP := Asd.mk (Pre.start s.data.toList)
    go_upto_block 2 with fail
    have HS2 : Asd ((s ++ (⟨#[45, 45]⟩ : ByteArray)).size ≤ 52) := Asd.mk (by rw [ByteArray.size_append]; have : (⟨#[45, 45]⟩ : ByteArray).size = 2 := rfl; omega)
    have HS3 : Asd (Pre s.data.toList (s ++ (⟨#[45, 45]⟩ : ByteArray)).data.toList) := Asd.mk (by rw [ByteArray.data_append, Array.toList_append]; exact HSP.out)
    generalize (s ++ (⟨#[45, 45]⟩ : ByteArray)) = s2 at HS2 HS3 ⊢
    go_cut [7] (fun s7 wx => wx = wc ∧ ∃ q : ByteArray, s7 = .string q ∧ q.size ≤ 152 ∧ Asd (Pre s.data.toList q.data.toList))
    case first =>
      go_wp2_with fail
      go_loopw [7, 9] (fun v7 v9 wr => ∃ (k : Nat) (q : ByteArray), k ≤ remark.size ∧ k ≤ 100 ∧ v7 = .string q ∧ v9 = .int .i64 (k : Int) ∧ Asd (q.size ≤ 52 + k) ∧ Asd (Pre s.data.toList q.data.toList) ∧ wr = wc) (fun _ v9 _ => 100 - (intOf v9).toNat)
      case atStart => exact ⟨0, s2, by omega, by omega, rfl, rfl, ⟨by have := HS2.out; omega⟩, HS3, by first | rfl | trivial⟩
      case round =>
        obtain ⟨k, q, hk, hk100, rfl, rfl, HQ, HP, rfl⟩ := hrel
        by_cases hlt : k < remark.size
        · by_cases hlt100 : k < 100
          · by_cases hc : remark[k] = 10
            · go_wp2
              go_roundw
              case rel => exact ⟨k + 1, q, by omega, by omega, rfl, by go_num, ⟨by have := HQ.out; omega⟩, HP, by first | rfl | trivial⟩
              case measure => simp [intOf]; omega
            · have hcn : ¬ ((remark[k].toNat : Int) = 10) := fun e => hc (UInt8.toNat_inj.mp (by have : (10 : UInt8).toNat = 10 := rfl; omega))
              have HC := Asd.mk hc
              have hqs := HQ.out
              have hes : (remark.extract k (k + 1)).size = 1 := by rw [ext_size]; omega
              have HE : Asd ((remark.extract k (k + 1)).data.toList = [remark[k]]) := Asd.mk (by
                rw [ext_list, List.take_succ_eq_append_getElem (show k < remark.data.toList.length from hlt), List.drop_append_of_le_length (by rw [List.length_take]; have : remark.data.toList.length = remark.size := rfl; omega), List.drop_of_length_le (by rw [List.length_take]; omega)]
                rfl)
              go_wp2
              go_roundw
              case rel =>
                refine ⟨k + 1, q ++ remark.extract k (k + 1), by omega, by omega, rfl, by go_num, ⟨?_⟩, ⟨?_⟩, by first | rfl | trivial⟩
                · rw [ByteArray.size_append, ext_size]; have := HQ.out; omega
                · rw [ByteArray.data_append, Array.toList_append, HE.out]; exact HP.out.snoc HC.out
              case measure => simp [intOf]; omega
          · obtain rfl : k = 100 := by omega
            go_wp2
            go_meet
            exact ⟨by first | rfl | trivial, q, rfl, by have := HQ.out; omega, HP⟩
        · obtain rfl : k = remark.size := by omega
          go_wp2
          go_meet
          exact ⟨by first | rfl | trivial, q, rfl, by have := HQ.out; omega, HP⟩
    case rest =>
      obtain ⟨rfl, q, rfl, hq152, HP⟩ := hcut
      by_cases hbig : 16184 < text.size
      · go_wp2
        go_ret
        exact ⟨ret_eq rfl, HB0.out⟩
      · have HA : Asd (Ahead (q ++ (⟨#[10]⟩ : ByteArray)).data.toList) := Asd.mk (by rw [ByteArray.data_append, Array.toList_append]; exact HP.out.ahead HS.out)
        have HPS : Asd ((q ++ (⟨#[10]⟩ : ByteArray)).size ≤ 153) := Asd.mk (by rw [ByteArray.size_append]; have : (⟨#[10]⟩ : ByteArray).size = 1 := rfl; omega)
        clear HS2 HS3 HP HSP HS hs50
        go_wp2_with fail
        generalize (q ++ (⟨#[10]⟩ : ByteArray)) = p at HA HPS ⊢
        have hps := HPS.out
        refine (tokens_reads text _ HW0.out).mono ?_
        rintro e w1 he
        obtain ⟨hb1, hcase⟩ := lexR_three (by have : text.data.toList.length = text.size := rfl; omega) he
        have HB1 : Asd (Below w.heap.size w w1) := Asd.mk (HB0.out.trans (hb1.mono HB0.out.size))
        have HW1 := Asd.mk (HW.out.below HB1.out)
        have HG1 := Asd.mk (HG.out.below HB1.out)
        have HZS : Asd ((p ++ text ++ (⟨#[10, 32, 45, 45, 32, 101, 110, 100]⟩ : ByteArray)).size ≤ 16384) := Asd.mk (by
          rw [ByteArray.size_append, ByteArray.size_append]; have : (⟨#[10, 32, 45, 45, 32, 101, 110, 100]⟩ : ByteArray).size = 8 := rfl; have := HPS.out; omega)
        have HZL : Asd ((p ++ text ++ (⟨#[10, 32, 45, 45, 32, 101, 110, 100]⟩ : ByteArray)).data.toList = p.data.toList ++ (text.data.toList ++ 10 :: endB)) := Asd.mk (by simp [ByteArray.data_append, endB])
        clear he hb1
        rcases hcase with ⟨xs, A1, m1, c1, rfl, hx1, ht1⟩ | ⟨k1, N1, rfl, hx1, hN1⟩
        · have HX := Asd.mk hx1
          have HT1 := Asd.mk ht1
          clear hx1 ht1
          go_wp2_with fail
          generalize (p ++ text ++ (⟨#[10, 32, 45, 45, 32, 101, 110, 100]⟩ : ByteArray)) = z at HZS HZL ⊢
          refine (tokens_reads z _ HW1.out).mono ?_
          rintro e w2 he
          have HLZ : Asd (lexT z.data.toList = .ok (shT p.data.toList.length xs)) := Asd.mk (by
            rw [HZL.out, lexT_ahead HA.out, lexT_behind_ok lex_end HX.out]; rfl)
          obtain ⟨hb2, hcase⟩ := lexR_three (by have : z.data.toList.length = z.size := rfl; have := HZS.out; omega) he
          clear he
          rcases hcase with ⟨ys, A2, m2, c2, rfl, hx2, ht2⟩ | ⟨k2, N2, rfl, hx2, hN2⟩
          · rw [HLZ.out] at hx2
            injection hx2 with hx2
            subst hx2
            have HT2 := Asd.mk ht2
            have HT12 := Asd.mk (HT1.out.below hb2)
            have HB2 : Asd (Below w.heap.size w w2) := Asd.mk (HB1.out.trans (hb2.mono HB1.out.size))
            clear ht2 HT1 hb2
            go_wp2_with fail
            refine (seen_nil _).mono ?_
            rintro e w3 ⟨rfl, hb3⟩
            have HB3 : Asd (Below w.heap.size w w3) := Asd.mk (HB2.out.trans (hb3.mono HB2.out.size))
            have HT13 := Asd.mk (HT12.out.below hb3)
            have HT23 := Asd.mk (HT2.out.below hb3)
            clear hb3 HT12 HT2
            go_wp2_with fail
            refine (seen_nil _).mono ?_
            rintro e w4 ⟨rfl, hb4⟩
            have HB4 : Asd (Below w.heap.size w w4) := Asd.mk (HB3.out.trans (hb4.mono HB3.out.size))
            have HT14 := Asd.mk (HT13.out.below hb4)
            have HT24 := Asd.mk (HT23.out.below hb4)
            clear hb4 HT13 HT23
            have hm1 : m1 = xs.length := HT14.out.1
            have hm2 : m2 = m1 := by rw [HT24.out.1]; simp [shT]; exact hm1.symm
            have hm1b : m1 ≤ 16384 := HT14.out.2.1
            have HM1 := Asd.mk hm1
            subst hm2
            clear hm1
            have HPL : Asd (p.data.toList.length = p.size) := Asd.mk rfl
            have HB5 : Asd (Below w4.heap.size w4 ((w4.alloc (.cells #[.int .i64 0, .int .i64 0] 38)).alloc (.cells #[.int .i64 0, .int .i64 0] 38))) := Asd.mk (below_alloc (below_alloc (Below.refl _ _) _) _)
            have HF1 := Asd.mk (blk_alloc (blk_new w4 (.cells #[.int .i64 0, .int .i64 0] 38)) (.cells #[.int .i64 0, .int .i64 0] 38))
            have HF2 := Asd.mk (blk_new (w4.alloc (.cells #[.int .i64 0, .int .i64 0] 38)) (.cells #[.int .i64 0, .int .i64 0] 38))
            rw [show (w4.alloc (.cells #[.int .i64 0, .int .i64 0] 38)).heap.size = w4.heap.size + 1 by simp] at HF2
            go_upto_region 20 with fail
            generalize (w4.alloc (.cells #[.int .i64 0, .int .i64 0] 38)).alloc (.cells #[.int .i64 0, .int .i64 0] 38) = w5 at HB5 HF1 HF2 ⊢
            have HB6 : Asd (Below w.heap.size w w5) := Asd.mk (HB4.out.trans (HB5.out.mono HB4.out.size))
            have HT15 := Asd.mk (HT14.out.below HB5.out)
            have HT25 := Asd.mk (HT24.out.below HB5.out)
            have f11 := (blk_cell HF1.out 1).trans rfl
            have f21 := (blk_cell HF2.out 1).trans rfl
            go_wp2
            clear f11 f21
            go_loopw [16] (fun v wr => ∃ k : Nat, k ≤ m2 ∧ v = .int .i64 (k : Int) ∧ Asd (Below w5.heap.size w5 wr)) (fun v _ => m2 - (intOf v).toNat)
            case atStart => exact ⟨0, by omega, rfl, ⟨Below.refl _ _⟩⟩
            case round =>
              obtain ⟨k, hk, rfl, HB⟩ := hrel
              by_cases hlt : k < m2
              · obtain ⟨gx, rfl, hcx⟩ := HT15.out.2.2 (by omega)
                obtain ⟨gy, rfl, hcy⟩ := HT25.out.2.2 (by omega)
                have hkx : k < xs.length := by rw [← HM1.out]; exact hlt
                have hky : k < (shT p.data.toList.length xs).length := by simp [shT]; exact hkx
                have hxx := hcx k hkx
                have hyy := hcy k hky
                clear hcx hcy
                have HE : Asd ((shT p.data.toList.length xs)[k]'hky = ((xs[k]'hkx).1, (xs[k]'hkx).2 + p.size)) := Asd.mk (by simp only [shT, List.getElem_map, HPL.out])
                rw [HE.out] at hyy
                have hpl := lexT_place HX.out k hkx
                generalize xs[k]'hkx = x at hxx hyy hpl
                obtain ⟨t, pl⟩ := x
                obtain ⟨z0, z1, z2, z3⟩ := hyy
                obtain ⟨q0, q1, q2, q3⟩ := hxx
                simp only at z0 z1 z2 z3 q0 q1 q2 q3 hpl
                have hpb : pl ≤ 1048576 := by
                  have h9 : text.data.toList.length = text.size := rfl
                  omega
                have HPI : Asd ((pl : Int) + (p.size : Int) - (p.size : Int) = (pl : Int)) := Asd.mk (by omega)
                clear hpl
                have e0 := (HB.out.cell (World.block_lt_of_cell? w5 _ z0)).trans z0
                have e1 := (HB.out.cell (World.block_lt_of_cell? w5 _ z1)).trans z1
                have e2 := (HB.out.cell (World.block_lt_of_cell? w5 _ z2)).trans z2
                have e3 := (HB.out.cell (World.block_lt_of_cell? w5 _ z3)).trans z3
                have HBN := Asd.mk (below_alloc HB.out (.cells #[.int .i64 (t.kind : Int), .string ⟨t.text.toArray⟩, .int .i64 (pl : Nat), .int .i64 t.num] 23))
                have HNN := Asd.mk (blk_new wr (.cells #[.int .i64 (t.kind : Int), .string ⟨t.text.toArray⟩, .int .i64 (pl : Nat), .int .i64 t.num] 23))
                have HQ : Asd (∀ w', Below w5.heap.size w5 w' → w'.cell? ⟨gx, k * 4, none⟩ = some (.int .i64 (t.kind : Int)) ∧ w'.cell? ⟨gx, k * 4 + 1, none⟩ = some (.string ⟨t.text.toArray⟩) ∧ w'.cell? ⟨gx, k * 4 + 2, none⟩ = some (.int .i64 (pl : Nat)) ∧ w'.cell? ⟨gx, k * 4 + 3, none⟩ = some (.int .i64 t.num)) := Asd.mk fun w' hb =>
                  ⟨(hb.cell (World.block_lt_of_cell? w5 _ q0)).trans q0, (hb.cell (World.block_lt_of_cell? w5 _ q1)).trans q1, (hb.cell (World.block_lt_of_cell? w5 _ q2)).trans q2, (hb.cell (World.block_lt_of_cell? w5 _ q3)).trans q3⟩
                clear z0 z1 z2 z3 q0 q1 q2 q3
                have hq : ∀ w, (binOp .neq 23 (.agg #[.int .i64 (t.kind : Int), .string ⟨t.text.toArray⟩, .int .i64 (pl : Nat), .int .i64 t.num]) (.agg #[.int .i64 (t.kind : Int), .string ⟨t.text.toArray⟩, .int .i64 (pl : Nat), .int .i64 t.num])).run Tryd.prog w = .ok (.bool false) w := fun w => by rw [tok_neq]; simp
                go_upto_region 29 with fail
                generalize wr.alloc (.cells #[.int .i64 (t.kind : Int), .string ⟨t.text.toArray⟩, .int .i64 (pl : Nat), .int .i64 t.num] 23) = W5 at HBN HNN ⊢
                obtain ⟨q0, q1, q2, q3⟩ := HQ.out _ HBN.out
                have y0 := (blk_cell HNN.out 0).trans rfl
                have y1 := (blk_cell HNN.out 1).trans rfl
                have y2 := (blk_cell HNN.out 2).trans rfl
                have y3 := (blk_cell HNN.out 3).trans rfl
                generalize wr.heap.size = g5 at y0 y1 y2 y3 ⊢
                go_quiet (fail)
                have HB7 : Asd (∀ n, Below w5.heap.size w5 (W5.drewN n)) := Asd.mk fun n => HBN.out.trans ((below_drewN' W5 n).mono HBN.out.size)
                go_wp2
                go_roundw
                case rel => exact ⟨k + 1, by omega, by go_num, ⟨HB7.out _⟩⟩
                case measure => simp [intOf]; omega
              · obtain rfl : k = m2 := by omega
                have HB7 : Asd (Below w.heap.size w wr) := Asd.mk (HB6.out.trans (HB.out.mono HB6.out.size))
                clear hlt
                go_wp2
                go_ret
                exact ⟨ret_eq rfl, HB7.out⟩
          · rw [HLZ.out] at hx2
            cases hx2
        · have HX := Asd.mk hx1
          have HN1 := Asd.mk hN1
          clear hx1 hN1
          go_wp2_with fail
          generalize (p ++ text ++ (⟨#[10, 32, 45, 45, 32, 101, 110, 100]⟩ : ByteArray)) = z at HZS HZL ⊢
          refine (tokens_reads z _ HW1.out).mono ?_
          rintro e w2 he
          have HLZ : Asd (lexT z.data.toList = .error (k1 + p.data.toList.length)) := Asd.mk (by
            rw [HZL.out, lexT_ahead HA.out, lexT_behind_bad end_noq HX.out]; rfl)
          obtain ⟨hb2, hcase⟩ := lexR_three (by have : z.data.toList.length = z.size := rfl; have := HZS.out; omega) he
          clear he
          rcases hcase with ⟨ys, A2, m2, c2, rfl, hx2, ht2⟩ | ⟨k2, N2, rfl, hx2, hN2⟩
          · rw [HLZ.out] at hx2
            cases hx2
          · rw [HLZ.out] at hx2
            injection hx2 with hx2
            subst hx2
            have HB2 : Asd (Below w.heap.size w w2) := Asd.mk (HB1.out.trans (hb2.mono HB1.out.size))
            have HN12 := Asd.mk (blk_below hb2 HN1.out)
            have HN2 := Asd.mk hN2
            have HG2 := Asd.mk (HG.out.below HB2.out)
            clear hb2 hN2
            go_wp2_with fail
            refine (seen_fault N1 k1 20 _ HG2.out HN12.out).mono ?_
            rintro e w3 ⟨rfl, hb3⟩
            have HB3 : Asd (Below w.heap.size w w3) := Asd.mk (HB2.out.trans (hb3.mono HB2.out.size))
            have HG3 := Asd.mk (HG.out.below HB3.out)
            have HN23 := Asd.mk (blk_below hb3 HN2.out)
            clear hb3
            go_wp2_with fail
            refine (seen_fault N2 ((k1 + p.data.toList.length : Nat) : Int) 20 _ HG3.out HN23.out).mono ?_
            rintro e w4 ⟨rfl, hb4⟩
            have HB4 : Asd (Below w.heap.size w w4) := Asd.mk (HB3.out.trans (hb4.mono HB3.out.size))
            clear hb4
            have HSUM : Asd (((k1 + p.data.toList.length : Nat) : Int) = (k1 : Int) + (p.size : Int)) := Asd.mk (by
              have : p.data.toList.length = p.size := rfl
              omega)
            rw [HSUM.out]
            have hpl := lexT_bad_place HX.out
            have hpb : k1 ≤ 1048576 := by
              have h9 : text.data.toList.length = text.size := rfl
              omega
            clear hpl
            have HB5 : Asd (Below w.heap.size w ((w4.alloc (.cells #[.int .i64 (k1 : Int), .int .i64 20] 38)).alloc (.cells #[.int .i64 ((k1 : Int) + (p.size : Int)), .int .i64 20] 38))) := Asd.mk (below_alloc (below_alloc HB4.out _) _)
            have HF1 := Asd.mk (blk_alloc (blk_new w4 (.cells #[.int .i64 (k1 : Int), .int .i64 20] 38)) (.cells #[.int .i64 ((k1 : Int) + (p.size : Int)), .int .i64 20] 38))
            have HF2 := Asd.mk (blk_new (w4.alloc (.cells #[.int .i64 (k1 : Int), .int .i64 20] 38)) (.cells #[.int .i64 ((k1 : Int) + (p.size : Int)), .int .i64 20] 38))
            rw [show (w4.alloc (.cells #[.int .i64 (k1 : Int), .int .i64 20] 38)).heap.size = w4.heap.size + 1 by simp] at HF2
            go_upto_region 20 with fail
            generalize (w4.alloc (.cells #[.int .i64 (k1 : Int), .int .i64 20] 38)).alloc (.cells #[.int .i64 ((k1 : Int) + (p.size : Int)), .int .i64 20] 38) = w5 at HB5 HF1 HF2 ⊢
            have f10 := (blk_cell HF1.out 0).trans rfl
            have f20 := (blk_cell HF2.out 0).trans rfl
            have f11 := (blk_cell HF1.out 1).trans rfl
            have f21 := (blk_cell HF2.out 1).trans rfl
            generalize w4.heap.size = g4 at f10 f20 f11 f21 ⊢
            go_wp2
            go_ret
            exact ⟨ret_eq rfl, HB5.out⟩

set_option maxRecDepth 100000 in
theorem blank_open {H : Type} {enc : TypeId × Value → H} (W : World) (v : Value) (d : DataW H) (p : List MemPlace) {base : Nat} (ok : Value.okWide Tryd.prog W .any base 27 v) (h : DataW.Trod enc Tryd.prog W 0 (fun _ => true) true 27 v d p)
    (wt : ∀ k ∈ d.weights Tryd.prog 27, k ≤ reachBytes) (remark : ByteArray) (hr : remark.size ≤ 1048576) (text : ByteArray) (ht : text.size ≤ 1048576) (hw : LexW W) (hg : EtyW W) :
    Calls Tryd.prog 4 #[v, .string remark, .string text] W fun e w' => e = .returned (.bool true) ∧ Below W.heap.size W w' := by
  obtain ⟨fuel, hf⟩ := h
  have op : Opens Tryd.prog 27 (rSl (rInt .i64) 1 8) := opens_sl Tryd.underlying27 (by kernel_rfl) (by decide) (by kernel_rfl) (opens_int Tryd.underlying3)
  obtain ⟨xs, A, n, c, hv, hn, _, hs⟩ := op H enc W fuel _ d p hf wt
  obtain ⟨A', n', c', rfl⟩ := Go.WideShapes.okWide_slice Tryd.underlying27 ok
  simp [Value.cells] at hv
  obtain ⟨rfl, rfl, rfl⟩ := hv
  exact blank_calls A' n' c' xs remark text W hs (by unfold reachBytes at hn; omega) hr ht hw hg
end Go.Proofs.YtcefmhofidoloaaDoor.Lex
