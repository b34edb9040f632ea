/- Texts put together: Rpt, Eva, Cka, Ckb, Evb, Evd, Rca, Lvl, Rlit2, Read, Opx, EvC, Lw1. -/
import Derived.Test.YtinflndbfdbnhaaQc2
import Derived.Deep.RegionHeld3
import Derived.Deep.Strs
import Derived.SizedLaws
import Derived.Test.YtinflndbfdbnhaaRows
/- quarryref02.near, part. -/
set_option linter.unusedVariables false
set_option linter.unusedSimpArgs false
namespace Go.Proofs.Ytinflndbfdbnhaa.Exp
open Go.RowKit Go.Proofs.Ytinflndbfdbnhaa.Base Go.Proofs.Ytinflndbfdbnhaa.App Go.Proofs.Ytinflndbfdbnhaa.Byt Go.Proofs.Ytinflndbfdbnhaa.Lex

set_option maxRecDepth 100000 in
set_option maxHeartbeats 6400000 in
theorem rnear_calls (pl p n : Int) (h1 : 1 ≤ pl) (h2 : pl ≤ 140737488351233) (h3 : p < 0) (h4 : -9223372036854775808 ≤ p) (h5 : 0 < n) (h6 : n ≤ 9223372036854775807) (b : Bool) (hb : b = decide (pl - p < n)) (w : World) :
    Calls Try.prog 119 #[.int .i64 pl, .int .i64 p, .int .i64 n] w fun e w' => e = .returned (.bool b) ∧ w' = w := by
  have HB := Asd.mk hb
  clear hb
  go_enter Try.func119, Try.ntmps119
  go_wp2
  go_ret
  refine ⟨ret_eq ?_, rfl⟩
  rw [HB.out]
  show Value.bool _ = Value.bool _
  congr 1
  apply Bool.eq_iff_iff.mpr
  simp only [decide_eq_true_eq]
  omega
def keepP (p n pl : Int) : Bool := decide (p ≤ pl ∧ 0 < n ∧ pl - p < n)
def partN (s : List UInt8) (p n : Int) : Nat → List UInt8
  | 0 => []
  | k + 1 => partN s p n k ++ (match s[k]? with
    | some c => if keepP p n ((k : Int) + 1) then [c] else []
    | none => [])
theorem partN_len (s : List UInt8) (p n : Int) : ∀ k, (partN s p n k).length ≤ k
  | 0 => Nat.le_refl _
  | k + 1 => by
    have ih := partN_len s p n k
    rw [partN, List.length_append]
    split
    · split
      · simp only [List.length_cons, List.length_nil]; omega
      · simp only [List.length_nil]; omega
    · simp only [List.length_nil]; omega
theorem partN_yes {s : List UInt8} {p n : Int} {k : Nat} (h : k < s.length) (hk : keepP p n ((k : Int) + 1) = true) : partN s p n (k + 1) = partN s p n k ++ [s[k]] := by
  rw [partN, List.getElem?_eq_getElem h]
  show _ ++ (if _ then _ else _) = _
  rw [if_pos hk]
theorem partN_no {s : List UInt8} {p n : Int} {k : Nat} (h : k < s.length) (hk : keepP p n ((k : Int) + 1) = false) : partN s p n (k + 1) = partN s p n k := by
  rw [partN, List.getElem?_eq_getElem h]
  show _ ++ (if _ then _ else _) = _
  rw [if_neg (by rw [hk]; decide), List.append_nil]
theorem cutP_snoc (l : List UInt8) (c : UInt8) (p n : Int) : cutP (l ++ [c]) p n = cutP l p n ++ (if keepP p n ((l.length : Int) + 1) then [c] else []) := by
  have hk : keepP p n ((l.length : Int) + 1) = decide (p ≤ (l.length : Int) + 1 ∧ 0 < n ∧ (l.length : Int) + 1 - p < n) := rfl
  have hl : ((l ++ [c]).length : Int) = (l.length : Int) + 1 := by simp
  unfold cutP
  rw [hl]
  by_cases hn : n ≤ 0
  · rw [if_pos (.inl hn), if_pos (.inl hn), hk, decide_eq_false (by omega)]
    rfl
  · by_cases hp : p < 1
    · have ea : ¬ (n ≤ 0 ∨ (l.length : Int) + 1 < p) := by omega
      have eb : ¬ (n ≤ 0 ∨ (l.length : Int) < p) := by omega
      rw [if_neg ea, if_neg eb, if_pos hp, if_pos hp]
      by_cases hm : n ≤ 1 - p
      · rw [if_pos hm, if_pos hm, hk, decide_eq_false (by omega)]
        rfl
      · rw [if_neg hm, if_neg hm]
        by_cases hq : (l.length : Int) + 1 - p < n
        · rw [hk, decide_eq_true (by omega), if_pos rfl, List.take_of_length_le (by rw [List.length_append]; simp only [List.length_cons, List.length_nil]; omega), List.take_of_length_le (by omega)]
        · rw [hk, decide_eq_false (by omega), if_neg (by decide), List.append_nil, List.take_append_of_le_length (by omega)]
    · by_cases h1 : (l.length : Int) + 1 < p
      · rw [if_pos (.inr h1), if_pos (.inr (by omega)), hk, decide_eq_false (by omega)]
        rfl
      · rw [if_neg (by omega), if_neg hp]
        by_cases h2 : (l.length : Int) < p
        · rw [if_pos (.inr h2), hk, decide_eq_true (by omega), if_pos rfl, List.drop_append, List.drop_of_length_le (by omega)]
          have e : (p - 1).toNat - l.length = 0 := by omega
          rw [e]
          show List.take n.toNat ([] ++ [c]) = [] ++ [c]
          rw [List.take_of_length_le (by simp only [List.nil_append, List.length_cons, List.length_nil]; omega)]
        · rw [if_neg (by omega), if_neg hp, List.drop_append_of_le_length (by omega)]
          by_cases hq : (l.length : Int) + 1 - p < n
          · rw [hk, decide_eq_true (by omega), if_pos rfl, List.take_of_length_le (by rw [List.length_append, List.length_drop]; simp only [List.length_cons, List.length_nil]; omega), List.take_of_length_le (by rw [List.length_drop]; omega)]
          · rw [hk, decide_eq_false (by omega), if_neg (by decide), List.append_nil, List.take_append_of_le_length (by rw [List.length_drop]; omega)]
theorem partN_take (s : List UInt8) (p n : Int) : ∀ k, k ≤ s.length → partN s p n k = cutP (s.take k) p n
  | 0, _ => by
    rw [partN, List.take_zero]
    unfold cutP
    split
    · rfl
    · split
      · split
        · rfl
        · rw [List.take_nil]
      · rw [List.drop_nil, List.take_nil]
  | k + 1, h => by
    have ih := partN_take s p n k (by omega)
    have e := cutP_snoc (s.take k) s[k] p n
    have hl : ((s.take k).length : Int) = (k : Int) := by rw [List.length_take]; omega
    rw [hl, ← List.take_succ_eq_append_getElem (by omega)] at e
    rw [e, partN, ih, List.getElem?_eq_getElem (show k < s.length by omega)]
theorem partN_cut (s : List UInt8) (p n : Int) : partN s p n s.length = cutP s p n := by rw [partN_take s p n _ (Nat.le_refl _), List.take_length]
set_option maxRecDepth 100000 in
set_option maxHeartbeats 6400000 in
theorem rpart_calls (s : ByteArray) (p n : Int) (hp : inI p) (hn : inI n) (hs : s.size ≤ 140737488351232) (w : World) : Calls Try.prog 82 #[.string s, .int .i64 p, .int .i64 n] w fun e w' => e = .returned (.string ⟨(cutP s.data.toList p n).toArray⟩) ∧ Below w.heap.size w w' := by
  obtain ⟨hp0, hp1⟩ := hp
  obtain ⟨hn0, hn1⟩ := hn
  go_enter Try.func82, Try.ntmps82
  go_wp2
  go_loopw [7, 8] (fun v i wr => ∃ (k m c : Nat) (A : Option Addr), k ≤ s.size ∧ m ≤ k ∧ i = .int .i64 (k : Int) ∧ v = .slice A m c ∧ Asd (wr.ownsRow w.heap.size 5 1 (.slice A m c) m (bcells (partN s.data.toList p n k))) ∧ Asd (Below w.heap.size w wr)) (fun _ i _ => s.size - (intOf i).toNat)
  case atStart => exact ⟨0, 0, 0, none, by omega, by omega, rfl, rfl, ⟨World.ownsRow_nil _ _ _ _⟩, ⟨Below.refl _ _⟩⟩
  case round =>
    obtain ⟨k, m, c, A, hk, hmk, rfl, rfl, HO, HBR⟩ := hrel
    have hsz : w.heap.size ≤ wr.heap.size := HBR.out.size
    by_cases hlt : k < s.size
    · have hc := s[k].toNat_lt
      have HY : Asd (keepP p n ((k : Int) + 1) = true → partN s.data.toList p n (k + 1) = partN s.data.toList p n k ++ [s[k]]) := Asd.mk fun h => partN_yes (s := s.data.toList) (by simpa using hlt) h
      have HY0 : Asd (keepP p n ((k : Int) + 1) = false → partN s.data.toList p n (k + 1) = partN s.data.toList p n k) := Asd.mk fun h => partN_no (s := s.data.toList) (by simpa using hlt) h
      generalize hck : s[k] = b at hc HY
      by_cases h1 : p ≤ (k : Int) + 1
      · by_cases h2 : 0 < n
        · by_cases h3 : p < 0
          · by_cases h4 : (k : Int) + 1 - p < n
            · go_wp2_with fail
              refine (rnear_calls ((k : Int) + 1) p n (by omega) (by omega) h3 hp0 h2 hn1 true (decide_eq_true h4).symm _).mono ?_
              rintro e w5 ⟨rfl, h5w⟩
              have h5w := h5w.symm
              subst h5w
              have HN := Asd.mk (HY.out (by unfold keepP; exact decide_eq_true (by omega)))
              have HOA := Asd.mk (HO.out.alloc (.cells #[.int .u8 (b.toNat : Int)] 5))
              have HF := Asd.mk (Feeds.of_block (size := 1) (m := 1) (c := 1) (blk_new wr (.cells #[.int .u8 (b.toNat : Int)] 5)) rfl (by simp [Value.oneCell']))
              go_wp2_with (at_builtin; refine wpList_src rfl (.tmp 46) (.tmp 50) _ rfl rowB _ rfl HOA.out (some ⟨wr.heap.size, 0, none⟩) 1 1 rfl HF.out (by unfold maxLen; omega) (by omega) (by simp; omega) ?_)
              intro A9 c9 w9 ho9 hg9
              have HO9 : Asd (w9.ownsRow w.heap.size 5 1 (.slice A9 (m + 1) c9) (m + 1) (bcells (partN s.data.toList p n (k + 1)))) := Asd.mk (by
                rw [HN.out]
                simpa [bcells, bcell] using ho9)
              have HB9 : Asd (Below w.heap.size w w9) := Asd.mk (below_own (below_alloc HBR.out _) HOA.out hg9 (Nat.le_refl _))
              clear ho9 hg9
              go_wp2
              go_roundw
              case rel => exact ⟨k + 1, m + 1, _, _, by omega, by omega, by go_num, rfl, HO9, HB9⟩
              case measure => simp [intOf]; omega
            · go_wp2_with fail
              refine (rnear_calls ((k : Int) + 1) p n (by omega) (by omega) h3 hp0 h2 hn1 false (decide_eq_false (by omega)).symm _).mono ?_
              rintro e w5 ⟨rfl, h5w⟩
              have h5w := h5w.symm
              subst h5w
              have HN := Asd.mk (HY0.out (by unfold keepP; exact decide_eq_false (by omega)))
              have HO9 : Asd (wr.ownsRow w.heap.size 5 1 (.slice A m c) m (bcells (partN s.data.toList p n (k + 1)))) := Asd.mk (by rw [HN.out]; exact HO.out)
              go_wp2
              go_roundw
              case rel => exact ⟨k + 1, m, _, _, by omega, by omega, by go_num, rfl, HO9, HBR⟩
              case measure => simp [intOf]; omega
          · by_cases h4 : (k : Int) + 1 - p < n
            · skip
              have HN := Asd.mk (HY.out (by unfold keepP; exact decide_eq_true (by omega)))
              have HOA := Asd.mk (HO.out.alloc (.cells #[.int .u8 (b.toNat : Int)] 5))
              have HF := Asd.mk (Feeds.of_block (size := 1) (m := 1) (c := 1) (blk_new wr (.cells #[.int .u8 (b.toNat : Int)] 5)) rfl (by simp [Value.oneCell']))
              go_wp2_with (at_builtin; refine wpList_src rfl (.tmp 46) (.tmp 50) _ rfl rowB _ rfl HOA.out (some ⟨wr.heap.size, 0, none⟩) 1 1 rfl HF.out (by unfold maxLen; omega) (by omega) (by simp; omega) ?_)
              intro A9 c9 w9 ho9 hg9
              have HO9 : Asd (w9.ownsRow w.heap.size 5 1 (.slice A9 (m + 1) c9) (m + 1) (bcells (partN s.data.toList p n (k + 1)))) := Asd.mk (by
                rw [HN.out]
                simpa [bcells, bcell] using ho9)
              have HB9 : Asd (Below w.heap.size w w9) := Asd.mk (below_own (below_alloc HBR.out _) HOA.out hg9 (Nat.le_refl _))
              clear ho9 hg9
              go_wp2
              go_roundw
              case rel => exact ⟨k + 1, m + 1, _, _, by omega, by omega, by go_num, rfl, HO9, HB9⟩
              case measure => simp [intOf]; omega
            · skip
              have HN := Asd.mk (HY0.out (by unfold keepP; exact decide_eq_false (by omega)))
              have HO9 : Asd (wr.ownsRow w.heap.size 5 1 (.slice A m c) m (bcells (partN s.data.toList p n (k + 1)))) := Asd.mk (by rw [HN.out]; exact HO.out)
              go_wp2
              go_roundw
              case rel => exact ⟨k + 1, m, _, _, by omega, by omega, by go_num, rfl, HO9, HBR⟩
              case measure => simp [intOf]; omega
        · skip
          have HN := Asd.mk (HY0.out (by unfold keepP; exact decide_eq_false (by omega)))
          have HO9 : Asd (wr.ownsRow w.heap.size 5 1 (.slice A m c) m (bcells (partN s.data.toList p n (k + 1)))) := Asd.mk (by rw [HN.out]; exact HO.out)
          go_wp2
          go_roundw
          case rel => exact ⟨k + 1, m, _, _, by omega, by omega, by go_num, rfl, HO9, HBR⟩
          case measure => simp [intOf]; omega
      · skip
        have HN := Asd.mk (HY0.out (by unfold keepP; exact decide_eq_false (by omega)))
        have HO9 : Asd (wr.ownsRow w.heap.size 5 1 (.slice A m c) m (bcells (partN s.data.toList p n (k + 1)))) := Asd.mk (by rw [HN.out]; exact HO.out)
        go_wp2
        go_roundw
        case rel => exact ⟨k + 1, m, _, _, by omega, by omega, by go_num, rfl, HO9, HBR⟩
        case measure => simp [intOf]; omega
    · obtain rfl : k = s.size := by omega
      have HTK : Asd (partN s.data.toList p n s.size = cutP s.data.toList p n) := Asd.mk (partN_cut s.data.toList p n)
      clear hlt
      have HO9 := HO.out
      rw [HTK.out] at HO9
      obtain ⟨A8, c8, e8, hib, _⟩ := of_own HO9 (by omega)
      injection e8 with e1 e2 e3
      subst e1 e3
      have hcv := run_string 134 9 5 Try.underlying134 Try.underlying5 Try.underlying9 c hib
      clear HO9 hib
      generalize hrr : (⟨(cutP s.data.toList p n).toArray⟩ : ByteArray) = rr at hcv
      have HRR := Asd.mk hrr
      clear hrr
      go_wp2
      go_ret
      exact ⟨ret_eq (by rw [HRR.out]; rfl), HBR.out⟩
end Go.Proofs.Ytinflndbfdbnhaa.Exp

/- value.Check of a right value; expr.Empty; eval.decided. -/
set_option linter.unusedVariables false
set_option linter.unusedSimpArgs false
namespace Go.Proofs.Ytinflndbfdbnhaa.Exp
open Go.RowKit Go.Proofs.Ytinflndbfdbnhaa.Base Go.Proofs.Ytinflndbfdbnhaa.App Go.Proofs.Ytinflndbfdbnhaa.Byt

theorem val_neqV (v : Vl) (w : World) : (binOp .neq 23 (vC v) (vC v)).run Try.prog w = .ok (.bool false) w := by
  have h : (binOp .neq 23 (vC v) (vC v)).run Try.prog w = .ok (.bool (!(v.kind == v.kind && (v.int == v.int && ((⟨v.text.toArray⟩ : ByteArray).toList == (⟨v.text.toArray⟩ : ByteArray).toList))))) w := Eqs.op_neq fun d => val_in d w _ _ _ _ _ _
  rw [h]
  simp
set_option maxRecDepth 100000 in
set_option maxHeartbeats 3200000 in
theorem vchk_0 (n : Int) (w : World) (h : n = 0) : Calls Try.prog 53 #[.agg #[.int .i64 0, .int .i64 n, .string ⟨#[]⟩]] w fun e w' => e = .returned (.int .i64 0) ∧ Below w.heap.size w w' := by
  subst h
  have hq := val_neqV vNull
  simp only [vC, vNull] at hq
  go_enter Try.func53, Try.ntmps53
  go_wp2
  go_ret
  exact ⟨rfl, by repeat (first | exact Below.refl _ _ | refine Below.alloc ?_ (by simp) _ | refine Below.setCell ?_ (by simp) _ | refine Below.drew ?_)⟩
set_option maxRecDepth 100000 in
set_option maxHeartbeats 3200000 in
theorem vchk_1 (n : Int) (w : World) (h : n = 0 ∨ n = 1) : Calls Try.prog 53 #[.agg #[.int .i64 1, .int .i64 n, .string ⟨#[]⟩]] w fun e w' => e = .returned (.int .i64 0) ∧ Below w.heap.size w w' := by
  have hq := val_neqV ⟨1, n, []⟩
  rcases h with rfl | rfl
  all_goals
    simp only [vC] at hq
    go_enter Try.func53, Try.ntmps53
    go_wp2
    go_ret
    exact ⟨rfl, by repeat (first | exact Below.refl _ _ | refine Below.alloc ?_ (by simp) _ | refine Below.setCell ?_ (by simp) _ | refine Below.drew ?_)⟩
set_option maxRecDepth 100000 in
set_option maxHeartbeats 3200000 in
theorem vchk_2 (n : Int) (w : World) : Calls Try.prog 53 #[.agg #[.int .i64 2, .int .i64 n, .string ⟨#[]⟩]] w fun e w' => e = .returned (.int .i64 0) ∧ Below w.heap.size w w' := by
  have hq := val_neqV ⟨2, n, []⟩
  simp only [vC] at hq
  go_enter Try.func53, Try.ntmps53
  go_wp2
  go_ret
  exact ⟨rfl, by repeat (first | exact Below.refl _ _ | refine Below.alloc ?_ (by simp) _ | refine Below.setCell ?_ (by simp) _ | refine Below.drew ?_)⟩
set_option maxRecDepth 100000 in
set_option maxHeartbeats 3200000 in
theorem vchk_3 (k : Int) (hk : k = 3 ∨ k = 4) (s : List UInt8) (w : World) : Calls Try.prog 53 #[.agg #[.int .i64 k, .int .i64 0, .string ⟨s.toArray⟩]] w fun e w' => e = .returned (.int .i64 0) ∧ Below w.heap.size w w' := by
  have hq := val_neqV ⟨k, 0, s⟩
  rcases hk with rfl | rfl
  all_goals
    simp only [vC] at hq
    go_enter Try.func53, Try.ntmps53
    go_wp2
    go_ret
    exact ⟨rfl, by repeat (first | exact Below.refl _ _ | refine Below.alloc ?_ (by simp) _ | refine Below.setCell ?_ (by simp) _ | refine Below.drew ?_)⟩
theorem vchk_calls (v : Vl) (h : RV v) (w : World) : Calls Try.prog 53 #[vC v] w fun e w' => e = .returned (.int .i64 0) ∧ Below w.heap.size w w' := by
  cases h with
  | null => exact vchk_0 0 w rfl
  | bool b => exact vchk_1 _ w (by cases b; exact .inl rfl; exact .inr rfl)
  | num n h => exact vchk_2 n w
  | text s h => exact vchk_3 3 (.inl rfl) s w
  | blob s h => exact vchk_3 4 (.inr rfl) s w
/-- The block of an expression. -/
abbrev xK (x : Ex) (s : Value) : Obj := .cells #[.int .i64 x.kind, .int .i64 x.op, .int .i64 x.v.kind, .int .i64 x.v.int, .string ⟨x.v.text.toArray⟩, .string ⟨x.table.toArray⟩, .string ⟨x.name.toArray⟩, .int .i64 x.col, .int .i64 x.ty, s] 26 (0, 0)
set_option maxRecDepth 100000 in
set_option maxHeartbeats 6400000 in
theorem empty_no (x : Ex) (A : Option Addr) (c : Nat) (w : World) (h : (lnG x.kind x.op x.args.length == 0) = true) :
    Calls Try.prog 21 #[exV x (.slice A x.args.length c)] w fun e w' => e = .returned (.bool true) ∧ Below w.heap.size w w' := by
  have HL := Asd.mk (fun W => line_any x.v.kind x.v.int x.col x.ty ⟨x.v.text.toArray⟩ ⟨x.table.toArray⟩ ⟨x.name.toArray⟩ A c W x.kind x.op x.args.length)
  have HX := Asd.mk (blk_new w (xK x (.slice A x.args.length c)))
  have HB : Asd (Below w.heap.size w (w.alloc (xK x (.slice A x.args.length c)))) := Asd.mk (below_alloc (Below.refl _ _) _)
  generalize lnG x.kind x.op x.args.length = L at h HL
  unfold exV
  go_enter Try.func21, Try.ntmps21
  go_upto_region 1 with fail
  generalize w.alloc _ = w1 at HX HB ⊢
  obtain ⟨e0, e1, e2, e3, e4, e5, e6, e7, e8, e9⟩ := ex_cells (x := x) HX.out
  go_wp2_with fail
  refine (HL.out _).mono ?_
  rintro e w2 ⟨rfl, hb2⟩
  have HB2 : Asd (Below w.heap.size w w2) := Asd.mk (HB.out.trans (hb2.mono HB.out.size))
  clear e0 e1 e2 e3 e4 e5 e6 e7 e8 e9 hb2
  go_wp2
  go_ret
  exact ⟨rfl, HB2.out⟩
set_option maxRecDepth 100000 in
set_option maxHeartbeats 6400000 in
theorem empty_lit (x : Ex) (hv : RV x.v) (A : Option Addr) (c : Nat) (w : World) (h : (lnG x.kind x.op x.args.length == 0) = false) (hk : (x.kind == 1) = true) :
    Calls Try.prog 21 #[exV x (.slice A x.args.length c)] w fun e w' => e = .returned (.bool false) ∧ Below w.heap.size w w' := by
  have HL := Asd.mk (fun W => line_any x.v.kind x.v.int x.col x.ty ⟨x.v.text.toArray⟩ ⟨x.table.toArray⟩ ⟨x.name.toArray⟩ A c W x.kind x.op x.args.length)
  have HV := Asd.mk (vchk_calls x.v hv)
  have HX := Asd.mk (blk_new w (xK x (.slice A x.args.length c)))
  have HB : Asd (Below w.heap.size w (w.alloc (xK x (.slice A x.args.length c)))) := Asd.mk (below_alloc (Below.refl _ _) _)
  clear hv
  generalize lnG x.kind x.op x.args.length = L at h HL
  unfold exV
  go_enter Try.func21, Try.ntmps21
  go_upto_region 1 with fail
  generalize w.alloc _ = w1 at HX HB ⊢
  obtain ⟨e0, e1, e2, e3, e4, e5, e6, e7, e8, e9⟩ := ex_cells (x := x) HX.out
  go_wp2_with fail
  refine (HL.out _).mono ?_
  rintro e w2 ⟨rfl, hb2⟩
  have HB2 : Asd (Below w.heap.size w w2) := Asd.mk (HB.out.trans (hb2.mono HB.out.size))
  have HX2 := Asd.mk (blk_below hb2 HX.out)
  clear e0 e1 e2 e3 e4 e5 e6 e7 e8 e9 hb2
  obtain ⟨e0, e1, e2, e3, e4, e5, e6, e7, e8, e9⟩ := ex_cells (x := x) HX2.out
  go_wp2_with fail
  refine (HV.out _).mono ?_
  rintro e w3 ⟨rfl, hb3⟩
  have HB3 : Asd (Below w.heap.size w w3) := Asd.mk (HB2.out.trans (hb3.mono HB2.out.size))
  clear e0 e1 e2 e3 e4 e5 e6 e7 e8 e9 hb3
  go_wp2
  go_ret
  exact ⟨rfl, HB3.out⟩
set_option maxRecDepth 100000 in
set_option maxHeartbeats 6400000 in
theorem empty_else (x : Ex) (b : Bool) (A : Option Addr) (c : Nat) (w : World) (h : (lnG x.kind x.op x.args.length == 0) = false) (hk : (x.kind == 1) = false) (hb : (x.kind == 2 && x.table == [] && x.name == []) = b) :
    Calls Try.prog 21 #[exV x (.slice A x.args.length c)] w fun e w' => e = .returned (.bool b) ∧ Below w.heap.size w w' := by
  have HL := Asd.mk (fun W => line_any x.v.kind x.v.int x.col x.ty ⟨x.v.text.toArray⟩ ⟨x.table.toArray⟩ ⟨x.name.toArray⟩ A c W x.kind x.op x.args.length)
  have HX := Asd.mk (blk_new w (xK x (.slice A x.args.length c)))
  have HB : Asd (Below w.heap.size w (w.alloc (xK x (.slice A x.args.length c)))) := Asd.mk (below_alloc (Below.refl _ _) _)
  have HH := Asd.mk hb
  clear hb
  generalize lnG x.kind x.op x.args.length = L at h HL
  unfold exV
  go_enter Try.func21, Try.ntmps21
  go_upto_region 1 with fail
  generalize w.alloc _ = w1 at HX HB ⊢
  obtain ⟨e0, e1, e2, e3, e4, e5, e6, e7, e8, e9⟩ := ex_cells (x := x) HX.out
  go_wp2_with fail
  refine (HL.out _).mono ?_
  rintro e w2 ⟨rfl, hb2⟩
  have HB2 : Asd (Below w.heap.size w w2) := Asd.mk (HB.out.trans (hb2.mono HB.out.size))
  have HX2 := Asd.mk (blk_below hb2 HX.out)
  clear e0 e1 e2 e3 e4 e5 e6 e7 e8 e9 hb2
  obtain ⟨e0, e1, e2, e3, e4, e5, e6, e7, e8, e9⟩ := ex_cells (x := x) HX2.out
  cases h2 : (x.kind == 2) with
  | false =>
    have HF : Asd (b = false) := Asd.mk (by rw [← HH.out, h2]; rfl)
    go_wp2
    go_ret
    exact ⟨ret_eq (by rw [HF.out]; rfl), HB2.out⟩
  | true =>
    cases h3 : (x.table == []) with
    | false =>
      have HF : Asd (b = false) := Asd.mk (by rw [← HH.out, h2, h3]; rfl)
      have h3' : ((⟨x.table.toArray⟩ : ByteArray).toList == (⟨#[]⟩ : ByteArray).toList) = false := by rw [show (⟨#[]⟩ : ByteArray) = ⟨([] : List UInt8).toArray⟩ from rfl, tl_eq, h3]
      go_wp2
      go_ret
      exact ⟨ret_eq (by rw [HF.out]; rfl), HB2.out⟩
    | true =>
      have h3' : ((⟨x.table.toArray⟩ : ByteArray).toList == (⟨#[]⟩ : ByteArray).toList) = true := by rw [show (⟨#[]⟩ : ByteArray) = ⟨([] : List UInt8).toArray⟩ from rfl, tl_eq, h3]
      have HF : Asd (b = (x.name == [])) := Asd.mk (by rw [← HH.out, h2, h3]; rfl)
      cases h4 : (x.name == []) with
      | false =>
        have h4' : ((⟨x.name.toArray⟩ : ByteArray).toList == (⟨#[]⟩ : ByteArray).toList) = false := by rw [show (⟨#[]⟩ : ByteArray) = ⟨([] : List UInt8).toArray⟩ from rfl, tl_eq, h4]
        rw [h4] at HF
        go_wp2
        go_ret
        exact ⟨ret_eq (by rw [HF.out]; rfl), HB2.out⟩
      | true =>
        have h4' : ((⟨x.name.toArray⟩ : ByteArray).toList == (⟨#[]⟩ : ByteArray).toList) = true := by rw [show (⟨#[]⟩ : ByteArray) = ⟨([] : List UInt8).toArray⟩ from rfl, tl_eq, h4]
        rw [h4] at HF
        go_wp2
        go_ret
        exact ⟨ret_eq (by rw [HF.out]; rfl), HB2.out⟩
/-- expr.Empty. -/
theorem empty_calls (x : Ex) (hv : RV x.v) (A : Option Addr) (c : Nat) (w : World) :
    Calls Try.prog 21 #[exV x (.slice A x.args.length c)] w fun e w' => e = .returned (.bool (emptyE x)) ∧ Below w.heap.size w w' := by
  unfold emptyE
  cases hL : (lnG x.kind x.op x.args.length == 0) with
  | true => exact empty_no x A c w hL
  | false =>
    cases hk : (x.kind == 1) with
    | true =>
      rw [show (x.kind == 2) = false by rw [beq_iff_eq] at hk; rw [hk]; rfl]
      exact empty_lit x hv A c w hL hk
    | false => exact empty_else x _ A c w hL hk rfl
set_option maxRecDepth 100000 in
set_option maxHeartbeats 6400000 in
theorem dec_and (a2 a3 a7 a8 : Int) (s4 s5 s6 : ByteArray) (sl : Value) (v : Vl) (w : World) :
    Calls Try.prog 22 #[.agg #[.int .i64 4, .int .i64 4, .int .i64 a2, .int .i64 a3, .string s4, .string s5, .string s6, .int .i64 a7, .int .i64 a8, sl], vC v] w fun e w' => e = .returned (.bool (eqV v (vTru false))) ∧ Below w.heap.size w w' := by
  have HX := Asd.mk (nb1 w (.cells #[.int .i64 4, .int .i64 4, .int .i64 a2, .int .i64 a3, .string s4, .string s5, .string s6, .int .i64 a7, .int .i64 a8, sl] 26 (0, 0)) (vK v))
  have HE := Asd.mk (blk_alloc (blk_new w (.cells #[.int .i64 4, .int .i64 4, .int .i64 a2, .int .i64 a3, .string s4, .string s5, .string s6, .int .i64 a7, .int .i64 a8, sl] 26 (0, 0))) (vK v))
  have HB : Asd (Below w.heap.size w ((w.alloc (.cells #[.int .i64 4, .int .i64 4, .int .i64 a2, .int .i64 a3, .string s4, .string s5, .string s6, .int .i64 a7, .int .i64 a8, sl] 26 (0, 0))).alloc (vK v))) := Asd.mk (below_alloc (below_alloc (Below.refl _ _) _) _)
  have hve : ∀ W, (binOp .eql 23 (vC v) (vC (vTru false))).run Try.prog W = .ok (.bool (eqV v (vTru false))) W := fun W => vC_eql _ _ W
  generalize eqV v (vTru false) = q at hve ⊢
  simp only [vC, vTru, Bool.false_eq_true, if_true, if_false] at hve ⊢
  go_enter Try.func22, Try.ntmps22
  go_upto_region 1 with fail
  generalize (w.alloc (.cells #[.int .i64 4, .int .i64 4, .int .i64 a2, .int .i64 a3, .string s4, .string s5, .string s6, .int .i64 a7, .int .i64 a8, sl] 26 (0, 0))).alloc (vK v) = w1 at HX HE HB ⊢
  have e0 := (blk_cell HE.out 0).trans rfl
  have e1 := (blk_cell HE.out 1).trans rfl
  go_upto_region 2 with fail
  have HS : Asd (∀ w', Below w.heap.size w w' ∧ w'.heap[w.heap.size + 1]? = some (vK v) → w'.cell? ⟨w.heap.size + 1, 0, none⟩ = some (.int .i64 v.kind) ∧ w'.cell? ⟨w.heap.size + 1, 1, none⟩ = some (.int .i64 v.int) ∧ w'.cell? ⟨w.heap.size + 1, 2, none⟩ = some (.string ⟨v.text.toArray⟩) ∧ Below w.heap.size w w' ∧ w'.heap[w.heap.size + 1]? = some (vK v)) := Asd.mk fun w' hb => ⟨(val_cells hb.2).1, (val_cells hb.2).2.1, (val_cells hb.2).2.2, hb⟩
  clear e0 e1
  go_region_held3 (fun w' => w'.cell? ⟨w.heap.size + 1, 0, none⟩ = some (.int .i64 v.kind) ∧ w'.cell? ⟨w.heap.size + 1, 1, none⟩ = some (.int .i64 v.int) ∧ w'.cell? ⟨w.heap.size + 1, 2, none⟩ = some (.string ⟨v.text.toArray⟩) ∧ Below w.heap.size w w' ∧ w'.heap[w.heap.size + 1]? = some (vK v))
    (first
      | exact HS.out _ ⟨HB.out, HX.out⟩
      | exact HS.out _ ⟨HB.out.drew, HX.out⟩
      | exact HS.out _ ⟨HB2.out, HX2.out⟩
      | (go_split_ands; exact HS.out _ ⟨by assumption, by assumption⟩)
      | fail)
    (first
      | (go_at_call 25
         refine (etruth_calls false _).mono ?_
         rintro e w2 ⟨rfl, hb2⟩
         have HB2 : Asd (Below w.heap.size w w2) := Asd.mk (HB.out.drew.trans (hb2.mono HB.out.drew.size))
         have HX2 : Asd (w2.heap[w.heap.size + 1]? = some (vK v)) := Asd.mk (blk_below hb2 (show w1.drew.heap[w.heap.size + 1]? = some (vK v) from HX.out))
         simp only [vC, vTru, Bool.false_eq_true, if_true, if_false])
      | fail)
  go_wp2
  go_ret
  exact ⟨rfl, HB2.out⟩
set_option maxRecDepth 100000 in
set_option maxHeartbeats 6400000 in
theorem dec_or (a2 a3 a7 a8 : Int) (s4 s5 s6 : ByteArray) (sl : Value) (v : Vl) (w : World) :
    Calls Try.prog 22 #[.agg #[.int .i64 4, .int .i64 3, .int .i64 a2, .int .i64 a3, .string s4, .string s5, .string s6, .int .i64 a7, .int .i64 a8, sl], vC v] w fun e w' => e = .returned (.bool (eqV v (vTru true))) ∧ Below w.heap.size w w' := by
  have HX := Asd.mk (nb1 w (.cells #[.int .i64 4, .int .i64 3, .int .i64 a2, .int .i64 a3, .string s4, .string s5, .string s6, .int .i64 a7, .int .i64 a8, sl] 26 (0, 0)) (vK v))
  have HE := Asd.mk (blk_alloc (blk_new w (.cells #[.int .i64 4, .int .i64 3, .int .i64 a2, .int .i64 a3, .string s4, .string s5, .string s6, .int .i64 a7, .int .i64 a8, sl] 26 (0, 0))) (vK v))
  have HB : Asd (Below w.heap.size w ((w.alloc (.cells #[.int .i64 4, .int .i64 3, .int .i64 a2, .int .i64 a3, .string s4, .string s5, .string s6, .int .i64 a7, .int .i64 a8, sl] 26 (0, 0))).alloc (vK v))) := Asd.mk (below_alloc (below_alloc (Below.refl _ _) _) _)
  have hve : ∀ W, (binOp .eql 23 (vC v) (vC (vTru true))).run Try.prog W = .ok (.bool (eqV v (vTru true))) W := fun W => vC_eql _ _ W
  generalize eqV v (vTru true) = q at hve ⊢
  simp only [vC, vTru, Bool.false_eq_true, if_true, if_false] at hve ⊢
  go_enter Try.func22, Try.ntmps22
  go_upto_region 1 with fail
  generalize (w.alloc (.cells #[.int .i64 4, .int .i64 3, .int .i64 a2, .int .i64 a3, .string s4, .string s5, .string s6, .int .i64 a7, .int .i64 a8, sl] 26 (0, 0))).alloc (vK v) = w1 at HX HE HB ⊢
  have e0 := (blk_cell HE.out 0).trans rfl
  have e1 := (blk_cell HE.out 1).trans rfl
  go_upto_region 4 with fail
  have HS : Asd (∀ w', Below w.heap.size w w' ∧ w'.heap[w.heap.size + 1]? = some (vK v) → w'.cell? ⟨w.heap.size + 1, 0, none⟩ = some (.int .i64 v.kind) ∧ w'.cell? ⟨w.heap.size + 1, 1, none⟩ = some (.int .i64 v.int) ∧ w'.cell? ⟨w.heap.size + 1, 2, none⟩ = some (.string ⟨v.text.toArray⟩) ∧ Below w.heap.size w w' ∧ w'.heap[w.heap.size + 1]? = some (vK v)) := Asd.mk fun w' hb => ⟨(val_cells hb.2).1, (val_cells hb.2).2.1, (val_cells hb.2).2.2, hb⟩
  clear e0 e1
  go_region_held3 (fun w' => w'.cell? ⟨w.heap.size + 1, 0, none⟩ = some (.int .i64 v.kind) ∧ w'.cell? ⟨w.heap.size + 1, 1, none⟩ = some (.int .i64 v.int) ∧ w'.cell? ⟨w.heap.size + 1, 2, none⟩ = some (.string ⟨v.text.toArray⟩) ∧ Below w.heap.size w w' ∧ w'.heap[w.heap.size + 1]? = some (vK v))
    (first
      | exact HS.out _ ⟨HB.out, HX.out⟩
      | exact HS.out _ ⟨HB.out.drew, HX.out⟩
      | exact HS.out _ ⟨HB2.out, HX2.out⟩
      | (go_split_ands; exact HS.out _ ⟨by assumption, by assumption⟩)
      | fail)
    (first
      | (go_at_call 25
         refine (etruth_calls true _).mono ?_
         rintro e w2 ⟨rfl, hb2⟩
         have HB2 : Asd (Below w.heap.size w w2) := Asd.mk (HB.out.drew.trans (hb2.mono HB.out.drew.size))
         have HX2 : Asd (w2.heap[w.heap.size + 1]? = some (vK v)) := Asd.mk (blk_below hb2 (show w1.drew.heap[w.heap.size + 1]? = some (vK v) from HX.out))
         simp only [vC, vTru, Bool.false_eq_true, if_true, if_false])
      | fail)
  go_wp2
  go_ret
  exact ⟨rfl, HB2.out⟩
set_option maxRecDepth 100000 in
set_option maxHeartbeats 6400000 in
theorem dec_bin (o : Int) (a2 a3 a7 a8 : Int) (s4 s5 s6 : ByteArray) (sl : Value) (v : Vl) (w : World) (h3 : (o == 3) = false) (h4 : (o == 4) = false) :
    Calls Try.prog 22 #[.agg #[.int .i64 4, .int .i64 o, .int .i64 a2, .int .i64 a3, .string s4, .string s5, .string s6, .int .i64 a7, .int .i64 a8, sl], vC v] w fun e w' => e = .returned (.bool false) ∧ Below w.heap.size w w' := by
  have HX := Asd.mk (nb1 w (.cells #[.int .i64 4, .int .i64 o, .int .i64 a2, .int .i64 a3, .string s4, .string s5, .string s6, .int .i64 a7, .int .i64 a8, sl] 26 (0, 0)) (vK v))
  have HE := Asd.mk (blk_alloc (blk_new w (.cells #[.int .i64 4, .int .i64 o, .int .i64 a2, .int .i64 a3, .string s4, .string s5, .string s6, .int .i64 a7, .int .i64 a8, sl] 26 (0, 0))) (vK v))
  have HB : Asd (Below w.heap.size w ((w.alloc (.cells #[.int .i64 4, .int .i64 o, .int .i64 a2, .int .i64 a3, .string s4, .string s5, .string s6, .int .i64 a7, .int .i64 a8, sl] 26 (0, 0))).alloc (vK v))) := Asd.mk (below_alloc (below_alloc (Below.refl _ _) _) _)
  unfold vC
  go_enter Try.func22, Try.ntmps22
  go_upto_region 1 with fail
  generalize (w.alloc (.cells #[.int .i64 4, .int .i64 o, .int .i64 a2, .int .i64 a3, .string s4, .string s5, .string s6, .int .i64 a7, .int .i64 a8, sl] 26 (0, 0))).alloc (vK v) = w1 at HX HE HB ⊢
  have e0 := (blk_cell HE.out 0).trans rfl
  have e1 := (blk_cell HE.out 1).trans rfl
  obtain ⟨v0, v1, v2⟩ := val_cells HX.out
  go_wp2
  go_ret
  exact ⟨rfl, HB.out⟩
set_option maxRecDepth 100000 in
set_option maxHeartbeats 6400000 in
theorem dec_coal (a2 a3 a7 a8 : Int) (s4 s5 s6 : ByteArray) (sl : Value) (v : Vl) (w : World) :
    Calls Try.prog 22 #[.agg #[.int .i64 5, .int .i64 6, .int .i64 a2, .int .i64 a3, .string s4, .string s5, .string s6, .int .i64 a7, .int .i64 a8, sl], vC v] w fun e w' => e = .returned (.bool (v.kind != 0)) ∧ Below w.heap.size w w' := by
  have HX := Asd.mk (nb1 w (.cells #[.int .i64 5, .int .i64 6, .int .i64 a2, .int .i64 a3, .string s4, .string s5, .string s6, .int .i64 a7, .int .i64 a8, sl] 26 (0, 0)) (vK v))
  have HE := Asd.mk (blk_alloc (blk_new w (.cells #[.int .i64 5, .int .i64 6, .int .i64 a2, .int .i64 a3, .string s4, .string s5, .string s6, .int .i64 a7, .int .i64 a8, sl] 26 (0, 0))) (vK v))
  have HB : Asd (Below w.heap.size w ((w.alloc (.cells #[.int .i64 5, .int .i64 6, .int .i64 a2, .int .i64 a3, .string s4, .string s5, .string s6, .int .i64 a7, .int .i64 a8, sl] 26 (0, 0))).alloc (vK v))) := Asd.mk (below_alloc (below_alloc (Below.refl _ _) _) _)
  unfold vC
  go_enter Try.func22, Try.ntmps22
  go_upto_region 1 with fail
  generalize (w.alloc (.cells #[.int .i64 5, .int .i64 6, .int .i64 a2, .int .i64 a3, .string s4, .string s5, .string s6, .int .i64 a7, .int .i64 a8, sl] 26 (0, 0))).alloc (vK v) = w1 at HX HE HB ⊢
  have e0 := (blk_cell HE.out 0).trans rfl
  have e1 := (blk_cell HE.out 1).trans rfl
  obtain ⟨v0, v1, v2⟩ := val_cells HX.out
  go_wp2
  go_ret
  exact ⟨rfl, HB.out⟩
set_option maxRecDepth 100000 in
set_option maxHeartbeats 6400000 in
theorem dec_call (o : Int) (a2 a3 a7 a8 : Int) (s4 s5 s6 : ByteArray) (sl : Value) (v : Vl) (w : World) (h6 : (o == 6) = false) :
    Calls Try.prog 22 #[.agg #[.int .i64 5, .int .i64 o, .int .i64 a2, .int .i64 a3, .string s4, .string s5, .string s6, .int .i64 a7, .int .i64 a8, sl], vC v] w fun e w' => e = .returned (.bool false) ∧ Below w.heap.size w w' := by
  have HX := Asd.mk (nb1 w (.cells #[.int .i64 5, .int .i64 o, .int .i64 a2, .int .i64 a3, .string s4, .string s5, .string s6, .int .i64 a7, .int .i64 a8, sl] 26 (0, 0)) (vK v))
  have HE := Asd.mk (blk_alloc (blk_new w (.cells #[.int .i64 5, .int .i64 o, .int .i64 a2, .int .i64 a3, .string s4, .string s5, .string s6, .int .i64 a7, .int .i64 a8, sl] 26 (0, 0))) (vK v))
  have HB : Asd (Below w.heap.size w ((w.alloc (.cells #[.int .i64 5, .int .i64 o, .int .i64 a2, .int .i64 a3, .string s4, .string s5, .string s6, .int .i64 a7, .int .i64 a8, sl] 26 (0, 0))).alloc (vK v))) := Asd.mk (below_alloc (below_alloc (Below.refl _ _) _) _)
  unfold vC
  go_enter Try.func22, Try.ntmps22
  go_upto_region 1 with fail
  generalize (w.alloc (.cells #[.int .i64 5, .int .i64 o, .int .i64 a2, .int .i64 a3, .string s4, .string s5, .string s6, .int .i64 a7, .int .i64 a8, sl] 26 (0, 0))).alloc (vK v) = w1 at HX HE HB ⊢
  have e0 := (blk_cell HE.out 0).trans rfl
  have e1 := (blk_cell HE.out 1).trans rfl
  obtain ⟨v0, v1, v2⟩ := val_cells HX.out
  go_wp2
  go_ret
  exact ⟨rfl, HB.out⟩
set_option maxRecDepth 100000 in
set_option maxHeartbeats 6400000 in
theorem dec_k (k o : Int) (a2 a3 a7 a8 : Int) (s4 s5 s6 : ByteArray) (sl : Value) (v : Vl) (w : World) (h4 : (k == 4) = false) (h5 : (k == 5) = false) :
    Calls Try.prog 22 #[.agg #[.int .i64 k, .int .i64 o, .int .i64 a2, .int .i64 a3, .string s4, .string s5, .string s6, .int .i64 a7, .int .i64 a8, sl], vC v] w fun e w' => e = .returned (.bool false) ∧ Below w.heap.size w w' := by
  have HX := Asd.mk (nb1 w (.cells #[.int .i64 k, .int .i64 o, .int .i64 a2, .int .i64 a3, .string s4, .string s5, .string s6, .int .i64 a7, .int .i64 a8, sl] 26 (0, 0)) (vK v))
  have HE := Asd.mk (blk_alloc (blk_new w (.cells #[.int .i64 k, .int .i64 o, .int .i64 a2, .int .i64 a3, .string s4, .string s5, .string s6, .int .i64 a7, .int .i64 a8, sl] 26 (0, 0))) (vK v))
  have HB : Asd (Below w.heap.size w ((w.alloc (.cells #[.int .i64 k, .int .i64 o, .int .i64 a2, .int .i64 a3, .string s4, .string s5, .string s6, .int .i64 a7, .int .i64 a8, sl] 26 (0, 0))).alloc (vK v))) := Asd.mk (below_alloc (below_alloc (Below.refl _ _) _) _)
  unfold vC
  go_enter Try.func22, Try.ntmps22
  go_upto_region 1 with fail
  generalize (w.alloc (.cells #[.int .i64 k, .int .i64 o, .int .i64 a2, .int .i64 a3, .string s4, .string s5, .string s6, .int .i64 a7, .int .i64 a8, sl] 26 (0, 0))).alloc (vK v) = w1 at HX HE HB ⊢
  have e0 := (blk_cell HE.out 0).trans rfl
  have e1 := (blk_cell HE.out 1).trans rfl
  obtain ⟨v0, v1, v2⟩ := val_cells HX.out
  go_wp2
  go_ret
  exact ⟨rfl, HB.out⟩
/-- eval.decided. -/
theorem decided_calls (x : Ex) (sl : Value) (v : Vl) (w : World) : Calls Try.prog 22 #[exV x sl, vC v] w fun e w' => e = .returned (.bool (decP x.kind x.op v)) ∧ Below w.heap.size w w' := by
  unfold exV decP
  generalize x.kind = k
  generalize x.op = o
  by_cases h4 : k = 4
  · subst h4
    by_cases h : o = 4
    · subst h; exact dec_and _ _ _ _ _ _ _ _ v w
    · rw [if_neg (by rintro ⟨_, h'⟩; exact h h')]
      by_cases h3 : o = 3
      · subst h3; exact dec_or _ _ _ _ _ _ _ _ v w
      · rw [if_neg (by rintro ⟨_, h'⟩; exact h3 h')]
        exact dec_bin o _ _ _ _ _ _ _ _ v w (by simpa using h3) (by simpa using h)
  · rw [if_neg (by rintro ⟨h', _⟩; exact h4 h'), if_neg (by rintro ⟨h', _⟩; exact h4 h')]
    by_cases h5 : k = 5
    · subst h5
      by_cases h6 : o = 6
      · subst h6; exact dec_coal _ _ _ _ _ _ _ _ v w
      · rw [show (o == 6) = false by simpa using h6]
        exact dec_call o _ _ _ _ _ _ _ _ v w (by simpa using h6)
    · rw [show (k == 5) = false by simpa using h5]
      exact dec_k k o _ _ _ _ _ _ _ _ v w (by simpa using h4) (by simpa using h5)
end Go.Proofs.Ytinflndbfdbnhaa.Exp

/- calc: cut. -/
set_option linter.unusedVariables false
set_option linter.unusedSimpArgs false
namespace Go.Proofs.Ytinflndbfdbnhaa.Exp
open Go.RowKit Go.Proofs.Ytinflndbfdbnhaa.Base Go.Proofs.Ytinflndbfdbnhaa.App Go.Proofs.Ytinflndbfdbnhaa.Byt

set_option maxRecDepth 100000 in
theorem cut_none (s : ByteArray) (p n : Int) (h : n ≤ 0) (w : World) : Calls Try.prog 113 #[.string s, .int .i64 p, .int .i64 n] w fun e w' => e = .returned (.string ⟨#[]⟩) ∧ w' = w := by
  go_enter Try.func113, Try.ntmps113
  go_wp2
  go_ret
  exact ⟨rfl, rfl⟩
set_option maxRecDepth 100000 in
theorem cut_far (s : ByteArray) (p n : Int) (h : ¬ n ≤ 0) (hp : (s.size : Int) < p) (w : World) : Calls Try.prog 113 #[.string s, .int .i64 p, .int .i64 n] w fun e w' => e = .returned (.string ⟨#[]⟩) ∧ w' = w := by
  go_enter Try.func113, Try.ntmps113
  go_wp2
  go_ret
  exact ⟨rfl, rfl⟩
set_option maxRecDepth 100000 in
theorem cut_in (s : ByteArray) (p n : Int) (h : ¬ n ≤ 0) (hn : n ≤ 9223372036854775807) (hp : ¬ (s.size : Int) < p) (h1 : ¬ p < 1) (hs : s.size ≤ 140737488351232) (w : World) : Calls Try.prog 113 #[.string s, .int .i64 p, .int .i64 n] w fun e w' => e = .returned (.string (s.extract (p.toNat - 1) (p - 1 + min n (s.size - p + 1)).toNat)) ∧ w' = w := by
  go_enter Try.func113, Try.ntmps113
  go_wp2
  go_ret
  exact ⟨rfl, rfl⟩
set_option maxRecDepth 100000 in
theorem cut_ahead (s : ByteArray) (p n a : Int) (h : ¬ n ≤ 0) (hn : n ≤ 9223372036854775807) (hp : ¬ (s.size : Int) < p) (h1 : p < 1) (hA : IntKind.u64.wrap (wrap64 (1 - p)) = a) (hna : n ≤ a) (hs : s.size ≤ 140737488351232) (w : World) : Calls Try.prog 113 #[.string s, .int .i64 p, .int .i64 n] w fun e w' => e = .returned (.string ⟨#[]⟩) ∧ w' = w := by
  go_enter Try.func113, Try.ntmps113
  go_wp2
  go_ret
  exact ⟨rfl, rfl⟩
set_option maxRecDepth 100000 in
theorem cut_neg (s : ByteArray) (p n a : Int) (h : ¬ n ≤ 0) (hn : n ≤ 9223372036854775807) (hp : ¬ (s.size : Int) < p) (h1 : p < 1) (hA : IntKind.u64.wrap (wrap64 (1 - p)) = a) (hna : ¬ n ≤ a) (h0 : 0 ≤ a) (hs : s.size ≤ 140737488351232) (w : World) : Calls Try.prog 113 #[.string s, .int .i64 p, .int .i64 n] w fun e w' => e = .returned (.string (s.extract 0 (min (n - a) s.size).toNat)) ∧ w' = w := by
  go_enter Try.func113, Try.ntmps113
  go_wp2
  go_ret
  exact ⟨rfl, rfl⟩
theorem ext_list (s : ByteArray) (i j : Nat) : s.extract i j = ⟨((s.data.toList.drop i).take (j - i)).toArray⟩ := by
  apply ByteArray.ext
  apply Array.toList_inj.mp
  rw [ByteArray.data_extract, Array.toList_extract, List.extract_eq_take_drop]
theorem cut_calls (s : ByteArray) (p n : Int) (hs : s.size ≤ reachBytes) (hp : inI p) (hn : inI n) (w : World) : Calls Try.prog 113 #[.string s, .int .i64 p, .int .i64 n] w fun e w' => e = .returned (.string ⟨(cutP s.data.toList p n).toArray⟩) ∧ w' = w := by
  have hs : s.size ≤ 140737488351232 := hs
  have hl : s.data.toList.length = s.size := rfl
  by_cases h0 : n ≤ 0
  · rw [show cutP s.data.toList p n = [] by unfold cutP; rw [if_pos (.inl h0)]]
    exact cut_none s p n h0 w
  by_cases hf : (s.size : Int) < p
  · rw [show cutP s.data.toList p n = [] by unfold cutP; rw [if_pos (.inr hf)]]
    exact cut_far s p n h0 hf w
  have hno : ¬ (n ≤ 0 ∨ (s.data.toList.length : Int) < p) := by rintro (h | h); exact h0 h; exact hf h
  by_cases h1 : p < 1
  · have hA : IntKind.u64.wrap (wrap64 (1 - p)) = 1 - p := by
      have := hp.1
      rw [IntKind.wrap_u64]; unfold wrap64; omega
    by_cases ha : n ≤ 1 - p
    · rw [show cutP s.data.toList p n = [] by unfold cutP; rw [if_neg hno, if_pos h1, if_pos ha]]
      exact cut_ahead s p n _ h0 hn.2 hf h1 hA ha hs w
    · rw [show cutP s.data.toList p n = s.data.toList.take (n - (1 - p)).toNat by unfold cutP; rw [if_neg hno, if_pos h1, if_neg ha]]
      have h := cut_neg s p n _ h0 hn.2 hf h1 hA ha (by omega) hs w
      rw [ext_list, List.drop_zero, Nat.sub_zero] at h
      rw [show (s.data.toList.take (n - (1 - p)).toNat) = s.data.toList.take (min (n - (1 - p)) (s.size : Int)).toNat by
        by_cases hle : n - (1 - p) ≤ (s.size : Int)
        · rw [Int.min_eq_left hle]
        · rw [Int.min_eq_right (by omega), List.take_of_length_le (by omega), List.take_of_length_le (by omega)]]
      exact h
  · rw [show cutP s.data.toList p n = (s.data.toList.drop (p - 1).toNat).take n.toNat by unfold cutP; rw [if_neg hno, if_neg h1]]
    have h := cut_in s p n h0 hn.2 hf h1 hs w
    rw [ext_list] at h
    have hd : (s.data.toList.drop (p - 1).toNat).length = s.size - (p - 1).toNat := by rw [List.length_drop]; rfl
    rw [show p.toNat - 1 = (p - 1).toNat by omega] at h
    rw [show (s.data.toList.drop (p - 1).toNat).take n.toNat = (s.data.toList.drop (p - 1).toNat).take ((p - 1 + min n (s.size - p + 1)).toNat - (p - 1).toNat) by
      by_cases hle : n ≤ s.size - p + 1
      · rw [Int.min_eq_left hle]; congr 1; omega
      · rw [Int.min_eq_right (by omega), List.take_of_length_le (by rw [hd]; omega), List.take_of_length_le (by rw [hd]; omega)]]
    exact h
end Go.Proofs.Ytinflndbfdbnhaa.Exp

/- calc.Call. -/
set_option linter.unusedVariables false
set_option linter.unusedSimpArgs false
namespace Go.Proofs.Ytinflndbfdbnhaa.Exp
open Go.RowKit Go.Proofs.Ytinflndbfdbnhaa.Base Go.Proofs.Ytinflndbfdbnhaa.App Go.Proofs.Ytinflndbfdbnhaa.Byt

/-- A value lies at a place of a block. -/
def ValAt (W : World) (g o : Nat) (v : Vl) : Prop := W.cell? ⟨g, o, none⟩ = some (.int .i64 v.kind) ∧ W.cell? ⟨g, o + 1, none⟩ = some (.int .i64 v.int) ∧ W.cell? ⟨g, o + 2, none⟩ = some (.string ⟨v.text.toArray⟩)
theorem ValAt.below {W W' : World} {g o : Nat} {v : Vl} (h : ValAt W g o v) (hb : Below W.heap.size W W') : ValAt W' g o v :=
  ⟨(hb.cell (World.block_lt_of_cell? W _ h.1)).trans h.1, (hb.cell (World.block_lt_of_cell? W _ h.2.1)).trans h.2.1, (hb.cell (World.block_lt_of_cell? W _ h.2.2)).trans h.2.2⟩
/-- The slice at A holds these values. -/
def ValSl (W : World) (A : Option Addr) (vs : List Vl) : Prop := 0 < vs.length → ∃ g o, A = some ⟨g, o, none⟩ ∧ ∀ i (h : i < vs.length), ValAt W g (o + i * 3) vs[i]
theorem ValSl.below {W W' : World} {A : Option Addr} {vs : List Vl} (h : ValSl W A vs) (hb : Below W.heap.size W W') : ValSl W' A vs := fun h0 => by
  obtain ⟨g, o, rfl, h1⟩ := h h0
  exact ⟨g, o, rfl, fun i hi => (h1 i hi).below hb⟩
def FJ (f : Int) (j : Nat) : Prop := (f = 1 ∧ j = 0) ∨ (f = 2 ∧ j = 0) ∨ (f = 3 ∧ j = 0) ∨ (f = 4 ∧ j = 0) ∨ (f = 5 ∧ j = 0) ∨ (f = 5 ∧ j = 1) ∨ (f = 5 ∧ j = 2)
set_option maxRecDepth 100000 in
set_option maxHeartbeats 6400000 in
theorem takes_calls (f : Int) (j : Nat) (k : Int) (h : FJ f j) (hk : 0 ≤ k ∧ k ≤ 4) (w : World) : Calls Try.prog 68 #[.int .i64 f, .int .i64 (j : Int), .int .i64 k] w fun e w' => e = .returned (.bool (takesP f j k)) ∧ w' = w := by
  rcases (show k = 0 ∨ k = 1 ∨ k = 2 ∨ k = 3 ∨ k = 4 by omega) with rfl | rfl | rfl | rfl | rfl <;> rcases h with ⟨rfl, rfl⟩ | ⟨rfl, rfl⟩ | ⟨rfl, rfl⟩ | ⟨rfl, rfl⟩ | ⟨rfl, rfl⟩ | ⟨rfl, rfl⟩ | ⟨rfl, rfl⟩
  all_goals
    go_enter Try.func68, Try.ntmps68
    go_wp2
    go_ret
    exact ⟨rfl, rfl⟩
set_option maxRecDepth 100000 in
set_option maxHeartbeats 6400000 in
theorem called_1 (k i : Int) (s : List UInt8) (g o c : Nat) (w : World) (h : ∀ j (h : j < ([⟨k, i, s⟩] : List Vl).length), ValAt w g (o + j * 3) ([⟨k, i, s⟩] : List Vl)[j]) :
    Calls Try.prog 69 #[.int .i64 1, .slice (some ⟨g, o, none⟩) 1 c] w (EvR (.ok (vNum s.length)) w) := by
  have HV := Asd.mk h
  have HX := Asd.mk (blk_new w zeroV)
  have HB : Asd (Below w.heap.size w (w.alloc zeroV)) := Asd.mk (below_alloc (Below.refl _ _) _)
  clear h
  have hsz : (⟨s.toArray⟩ : ByteArray).size = s.length := rfl
  go_enter Try.func69, Try.ntmps69
  go_upto_region 1 with fail
  generalize w.alloc _ = w1 at HX HB ⊢
  obtain ⟨p00, p01, p02⟩ := (HV.out 0 (by simp)).below HB.out
  simp only [List.getElem_cons_zero, List.getElem_cons_succ, Nat.zero_mul, Nat.one_mul, Nat.add_zero, Nat.reduceMul, Nat.add_assoc, Nat.reduceAdd] at p00 p01 p02
  have HX2 := Asd.mk (blk_alloc HX.out (vK ⟨k, i, s⟩))
  have HV2 := Asd.mk (blk_new w1 (vK ⟨k, i, s⟩))
  have HB2 : Asd (Below w.heap.size w (w1.alloc (vK ⟨k, i, s⟩))) := Asd.mk (below_alloc HB.out _)
  have HB12 : Asd (Below w1.heap.size w1 (w1.alloc (vK ⟨k, i, s⟩))) := Asd.mk (below_alloc (Below.refl _ _) _)
  go_upto_region 2 with fail
  generalize w1.alloc _ = w2 at HX2 HV2 HB2 HB12 ⊢
  have HL5 : Asd (w.heap.size < w1.heap.size) := Asd.mk (blk_lt HX.out)
  generalize w1.heap.size = b5 at HV2 HL5 ⊢
  clear p00 p01 p02
  obtain ⟨v0, v1, v2⟩ := val_cells HV2.out
  simp only at v0 v1 v2
  obtain ⟨⟨x0, x1, x2⟩, y0, y1, y2⟩ := zero_cells HX2.out
  go_wp2_with fail
  refine (number_calls s.length _).mono ?_
  rintro e w3 ⟨rfl, hb3⟩
  have HX3 := Asd.mk (blk_below hb3 HX2.out)
  have HB3 : Asd (Below w.heap.size w w3) := Asd.mk (HB2.out.trans (hb3.mono HB2.out.size))
  clear x0 x1 x2 y0 y1 y2 v0 v1 v2 hb3
  obtain ⟨⟨x0, x1, x2⟩, y0, y1, y2⟩ := zero_cells HX3.out
  unfold vC
  go_wp2
  refine val_ret rfl w.heap.size _ _ _ rfl (put3_blk HX3.out _ _ _) rfl ?_
  exact ⟨below_put3 HB3.out (Nat.le_refl _) _ _ _, rfl⟩
set_option maxRecDepth 100000 in
set_option maxHeartbeats 6400000 in
theorem called_2 (k i : Int) (s : List UInt8) (h1 : (i != (-9223372036854775808 : Int)) = true) (hlo : -9223372036854775808 < i) (hhi : i ≤ 9223372036854775807) (g o c : Nat) (w : World) (h : ∀ j (h : j < ([⟨k, i, s⟩] : List Vl).length), ValAt w g (o + j * 3) ([⟨k, i, s⟩] : List Vl)[j]) :
    Calls Try.prog 69 #[.int .i64 2, .slice (some ⟨g, o, none⟩) 1 c] w (EvR (.ok (vNum (max i (-i)))) w) := by
  have HV := Asd.mk h
  have HX := Asd.mk (blk_new w zeroV)
  have HB : Asd (Below w.heap.size w (w.alloc zeroV)) := Asd.mk (below_alloc (Below.refl _ _) _)
  clear h
  go_enter Try.func69, Try.ntmps69
  go_upto_region 1 with fail
  generalize w.alloc _ = w1 at HX HB ⊢
  obtain ⟨p00, p01, p02⟩ := (HV.out 0 (by simp)).below HB.out
  simp only [List.getElem_cons_zero, List.getElem_cons_succ, Nat.zero_mul, Nat.one_mul, Nat.add_zero, Nat.reduceMul, Nat.add_assoc, Nat.reduceAdd] at p00 p01 p02
  have HX2 := Asd.mk (blk_alloc HX.out (vK ⟨k, i, s⟩))
  have HV2 := Asd.mk (blk_new w1 (vK ⟨k, i, s⟩))
  have HB2 : Asd (Below w.heap.size w (w1.alloc (vK ⟨k, i, s⟩))) := Asd.mk (below_alloc HB.out _)
  have HB12 : Asd (Below w1.heap.size w1 (w1.alloc (vK ⟨k, i, s⟩))) := Asd.mk (below_alloc (Below.refl _ _) _)
  go_upto_region 2 with fail
  generalize w1.alloc _ = w2 at HX2 HV2 HB2 HB12 ⊢
  have HL5 : Asd (w.heap.size < w1.heap.size) := Asd.mk (blk_lt HX.out)
  generalize w1.heap.size = b5 at HV2 HL5 ⊢
  clear p00 p01 p02
  obtain ⟨v0, v1, v2⟩ := val_cells HV2.out
  simp only at v0 v1 v2
  obtain ⟨⟨x0, x1, x2⟩, y0, y1, y2⟩ := zero_cells HX2.out
  go_wp2_with fail
  refine (check_ok 40 _).mono ?_
  rintro e w' ⟨rfl, rfl⟩
  go_wp2_with fail
  refine (number_calls (max i (-i)) _).mono ?_
  rintro e w3 ⟨rfl, hb3⟩
  have HX3 := Asd.mk (blk_below hb3 HX2.out)
  have HB3 : Asd (Below w.heap.size w w3) := Asd.mk (HB2.out.trans (hb3.mono HB2.out.size))
  clear x0 x1 x2 y0 y1 y2 v0 v1 v2 hb3
  obtain ⟨⟨x0, x1, x2⟩, y0, y1, y2⟩ := zero_cells HX3.out
  unfold vC
  go_wp2
  refine val_ret rfl w.heap.size _ _ _ rfl (put3_blk HX3.out _ _ _) rfl ?_
  exact ⟨below_put3 HB3.out (Nat.le_refl _) _ _ _, rfl⟩
set_option maxRecDepth 100000 in
set_option maxHeartbeats 6400000 in
theorem called_2l (k i : Int) (s : List UInt8) (h1 : (i != (-9223372036854775808 : Int)) = false) (g o c : Nat) (w : World) (h : ∀ j (h : j < ([⟨k, i, s⟩] : List Vl).length), ValAt w g (o + j * 3) ([⟨k, i, s⟩] : List Vl)[j]) :
    Calls Try.prog 69 #[.int .i64 2, .slice (some ⟨g, o, none⟩) 1 c] w (EvR (.error 40) w) := by
  have HV := Asd.mk h
  have HX := Asd.mk (blk_new w zeroV)
  have HB : Asd (Below w.heap.size w (w.alloc zeroV)) := Asd.mk (below_alloc (Below.refl _ _) _)
  clear h
  go_enter Try.func69, Try.ntmps69
  go_upto_region 1 with fail
  generalize w.alloc _ = w1 at HX HB ⊢
  obtain ⟨p00, p01, p02⟩ := (HV.out 0 (by simp)).below HB.out
  simp only [List.getElem_cons_zero, List.getElem_cons_succ, Nat.zero_mul, Nat.one_mul, Nat.add_zero, Nat.reduceMul, Nat.add_assoc, Nat.reduceAdd] at p00 p01 p02
  have HX2 := Asd.mk (blk_alloc HX.out (vK ⟨k, i, s⟩))
  have HV2 := Asd.mk (blk_new w1 (vK ⟨k, i, s⟩))
  have HB2 : Asd (Below w.heap.size w (w1.alloc (vK ⟨k, i, s⟩))) := Asd.mk (below_alloc HB.out _)
  have HB12 : Asd (Below w1.heap.size w1 (w1.alloc (vK ⟨k, i, s⟩))) := Asd.mk (below_alloc (Below.refl _ _) _)
  go_upto_region 2 with fail
  generalize w1.alloc _ = w2 at HX2 HV2 HB2 HB12 ⊢
  have HL5 : Asd (w.heap.size < w1.heap.size) := Asd.mk (blk_lt HX.out)
  generalize w1.heap.size = b5 at HV2 HL5 ⊢
  clear p00 p01 p02
  obtain ⟨v0, v1, v2⟩ := val_cells HV2.out
  simp only at v0 v1 v2
  obtain ⟨⟨x0, x1, x2⟩, y0, y1, y2⟩ := zero_cells HX2.out
  go_wp2_with fail
  refine (check_no 40 _).mono ?_
  rintro e w' ⟨rfl, rfl⟩
  go_wp2
  exact ⟨rfl, HB2.out, rfl⟩
set_option maxRecDepth 100000 in
set_option maxHeartbeats 6400000 in
theorem called_3 (k i : Int) (s : List UInt8) (hs : s.length ≤ reachBytes) (g o c : Nat) (w : World) (h : ∀ j (h : j < ([⟨k, i, s⟩] : List Vl).length), ValAt w g (o + j * 3) ([⟨k, i, s⟩] : List Vl)[j]) :
    Calls Try.prog 69 #[.int .i64 3, .slice (some ⟨g, o, none⟩) 1 c] w (EvR (.ok (vTxt (mapP 97 65 s))) w) := by
  have HV := Asd.mk h
  have HX := Asd.mk (blk_new w zeroV)
  have HB : Asd (Below w.heap.size w (w.alloc zeroV)) := Asd.mk (below_alloc (Below.refl _ _) _)
  clear h
  go_enter Try.func69, Try.ntmps69
  go_upto_region 1 with fail
  generalize w.alloc _ = w1 at HX HB ⊢
  obtain ⟨p00, p01, p02⟩ := (HV.out 0 (by simp)).below HB.out
  simp only [List.getElem_cons_zero, List.getElem_cons_succ, Nat.zero_mul, Nat.one_mul, Nat.add_zero, Nat.reduceMul, Nat.add_assoc, Nat.reduceAdd] at p00 p01 p02
  have HX2 := Asd.mk (blk_alloc HX.out (vK ⟨k, i, s⟩))
  have HV2 := Asd.mk (blk_new w1 (vK ⟨k, i, s⟩))
  have HB2 : Asd (Below w.heap.size w (w1.alloc (vK ⟨k, i, s⟩))) := Asd.mk (below_alloc HB.out _)
  have HB12 : Asd (Below w1.heap.size w1 (w1.alloc (vK ⟨k, i, s⟩))) := Asd.mk (below_alloc (Below.refl _ _) _)
  go_upto_region 2 with fail
  generalize w1.alloc _ = w2 at HX2 HV2 HB2 HB12 ⊢
  have HL5 : Asd (w.heap.size < w1.heap.size) := Asd.mk (blk_lt HX.out)
  generalize w1.heap.size = b5 at HV2 HL5 ⊢
  clear p00 p01 p02
  obtain ⟨v0, v1, v2⟩ := val_cells HV2.out
  simp only at v0 v1 v2
  obtain ⟨⟨x0, x1, x2⟩, y0, y1, y2⟩ := zero_cells HX2.out
  go_wp2_with fail
  refine (mapped_up ⟨s.toArray⟩ hs _).mono ?_
  rintro e w3 ⟨rfl, hb3⟩
  have HX3 := Asd.mk (blk_below hb3 HX2.out)
  have HB3 : Asd (Below w.heap.size w w3) := Asd.mk (HB2.out.trans (hb3.mono HB2.out.size))
  clear x0 x1 x2 y0 y1 y2 v0 v1 v2 hb3
  go_wp2_with fail
  refine (text_calls (mapP 97 65 s) _).mono ?_
  rintro e w4 ⟨rfl, hb4⟩
  have HX4 := Asd.mk (blk_below hb4 HX3.out)
  have HB4 : Asd (Below w.heap.size w w4) := Asd.mk (HB3.out.trans (hb4.mono HB3.out.size))
  clear hb4
  obtain ⟨⟨x0, x1, x2⟩, y0, y1, y2⟩ := zero_cells HX4.out
  unfold vC
  go_wp2
  refine val_ret rfl w.heap.size _ _ _ rfl (put3_blk HX4.out _ _ _) rfl ?_
  exact ⟨below_put3 HB4.out (Nat.le_refl _) _ _ _, rfl⟩
set_option maxRecDepth 100000 in
set_option maxHeartbeats 6400000 in
theorem called_4 (k i : Int) (s : List UInt8) (hs : s.length ≤ reachBytes) (g o c : Nat) (w : World) (h : ∀ j (h : j < ([⟨k, i, s⟩] : List Vl).length), ValAt w g (o + j * 3) ([⟨k, i, s⟩] : List Vl)[j]) :
    Calls Try.prog 69 #[.int .i64 4, .slice (some ⟨g, o, none⟩) 1 c] w (EvR (.ok (vTxt (mapP 65 97 s))) w) := by
  have HV := Asd.mk h
  have HX := Asd.mk (blk_new w zeroV)
  have HB : Asd (Below w.heap.size w (w.alloc zeroV)) := Asd.mk (below_alloc (Below.refl _ _) _)
  clear h
  go_enter Try.func69, Try.ntmps69
  go_upto_region 1 with fail
  generalize w.alloc _ = w1 at HX HB ⊢
  obtain ⟨p00, p01, p02⟩ := (HV.out 0 (by simp)).below HB.out
  simp only [List.getElem_cons_zero, List.getElem_cons_succ, Nat.zero_mul, Nat.one_mul, Nat.add_zero, Nat.reduceMul, Nat.add_assoc, Nat.reduceAdd] at p00 p01 p02
  have HX2 := Asd.mk (blk_alloc HX.out (vK ⟨k, i, s⟩))
  have HV2 := Asd.mk (blk_new w1 (vK ⟨k, i, s⟩))
  have HB2 : Asd (Below w.heap.size w (w1.alloc (vK ⟨k, i, s⟩))) := Asd.mk (below_alloc HB.out _)
  have HB12 : Asd (Below w1.heap.size w1 (w1.alloc (vK ⟨k, i, s⟩))) := Asd.mk (below_alloc (Below.refl _ _) _)
  go_upto_region 2 with fail
  generalize w1.alloc _ = w2 at HX2 HV2 HB2 HB12 ⊢
  have HL5 : Asd (w.heap.size < w1.heap.size) := Asd.mk (blk_lt HX.out)
  generalize w1.heap.size = b5 at HV2 HL5 ⊢
  clear p00 p01 p02
  obtain ⟨v0, v1, v2⟩ := val_cells HV2.out
  simp only at v0 v1 v2
  obtain ⟨⟨x0, x1, x2⟩, y0, y1, y2⟩ := zero_cells HX2.out
  go_wp2_with fail
  refine (mapped_low ⟨s.toArray⟩ hs _).mono ?_
  rintro e w3 ⟨rfl, hb3⟩
  have HX3 := Asd.mk (blk_below hb3 HX2.out)
  have HB3 : Asd (Below w.heap.size w w3) := Asd.mk (HB2.out.trans (hb3.mono HB2.out.size))
  clear x0 x1 x2 y0 y1 y2 v0 v1 v2 hb3
  go_wp2_with fail
  refine (text_calls (mapP 65 97 s) _).mono ?_
  rintro e w4 ⟨rfl, hb4⟩
  have HX4 := Asd.mk (blk_below hb4 HX3.out)
  have HB4 : Asd (Below w.heap.size w w4) := Asd.mk (HB3.out.trans (hb4.mono HB3.out.size))
  clear hb4
  obtain ⟨⟨x0, x1, x2⟩, y0, y1, y2⟩ := zero_cells HX4.out
  unfold vC
  go_wp2
  refine val_ret rfl w.heap.size _ _ _ rfl (put3_blk HX4.out _ _ _) rfl ?_
  exact ⟨below_put3 HB4.out (Nat.le_refl _) _ _ _, rfl⟩
set_option maxRecDepth 100000 in
set_option maxHeartbeats 6400000 in
theorem called_5 (k i k' i' k'' i'' : Int) (s s' s'' : List UInt8) (hs : s.length ≤ reachBytes) (hi' : inI i') (hi'' : inI i'') (g o c : Nat) (w : World) (h : ∀ j (h : j < ([⟨k, i, s⟩, ⟨k', i', s'⟩, ⟨k'', i'', s''⟩] : List Vl).length), ValAt w g (o + j * 3) ([⟨k, i, s⟩, ⟨k', i', s'⟩, ⟨k'', i'', s''⟩] : List Vl)[j]) :
    Calls Try.prog 69 #[.int .i64 5, .slice (some ⟨g, o, none⟩) 3 c] w (EvR (.ok (vTxt (cutP s i' i''))) w) := by
  have HV := Asd.mk h
  have HX := Asd.mk (blk_new w zeroV)
  have HB : Asd (Below w.heap.size w (w.alloc zeroV)) := Asd.mk (below_alloc (Below.refl _ _) _)
  clear h
  go_enter Try.func69, Try.ntmps69
  go_upto_region 1 with fail
  generalize w.alloc _ = w1 at HX HB ⊢
  obtain ⟨p00, p01, p02⟩ := (HV.out 0 (by simp)).below HB.out
  obtain ⟨p10, p11, p12⟩ := (HV.out 1 (by simp)).below HB.out
  obtain ⟨p20, p21, p22⟩ := (HV.out 2 (by simp)).below HB.out
  simp only [List.getElem_cons_zero, List.getElem_cons_succ, Nat.zero_mul, Nat.one_mul, Nat.add_zero, Nat.reduceMul, Nat.add_assoc, Nat.reduceAdd] at p00 p01 p02 p10 p11 p12 p20 p21 p22
  have HX2 := Asd.mk (blk_alloc HX.out (vK ⟨k, i, s⟩))
  have HV2 := Asd.mk (blk_new w1 (vK ⟨k, i, s⟩))
  have HB2 : Asd (Below w.heap.size w (w1.alloc (vK ⟨k, i, s⟩))) := Asd.mk (below_alloc HB.out _)
  have HB12 : Asd (Below w1.heap.size w1 (w1.alloc (vK ⟨k, i, s⟩))) := Asd.mk (below_alloc (Below.refl _ _) _)
  go_upto_region 2 with fail
  generalize w1.alloc _ = w2 at HX2 HV2 HB2 HB12 ⊢
  have HL5 : Asd (w.heap.size < w1.heap.size) := Asd.mk (blk_lt HX.out)
  generalize w1.heap.size = b5 at HV2 HL5 ⊢
  clear p00 p01 p02 p10 p11 p12 p20 p21 p22
  obtain ⟨v0, v1, v2⟩ := val_cells HV2.out
  simp only at v0 v1 v2
  obtain ⟨⟨x0, x1, x2⟩, y0, y1, y2⟩ := zero_cells HX2.out
  have hgw : Asd (g ≠ w.heap.size) := Asd.mk fun e => by
    have hlt : g < w.heap.size := World.block_lt_of_cell? w _ (HV.out 0 (by simp)).1
    omega
  have hbw : Asd (b5 ≠ w.heap.size) := Asd.mk fun e => by
    have := HL5.out
    omega
  have HS : Asd (∀ w', Fr (fun k => k = w.heap.size) w2 w' → w'.cell? ⟨b5, 2, none⟩ = some (.string ⟨s.toArray⟩) ∧ w'.cell? ⟨g, o + 4, none⟩ = some (.int .i64 i') ∧ w'.cell? ⟨g, o + 7, none⟩ = some (.int .i64 i'') ∧ Fr (fun k => k = w.heap.size) w2 w') := Asd.mk fun w' hf =>
    ⟨(val_cells (blk_fr HV2.out hf hbw.out)).2.2, fr_cell hf hgw.out (((HV.out 1 (by simp)).below HB2.out).2.1), fr_cell hf hgw.out (((HV.out 2 (by simp)).below HB2.out).2.1), hf⟩
  go_upto_region 12 with fail
  clear x0 x1 x2 y0 y1 y2 v0 v1 v2
  go_region_held3 (fun w' => w'.cell? ⟨b5, 2, none⟩ = some (.string ⟨s.toArray⟩) ∧ w'.cell? ⟨g, o + 4, none⟩ = some (.int .i64 i') ∧ w'.cell? ⟨g, o + 7, none⟩ = some (.int .i64 i'') ∧ Fr (fun k => k = w.heap.size) w2 w')
    (first
      | exact HS.out _ (Fr.refl _ _)
      | exact HS.out _ (Fr.refl _ _).drew
      | exact HS.out _ HF3.out
      | exact HS.out _ (Fr.setCell (Fr.setCell (Fr.setCell HF3.out (p := ⟨w.heap.size, 0, none⟩) rfl _) (p := ⟨w.heap.size, 1, none⟩) rfl _) (p := ⟨w.heap.size, 2, none⟩) rfl _)
      | (go_split_ands; exact HS.out _ (by assumption))
      | fail)
    (first
      | (go_at_call 113
         refine (cut_calls ⟨s.toArray⟩ i' i'' hs hi' hi'' _).mono ?_
         rintro e w' ⟨rfl, rfl⟩)
      | (go_at_call 64
         refine (text_calls (cutP s i' i'') _).mono ?_
         rintro e w3 ⟨rfl, hb3⟩
         have HF3 : Asd (Fr (fun k => k = w.heap.size) w2 w3) := Asd.mk ((Fr.refl _ w2).drew.trans (Fr.of_below hb3) (fun _ h _ => h) (fun _ h _ => h))
         have HX3 := Asd.mk (blk_below hb3 (drewb HX2.out))
         have HB3 : Asd (Below w.heap.size w w3) := Asd.mk (HB2.out.drew.trans (hb3.mono HB2.out.drew.size))
         obtain ⟨⟨x0, x1, x2⟩, y0, y1, y2⟩ := zero_cells HX3.out
         unfold vC)
      | fail)
  go_wp2
  refine val_ret rfl w.heap.size _ _ _ rfl (put3_blk HX3.out _ _ _) rfl ?_
  exact ⟨below_put3 HB3.out (Nat.le_refl _) _ _ _, rfl⟩
/-- calc.called. -/
theorem called_calls (f : Int) (vs : List Vl) (h1 : 1 ≤ f) (h5 : f ≤ 5) (hl : vs.length = opn f.toNat) (hr : ∀ v ∈ vs, RV v) (A : Option Addr) (c : Nat) (w : World) (hv : ValSl w A vs) :
    Calls Try.prog 69 #[.int .i64 f, .slice A vs.length c] w (EvR (calledV f vs) w) := by
  rcases (show f = 1 ∨ f = 2 ∨ f = 3 ∨ f = 4 ∨ f = 5 by omega) with rfl | rfl | rfl | rfl | rfl
  · obtain ⟨v, rfl⟩ := List.length_eq_one_iff.mp hl
    obtain ⟨g, o, rfl, h⟩ := hv (by simp)
    obtain ⟨k, i, s⟩ := v
    exact called_1 k i s g o c w h
  · obtain ⟨v, rfl⟩ := List.length_eq_one_iff.mp hl
    obtain ⟨g, o, rfl, h⟩ := hv (by simp)
    have hi := rv_int (hr v (by simp))
    obtain ⟨k, i, s⟩ := v
    have hi : inI i := hi
    by_cases hle : i = -9223372036854775808
    · rw [show calledV 2 [⟨k, i, s⟩] = .error 40 by simp [calledV, hle]]
      exact called_2l k i s (by rw [hle]; rfl) g o c w h
    · rw [show calledV 2 [⟨k, i, s⟩] = .ok (vNum (max i (-i))) by
        simp only [calledV, if_neg hle]
        by_cases hn : i < 0
        · rw [if_pos hn, Int.max_eq_right (by omega)]
        · rw [if_neg hn, Int.max_eq_left (by omega)]]
      exact called_2 k i s (by simpa using hle) (by have := hi.1; omega) hi.2 g o c w h
  · obtain ⟨v, rfl⟩ := List.length_eq_one_iff.mp hl
    obtain ⟨g, o, rfl, h⟩ := hv (by simp)
    have hs := rv_len (hr v (by simp))
    obtain ⟨k, i, s⟩ := v
    exact called_3 k i s hs g o c w h
  · obtain ⟨v, rfl⟩ := List.length_eq_one_iff.mp hl
    obtain ⟨g, o, rfl, h⟩ := hv (by simp)
    have hs := rv_len (hr v (by simp))
    obtain ⟨k, i, s⟩ := v
    exact called_4 k i s hs g o c w h
  · obtain ⟨v, v', v'', rfl⟩ : ∃ a b c, vs = [a, b, c] := by
      match vs, hl with
      | [a, b, c], _ => exact ⟨a, b, c, rfl⟩
    obtain ⟨g, o, rfl, h⟩ := hv (by simp)
    have hs := rv_len (hr v (by simp))
    have hi' := rv_int (hr v' (by simp))
    have hi'' := rv_int (hr v'' (by simp))
    obtain ⟨k, i, s⟩ := v
    obtain ⟨k', i', s'⟩ := v'
    obtain ⟨k'', i'', s''⟩ := v''
    exact called_5 k i k' i' k'' i'' s s' s'' hs hi' hi'' g o c w h
theorem fj_of {f : Int} {n j : Nat} (h1 : 1 ≤ f) (h5 : f ≤ 5) (hn : n = opn f.toNat) (hj : j < n) : FJ f j := by
  unfold FJ
  rcases (show f = 1 ∨ f = 2 ∨ f = 3 ∨ f = 4 ∨ f = 5 by omega) with rfl | rfl | rfl | rfl | rfl
  all_goals
    simp [opn] at hn
    subst hn
    omega
/-- The blocks of Call's operands. -/
structure CallW (W : World) (po pl : Nat) (f : Int) (A : Option Addr) (n c : Nat) (vs : List Vl) : Prop where
  o : W.heap[po]? = some (.cells #[.int .i64 f] 3 (0, 0))
  l : W.heap[pl]? = some (.cells #[.slice A n c] 27 (0, 0))
  v : ValSl W A vs
theorem CallW.below {W W' : World} {po pl : Nat} {f : Int} {A : Option Addr} {n c : Nat} {vs : List Vl} (h : CallW W po pl f A n c vs) (hb : Below W.heap.size W W') : CallW W' po pl f A n c vs := ⟨blk_below hb h.o, blk_below hb h.l, h.v.below hb⟩
set_option maxRecDepth 100000 in
set_option maxHeartbeats 6400000 in
/-- calc.Call's sum. -/
theorem ecall1_calls (f : Int) (vs : List Vl) (h1 : 1 ≤ f) (h5 : f ≤ 5) (hl : vs.length = opn f.toNat) (hr : ∀ v ∈ vs, RV v) (po pl : Nat) (A : Option Addr) (c : Nat) (w : World) (h : CallW w po pl f A vs.length c vs) :
    Calls Try.prog 66 #[.pointer (some ⟨po, 0, none⟩), .pointer (some ⟨pl, 0, none⟩)] w (EvR (callV f vs) w) := by
  have hf6 : (f == 6) = false := by rw [beq_eq_false_iff_ne]; omega
  have HT : Asd (∀ j (hj : j < vs.length), ∀ W, Calls Try.prog 68 #[.int .i64 f, .int .i64 (j : Int), .int .i64 vs[j].kind] W fun e w' => e = .returned (.bool (takesP f j vs[j].kind)) ∧ w' = W) := Asd.mk fun j hj W => takes_calls f j _ (fj_of h1 h5 hl hj) (rv_kind (hr _ (List.getElem_mem hj))) W
  have HC := Asd.mk (called_calls f vs h1 h5 hl hr A c)
  have HA := Asd.mk (args_calls f h1 h5)
  have hn0 : 0 < vs.length := by
    rw [hl]
    unfold opn
    split
    · omega
    · split <;> omega
  have hn3 : vs.length ≤ 3 := by
    rw [hl]
    unfold opn
    split
    · omega
    · split <;> omega
  rw [← hl] at HA
  have HW := Asd.mk h
  have HX := Asd.mk (blk_new w zeroV)
  have HB : Asd (Below w.heap.size w (w.alloc zeroV)) := Asd.mk (below_alloc (Below.refl _ _) _)
  clear h hl hr
  generalize hn : vs.length = n at HC HA hn0 hn3 HW ⊢
  have HN := Asd.mk hn
  clear hn
  go_enter Try.func66, Try.ntmps66
  go_upto_region 1 with fail
  generalize w.alloc _ = w1 at HX HB ⊢
  have HW1 := Asd.mk (HW.out.below HB.out)
  have o0 := (blk_cell HW1.out.o 0).trans rfl
  have l0 := (blk_cell HW1.out.l 0).trans rfl
  go_wp2_with fail
  refine (HA.out _).mono ?_
  rintro e w' ⟨rfl, hw⟩
  rw [hw]
  clear hw
  go_wp2_with fail
  refine (check_ok 5 _).mono ?_
  rintro e w' ⟨rfl, hw⟩
  rw [hw]
  clear hw
  go_upto_region 2 with fail
  have HS : Asd (∀ w', Below w1.heap.size w1 w' → w'.cell? ⟨po, 0, none⟩ = some (.int .i64 f) ∧ w'.cell? ⟨pl, 0, none⟩ = some (.slice A n c) ∧ Below w1.heap.size w1 w') := Asd.mk fun w' hb =>
    ⟨(blk_cell (HW1.out.below hb).o 0).trans rfl, (blk_cell (HW1.out.below hb).l 0).trans rfl, hb⟩
  clear o0 l0
  go_region_held3 (fun w' => w'.cell? ⟨po, 0, none⟩ = some (.int .i64 f) ∧ w'.cell? ⟨pl, 0, none⟩ = some (.slice A n c) ∧ Below w1.heap.size w1 w')
    (first
      | exact HS.out _ (Below.refl _ _)
      | exact HS.out _ (Below.refl _ _).drew
      | (go_split_ands; exact HS.out _ (by assumption))
      | fail)
    (first
      | (go_at_call 67
         refine (HA.out _).mono ?_
         rintro e w' ⟨rfl, hw⟩
         rw [hw]
         clear hw)
      | (go_at_call 56
         refine (check_ok 37 _).mono ?_
         rintro e w' ⟨rfl, hw⟩
         rw [hw]
         clear hw)
      | fail)
  have HB2 : Asd (Below w1.heap.size w1 w1.drew) := Asd.mk (Below.refl _ _).drew
  generalize w1.drew = w2 at HB2 ⊢
  have o0 := (HS.out _ HB2.out).1
  have l0 := (HS.out _ HB2.out).2.1
  clear HS
  have HB1 := HB2
  go_wp2
  go_loopw [49, 5] (fun i nl wr => ∃ (k : Nat) (b : Bool), k ≤ n ∧ i = .int .i64 (k : Int) ∧ nl = .bool b ∧ Asd (takesL f 0 vs = takesL f k (vs.drop k)) ∧ Asd (vs.any (fun v => v.kind == 0) = (b || (vs.drop k).any (fun v => v.kind == 0))) ∧ Asd (Below w1.heap.size w1 wr)) (fun i _ _ => n - (intOf i).toNat)
  case atStart => exact ⟨0, false, by omega, rfl, rfl, ⟨rfl⟩, ⟨by rw [List.drop_zero, Bool.false_or]⟩, ⟨HB1.out⟩⟩
  case round =>
    obtain ⟨k, b, hk, rfl, rfl, HTL, HNL, HBR⟩ := hrel
    clear o0 l0
    have HWR := Asd.mk (HW1.out.below HBR.out)
    have HXR := Asd.mk (blk_below HBR.out HX.out)
    have o0 := (blk_cell HWR.out.o 0).trans rfl
    have l0 := (blk_cell HWR.out.l 0).trans rfl
    by_cases hlt : k < n
    · have hkv : k < vs.length := by rw [HN.out]; exact hlt
      obtain ⟨g, o, rfl, hv⟩ := HWR.out.v (by omega)
      obtain ⟨x0, x1, x2⟩ := hv k hkv
      have HTK := Asd.mk (HT.out k hkv)
      have HD : Asd (vs.drop k = vs[k] :: vs.drop (k + 1)) := Asd.mk (List.drop_eq_getElem_cons hkv)
      rw [HD.out] at HTL HNL
      generalize vs[k] = v at x0 x1 x2 HTK HTL HNL
      clear hv hkv HD
      have HV3 := Asd.mk (blk_new wr (vK v))
      have HB3 : Asd (Below wr.heap.size wr (wr.alloc (vK v))) := Asd.mk (below_alloc (Below.refl _ _) _)
      go_upto_region 13 with fail
      generalize wr.alloc _ = w3 at HV3 HB3 ⊢
      clear o0 l0 x0 x1 x2
      have HBW3 : Asd (Below w1.heap.size w1 w3) := Asd.mk (HBR.out.trans (HB3.out.mono HBR.out.size))
      have o0 := (blk_cell (HWR.out.below HB3.out).o 0).trans rfl
      obtain ⟨v0, v1, v2⟩ := val_cells HV3.out
      go_wp2_with fail
      refine (HTK.out _).mono ?_
      rintro e w' ⟨rfl, hw⟩
      rw [hw]
      clear hw
      cases ht : takesP f k v.kind with
      | false =>
        have HF : Asd (callV f vs = .error 35) := Asd.mk (by unfold callV; rw [HTL.out, takesL, ht]; rfl)
        clear ht
        go_wp2_with fail
        refine (check_no 35 _).mono ?_
        rintro e w' ⟨rfl, hw⟩
        rw [hw]
        clear hw
        go_wp2
        rw [HF.out]
        exact ⟨rfl, HB.out.trans (HBW3.out.mono HB.out.size), rfl⟩
      | true =>
        have HTL2 : Asd (takesL f 0 vs = takesL f (k + 1) (vs.drop (k + 1))) := Asd.mk (by rw [HTL.out, takesL, ht, Bool.true_and])
        clear ht
        go_wp2_with fail
        refine (check_ok 35 _).mono ?_
        rintro e w' ⟨rfl, hw⟩
        rw [hw]
        clear hw
        cases b with
        | true =>
          have HNL2 : Asd (vs.any (fun v => v.kind == 0) = (true || (vs.drop (k + 1)).any (fun v => v.kind == 0))) := Asd.mk (by rw [HNL.out]; rfl)
          go_wp2
          go_roundw
          case rel => exact ⟨k + 1, true, by omega, by go_num, rfl, HTL2, HNL2, HBW3⟩
          case measure => simp [intOf]; omega
        | false =>
          have HNL2 : Asd (vs.any (fun v => v.kind == 0) = ((v.kind == 0) || (vs.drop (k + 1)).any (fun v => v.kind == 0))) := Asd.mk (by rw [HNL.out, List.any_cons, Bool.false_or])
          go_wp2
          go_roundw
          case rel => exact ⟨k + 1, (v.kind == 0), by omega, by go_num, rfl, HTL2, HNL2, HBW3⟩
          case measure => simp [intOf]; omega
    · obtain rfl : k = n := by omega
      have HDN : Asd (vs.drop k = []) := Asd.mk (List.drop_of_length_le (Nat.le_of_eq HN.out))
      rw [HDN.out] at HTL HNL
      obtain ⟨⟨x0, x1, x2⟩, y0, y1, y2⟩ := zero_cells HXR.out
      have HBX : Asd (Below w.heap.size w wr) := Asd.mk (HB.out.trans (HBR.out.mono HB.out.size))
      have HVS := Asd.mk HWR.out.v
      cases b with
      | true =>
        have HF : Asd (callV f vs = .ok vNull) := Asd.mk (by unfold callV; rw [HTL.out, HNL.out]; rfl)
        go_wp2
        refine val_ret rfl w.heap.size _ _ _ rfl (put3_blk HXR.out _ _ _) rfl ?_
        rw [HF.out]
        exact ⟨below_put3 HBX.out (Nat.le_refl _) _ _ _, rfl⟩
      | false =>
        have HF : Asd (callV f vs = calledV f vs) := Asd.mk (by unfold callV; rw [HTL.out, HNL.out]; rfl)
        go_wp2_with fail
        refine (HC.out _ HVS.out).mono ?_
        rintro e w4 ⟨hb4, hm⟩
        have HB4 : Asd (Below w.heap.size w w4) := Asd.mk (HBX.out.trans (hb4.mono HBX.out.size))
        have HX4 := Asd.mk (blk_below hb4 HXR.out)
        clear o0 l0 x0 x1 x2 y0 y1 y2 hb4
        obtain ⟨⟨x0, x1, x2⟩, y0, y1, y2⟩ := zero_cells HX4.out
        cases hr : calledV f vs with
        | ok u =>
          rw [hr] at hm
          simp only at hm
          obtain rfl := hm
          have HRR : Asd (callV f vs = .ok u) := Asd.mk (HF.out.trans hr)
          clear hr
          unfold vC
          go_wp2
          refine val_ret rfl w.heap.size _ _ _ rfl (put3_blk HX4.out _ _ _) rfl ?_
          rw [HRR.out]
          exact ⟨below_put3 HB4.out (Nat.le_refl _) _ _ _, rfl⟩
        | error m =>
          rw [hr] at hm
          simp only at hm
          obtain rfl := hm
          have HRR : Asd (callV f vs = .error m) := Asd.mk (HF.out.trans hr)
          clear hr
          go_wp2
          rw [HRR.out]
          exact ⟨rfl, HB4.out, rfl⟩
set_option maxRecDepth 100000 in
set_option maxHeartbeats 6400000 in
/-- calc.Call. -/
theorem ecall_calls (f : Int) (vs : List Vl) (h1 : 1 ≤ f) (h5 : f ≤ 5) (hl : vs.length = opn f.toNat) (hr : ∀ v ∈ vs, RV v) (A : Option Addr) (c : Nat) (w : World) (hv : ValSl w A vs) : Calls Try.prog 26 #[.int .i64 f, .slice A vs.length c] w (Ev2 (callV f vs) w) := by
  have hmf := mk_func
  have HC := Asd.mk (ecall1_calls f vs h1 h5 hl hr)
  generalize callV f vs = r at HC ⊢
  have HW : Asd (CallW (((w.alloc (.cells #[.int .i64 f] 3 (0, 0))).alloc (.cells #[.slice A vs.length c] 27 (0, 0))).alloc zeroV) w.heap.size (w.heap.size + 1) f A vs.length c vs) := Asd.mk ⟨blk_alloc (blk_alloc (blk_new w _) _) _, blk_alloc (nb1 w _ _) _, hv.below (below_alloc (below_alloc (below_alloc (Below.refl _ _) _) _) _)⟩
  have HX := Asd.mk (nb2 w (.cells #[.int .i64 f] 3 (0, 0)) (.cells #[.slice A vs.length c] 27 (0, 0)) zeroV)
  have HB : Asd (Below w.heap.size w (((w.alloc (.cells #[.int .i64 f] 3 (0, 0))).alloc (.cells #[.slice A vs.length c] 27 (0, 0))).alloc zeroV)) := Asd.mk (below_alloc (below_alloc (below_alloc (Below.refl _ _) _) _) _)
  clear h1 h5 hl hr hv
  go_enter Try.func26, Try.ntmps26
  go_upto_region 1 with fail
  generalize (((w.alloc (.cells #[.int .i64 f] 3 (0, 0))).alloc (.cells #[.slice A vs.length c] 27 (0, 0))).alloc zeroV) = w1 at HW HX HB ⊢
  go_wp2_with fail
  refine (caught_calls 66 _ r _ (isGo_of Try.func66 (by decide) rfl) fun W hW => HC.out _ _ _ _ W (HW.out.below hW)).mono ?_
  rintro e w2 ⟨hb2, rfl⟩
  have HX2 := Asd.mk (blk_below hb2 HX.out)
  have HB2 : Asd (Below w.heap.size w w2) := Asd.mk (HB.out.trans (hb2.mono HB.out.size))
  clear hb2
  obtain ⟨⟨x0, x1, x2⟩, y0, y1, y2⟩ := zero_cells HX2.out
  cases r with
  | ok u =>
    unfold vC
    go_wp2
    refine val_ret2 rfl (w.heap.size + 1 + 1) _ _ _ rfl (put3_blk HX2.out _ _ _) rfl ?_
    exact ⟨below_put3 HB2.out (by omega) _ _ _, rfl⟩
  | error n =>
    unfold vC
    simp only [vNull]
    go_wp2
    refine val_ret2 rfl (w.heap.size + 1 + 1) _ _ _ rfl (put3_blk HX2.out _ _ _) rfl ?_
    exact ⟨below_put3 HB2.out (by omega) _ _ _, rfl⟩
end Go.Proofs.Ytinflndbfdbnhaa.Exp

/- eval.Eval: what is known of an expression. -/
set_option linter.unusedVariables false
set_option linter.unusedSimpArgs false
namespace Go.Proofs.Ytinflndbfdbnhaa.Exp
open Go.RowKit Go.Proofs.Ytinflndbfdbnhaa.Base Go.Proofs.Ytinflndbfdbnhaa.App Go.Proofs.Ytinflndbfdbnhaa.Byt

/-- An expression and what it is known as lie at a place of a block. -/
def KnAt (P : Nat → Prop) (W : World) (g o : Nat) (q : Ex × Vl) : Prop := ∃ A n c, RowC W g o q.1 (.slice A n c) ∧ Held P W q.1.args (.slice A n c) ∧ ValAt W g (o + 10) q.2
theorem KnAt.below {P : Nat → Prop} {W W' : World} {g o : Nat} {q : Ex × Vl} (h : KnAt P W g o q) (hb : Below W.heap.size W W') : KnAt P W' g o q := by
  obtain ⟨A, n, c, h1, h2, h3⟩ := h
  exact ⟨A, n, c, h1.below hb, held_below h2 hb, h3.below hb⟩
/-- The slice at A holds these. -/
def KnSl (P : Nat → Prop) (W : World) (A : Option Addr) (ks : List (Ex × Vl)) : Prop := 0 < ks.length → ∃ g o, A = some ⟨g, o, none⟩ ∧ ∀ i (h : i < ks.length), KnAt P W g (o + i * 13) ks[i]
theorem KnSl.below {P : Nat → Prop} {W W' : World} {A : Option Addr} {ks : List (Ex × Vl)} (h : KnSl P W A ks) (hb : Below W.heap.size W W') : KnSl P W' A ks := fun h0 => by
  obtain ⟨g, o, rfl, h1⟩ := h h0
  exact ⟨g, o, rfl, fun i hi => (h1 i hi).below hb⟩
theorem knownV_cons (q : Ex × Vl) (ks : List (Ex × Vl)) (x : Ex) : knownV (q :: ks) x = if sameE q.1 x then some q.2 else knownV ks x := by
  unfold knownV
  rw [List.find?_cons]
  cases sameE q.1 x <;> rfl
/-- The value of what is known. -/
def kV (q : Ex × Vl) (s : Value) : Value := .agg #[.int .i64 q.1.kind, .int .i64 q.1.op, .int .i64 q.1.v.kind, .int .i64 q.1.v.int, .string ⟨q.1.v.text.toArray⟩, .string ⟨q.1.table.toArray⟩, .string ⟨q.1.name.toArray⟩, .int .i64 q.1.col, .int .i64 q.1.ty, s, .int .i64 q.2.kind, .int .i64 q.2.int, .string ⟨q.2.text.toArray⟩]
abbrev kK (q : Ex × Vl) (s : Value) : Obj := .cells #[.int .i64 q.1.kind, .int .i64 q.1.op, .int .i64 q.1.v.kind, .int .i64 q.1.v.int, .string ⟨q.1.v.text.toArray⟩, .string ⟨q.1.table.toArray⟩, .string ⟨q.1.name.toArray⟩, .int .i64 q.1.col, .int .i64 q.1.ty, s, .int .i64 q.2.kind, .int .i64 q.2.int, .string ⟨q.2.text.toArray⟩] 38 (0, 0)
set_option maxRecDepth 100000 in
set_option maxHeartbeats 6400000 in
theorem clos_calls (q : Ex × Vl) (A1 : Option Addr) (n1 c1 : Nat) (x : Ex) (A2 : Option Addr) (n2 c2 : Nat) (pe : Nat) (P Q : Nat → Prop) (w : World) (hf : fewE q.1) (hq : Held P w q.1.args (.slice A1 n1 c1)) (hx : w.heap[pe]? = some (xK x (.slice A2 n2 c2))) (hhx : Held Q w x.args (.slice A2 n2 c2)) :
    Calls Try.prog 19 #[kV q (.slice A1 n1 c1), .pointer (some ⟨pe, 0, none⟩)] w fun e w' => e = .returned (.bool (sameE q.1 x)) ∧ Below w.heap.size w w' := by
  have HS := Asd.mk (fun W (hb : Below w.heap.size w W) => same_calls P Q q.1 x (.slice A1 n1 c1) (.slice A2 n2 c2) W hf (held_below hq hb) (held_below hhx hb))
  have HK := Asd.mk (blk_new w (kK q (.slice A1 n1 c1)))
  have HB : Asd (Below w.heap.size w (w.alloc (kK q (.slice A1 n1 c1)))) := Asd.mk (below_alloc (Below.refl _ _) _)
  have HX := Asd.mk (blk_below HB.out hx)
  clear hf hq hx hhx
  unfold kV
  go_enter Try.func19, Try.ntmps19
  go_upto_region 1 with fail
  generalize w.alloc _ = w1 at HK HB HX ⊢
  obtain ⟨e0, e1, e2, e3, e4, e5, e6, e7, e8, e9⟩ := ex_cells (x := x) HX.out
  have k0 := (blk_cell HK.out 0).trans rfl
  have k1 := (blk_cell HK.out 1).trans rfl
  have k2 := (blk_cell HK.out 2).trans rfl
  have k3 := (blk_cell HK.out 3).trans rfl
  have k4 := (blk_cell HK.out 4).trans rfl
  have k5 := (blk_cell HK.out 5).trans rfl
  have k6 := (blk_cell HK.out 6).trans rfl
  have k7 := (blk_cell HK.out 7).trans rfl
  have k8 := (blk_cell HK.out 8).trans rfl
  have k9 := (blk_cell HK.out 9).trans rfl
  go_wp2_with fail
  refine (HS.out _ HB.out).mono ?_
  rintro e w2 ⟨rfl, hb2⟩
  have HB2 : Asd (Below w.heap.size w w2) := Asd.mk (HB.out.trans (hb2.mono HB.out.size))
  clear e0 e1 e2 e3 e4 e5 e6 e7 e8 e9 k0 k1 k2 k3 k4 k5 k6 k7 k8 k9 hb2
  go_wp2
  go_ret
  exact ⟨rfl, HB2.out⟩
/-- What is found of what is known. -/
def FoundR (ks : List (Ex × Vl)) (x : Ex) (w : World) (e : Ending) (w' : World) : Prop := Below w.heap.size w w' ∧
  ((∃ i, ∃ h : i < ks.length, e = .returned (.int .i64 (i : Int)) ∧ knownV ks x = some ks[i].2) ∨ (e = .returned (.int .i64 (-1)) ∧ knownV ks x = none))
set_option maxRecDepth 100000 in
set_option maxHeartbeats 6400000 in
theorem index_calls (ks : List (Ex × Vl)) (hn : ks.length ≤ 1048576) (A : Option Addr) (c : Nat) (x : Ex) (A2 : Option Addr) (n2 c2 : Nat) (pe : Nat) (P Q : Nat → Prop) (w : World) (hf : ∀ q ∈ ks, fewE q.1) (hk : KnSl P w A ks) (hx : w.heap[pe]? = some (xK x (.slice A2 n2 c2))) (hhx : Held Q w x.args (.slice A2 n2 c2)) :
    Calls Try.prog 18 #[.slice A ks.length c, .func (.func 19) #[] #[.pointer (some ⟨pe, 0, none⟩)]] w (FoundR ks x w) := by
  have hcf : ∀ (args : Array Value) (w : World), (callFunc 19 args).run Try.prog w = .ok (.enter 19 args) w := isGo_of Try.func19 (by decide) rfl
  have HF := Asd.mk hf
  have HK := Asd.mk hk
  have HX := Asd.mk hx
  have HH := Asd.mk hhx
  generalize hm : ks.length = m at hn ⊢
  have HM := Asd.mk hm
  clear hf hk hx hhx hm
  go_enter Try.func18, Try.ntmps18
  go_wp2
  go_loopw [8] (fun i wr => ∃ k : Nat, k ≤ m ∧ i = .int .i64 (k : Int) ∧ Asd (Below w.heap.size w wr) ∧ Asd (knownV ks x = knownV (ks.drop k) x)) (fun i _ => m - (intOf i).toNat)
  case atStart => exact ⟨0, by omega, rfl, ⟨Below.refl _ _⟩, ⟨rfl⟩⟩
  case round =>
    obtain ⟨k, hk, rfl, HB, HQ⟩ := hrel
    by_cases hlt : k < m
    · have hkv : k < ks.length := by rw [HM.out]; exact hlt
      obtain ⟨g, o, rfl, hv⟩ := (HK.out.below HB.out) (by omega)
      obtain ⟨A1, n1, c1, hr, hh, x10, x11, x12⟩ := hv k hkv
      have HD : Asd (ks.drop k = ks[k] :: ks.drop (k + 1)) := Asd.mk (List.drop_eq_getElem_cons hkv)
      have HFK := Asd.mk (HF.out _ (List.getElem_mem hkv))
      have HYES : Asd (sameE ks[k].1 x = true → knownV ks x = some ks[k].2) := Asd.mk fun h => by rw [HQ.out, HD.out, knownV_cons, if_pos h]
      have HNO : Asd (sameE ks[k].1 x = false → knownV ks x = knownV (ks.drop (k + 1)) x) := Asd.mk fun h => by rw [HQ.out, HD.out, knownV_cons, h]; rfl
      have HFIN : Asd (∀ w', Below w.heap.size w w' → knownV ks x = some ks[k].2 → FoundR ks x w (.returned (.int .i64 (k : Int))) w') := Asd.mk fun w' hb h => ⟨hb, .inl ⟨k, hkv, rfl, h⟩⟩
      generalize ks[k] = q at hr hh x10 x11 x12 HFK HYES HNO HFIN
      have HHK := Asd.mk hh
      have x0 : wr.cell? ⟨g, o + k * 13, none⟩ = some (.int .i64 q.1.kind) := hr 0 (by omega)
      have x1 : wr.cell? ⟨g, o + k * 13 + 1, none⟩ = some (.int .i64 q.1.op) := hr 1 (by omega)
      have x2 : wr.cell? ⟨g, o + k * 13 + 2, none⟩ = some (.int .i64 q.1.v.kind) := hr 2 (by omega)
      have x3 : wr.cell? ⟨g, o + k * 13 + 3, none⟩ = some (.int .i64 q.1.v.int) := hr 3 (by omega)
      have x4 : wr.cell? ⟨g, o + k * 13 + 4, none⟩ = some (.string ⟨q.1.v.text.toArray⟩) := hr 4 (by omega)
      have x5 : wr.cell? ⟨g, o + k * 13 + 5, none⟩ = some (.string ⟨q.1.table.toArray⟩) := hr 5 (by omega)
      have x6 : wr.cell? ⟨g, o + k * 13 + 6, none⟩ = some (.string ⟨q.1.name.toArray⟩) := hr 6 (by omega)
      have x7 : wr.cell? ⟨g, o + k * 13 + 7, none⟩ = some (.int .i64 q.1.col) := hr 7 (by omega)
      have x8 : wr.cell? ⟨g, o + k * 13 + 8, none⟩ = some (.int .i64 q.1.ty) := hr 8 (by omega)
      have x9 : wr.cell? ⟨g, o + k * 13 + 9, none⟩ = some (.slice A1 n1 c1) := hr 9 (by omega)
      have x11 : wr.cell? ⟨g, o + k * 13 + 11, none⟩ = some (.int .i64 q.2.int) := x11
      have x12 : wr.cell? ⟨g, o + k * 13 + 12, none⟩ = some (.string ⟨q.2.text.toArray⟩) := x12
      clear HD hv hr hh hkv
      have HXR := Asd.mk (blk_below HB.out HX.out)
      have HHR := Asd.mk (held_below HH.out HB.out)
      go_wp2_with fail
      refine (clos_calls q A1 n1 c1 x A2 n2 c2 pe P Q _ HFK.out HHK.out HXR.out HHR.out).mono ?_
      rintro e w2 ⟨rfl, hb2⟩
      have HB2 : Asd (Below w.heap.size w w2) := Asd.mk (HB.out.trans (hb2.mono HB.out.size))
      clear x0 x1 x2 x3 x4 x5 x6 x7 x8 x9 x10 x11 x12 hb2
      cases hs : sameE q.1 x with
      | true =>
        have HS := Asd.mk (HYES.out hs)
        clear hs
        go_wp2
        go_ret
        exact HFIN.out _ HB2.out HS.out
      | false =>
        have HS := Asd.mk (HNO.out hs)
        clear hs
        go_wp2
        go_roundw
        case rel => exact ⟨k + 1, by omega, by go_num, HB2, HS⟩
        case measure => simp [intOf]; omega
    · have HS : Asd (knownV ks x = none) := Asd.mk (by rw [HQ.out, List.drop_of_length_le (by rw [HM.out]; omega)]; rfl)
      clear HQ
      go_wp2
      go_ret
      exact ⟨HB.out, .inr ⟨rfl, HS.out⟩⟩
end Go.Proofs.Ytinflndbfdbnhaa.Exp

/- eval.Eval: what is known, empty, a literal, an aggregate, a column; the operands. -/
set_option linter.unusedVariables false
set_option linter.unusedSimpArgs false
namespace Go.Proofs.Ytinflndbfdbnhaa.Exp
open Go.RowKit Go.Proofs.Ytinflndbfdbnhaa.Base Go.Proofs.Ytinflndbfdbnhaa.App Go.Proofs.Ytinflndbfdbnhaa.Byt

/-- A row and what is known lie in memory, as Eval is handed them. -/
structure EnvW (P : Nat → Prop) (W : World) (RA : Option Addr) (KA : Option Addr) (row : List Vl) (ks : List (Ex × Vl)) : Prop where
  vals : ValSl W RA row
  rlen : row.length ≤ 1048576
  rrv : ∀ v ∈ row, RV v
  kn : KnSl P W KA ks
  klen : ks.length ≤ 1048576
  krv : ∀ q ∈ ks, RV q.2
  few : ∀ q ∈ ks, fewE q.1
theorem EnvW.below {P : Nat → Prop} {W W' : World} {RA KA : Option Addr} {row : List Vl} {ks : List (Ex × Vl)} (h : EnvW P W RA KA row ks) (hb : Below W.heap.size W W') : EnvW P W' RA KA row ks := ⟨h.vals.below hb, h.rlen, h.rrv, h.kn.below hb, h.klen, h.krv, h.few⟩
/-- Eval of an expression is walked. -/
def EvalOK (row : List Vl) (ks : List (Ex × Vl)) (x : Ex) : Prop := ∀ (P Q : Nat → Prop) (A RA KA : Option Addr) (c rc kc : Nat) (w : World), EnvW P w RA KA row ks → Held Q w x.args (.slice A x.args.length c) →
  Calls Try.prog 10 #[exV x (.slice A x.args.length c), .slice RA row.length rc, .slice KA ks.length kc] w (Ev2 (evE row ks x) w)
/-- A result as Eval answers it, out of its cells. -/
theorem ev2_ok {r : Ev} {w w' : World} {v : Vl} (h : r = .ok v) (hb : Below w.heap.size w w') : Ev2 r w (.returned (.tuple #[vC v, .int .i64 0])) w' := ⟨hb, by rw [h]⟩
theorem ev2_err {r : Ev} {w w' : World} {n : Int} (h : r = .error n) (hb : Below w.heap.size w w') : Ev2 r w (.returned (.tuple #[vC vNull, .int .i64 n])) w' := ⟨hb, by rw [h]⟩

theorem one_empty {row : List Vl} {x : Ex} {r : EvL} (h : emptyE x = true) : oneE row x r = .error 5 := by unfold oneE; rw [h]; rfl
theorem one_lit {row : List Vl} {x : Ex} {r : EvL} (h : emptyE x = false) (hk : x.kind = 1) : oneE row x r = .ok x.v := by unfold oneE; rw [h, if_neg (by decide), if_pos hk]
theorem one_agg {row : List Vl} {x : Ex} {r : EvL} (h : emptyE x = false) (hk : x.kind = 6) : oneE row x r = .error 36 := by unfold oneE; rw [h, if_neg (by decide), if_neg (by omega), if_pos hk]
theorem one_col {row : List Vl} {x : Ex} {r : EvL} (h : emptyE x = false) (hk : x.kind = 2) : oneE row x r = colV row x.col := by unfold oneE; rw [h, if_neg (by decide), if_neg (by omega), if_neg (by omega), if_pos hk]
theorem one_rest {row : List Vl} {x : Ex} {r : EvL} (h : emptyE x = false) (h1 : ¬ x.kind = 1) (h6 : ¬ x.kind = 6) (h2 : ¬ x.kind = 2) : oneE row x r = resL x.kind x.op r := by unfold oneE; rw [h, if_neg (by decide), if_neg h1, if_neg h6, if_neg h2]
theorem shape_of {x : Ex} (h : emptyE x = false) (h1 : ¬ x.kind = 1) (h6 : ¬ x.kind = 6) (h2 : ¬ x.kind = 2) : (x.kind = 3 ∧ (x.op = 1 ∨ x.op = 2) ∧ x.args.length = 1) ∨ (x.kind = 7 ∧ (x.op = 0 ∨ x.op = 1) ∧ x.args.length = 1) ∨ (x.kind = 5 ∧ 1 ≤ x.op ∧ x.op ≤ 6 ∧ x.args.length = opn x.op.toNat) ∨ (x.kind = 4 ∧ 3 ≤ x.op ∧ x.op ≤ 16 ∧ x.args.length = 2) := by
  unfold emptyE at h
  rw [Bool.or_eq_false_iff] at h
  have hl := h.1
  unfold lnG at hl
  split at hl
  · rename_i hc; omega
  · split at hl
    · rename_i hc; exact .inr (.inr (.inl hc))
    · split at hl
      · rename_i hc; exact absurd hc.1 h6
      · split at hl
        · rename_i hc; exact .inl ⟨hc.1, .inr hc.2.1, hc.2.2⟩
        · split at hl
          · rename_i hc; exact .inl ⟨hc.1, .inl hc.2.1, hc.2.2⟩
          · split at hl
            · rename_i hc; exact .inr (.inl hc)
            · split at hl
              · rename_i hc; exact .inr (.inr (.inr hc))
              · simp at hl
theorem colV_at {row : List Vl} {c : Int} {j : Nat} (hc : c = (j : Int)) (h : j < row.length) : colV row c = .ok row[j] := by
  subst hc
  unfold colV
  rw [if_neg (by omega), Int.toNat_natCast, List.getElem?_eq_getElem h]
theorem evL_err {row : List Vl} {ks : List (Ex × Vl)} {k o : Int} {f : Bool} {a : Ex} {l : List Ex} {n : Int} (h : evE row ks a = .error n) : evL row ks k o f (a :: l) = .err n := by rw [evL, h]
theorem evL_dec {row : List Vl} {ks : List (Ex × Vl)} {k o : Int} {f : Bool} {a : Ex} {l : List Ex} {v : Vl} (h : evE row ks a = .ok v) (hd : (f && decP k o v) = true) : evL row ks k o f (a :: l) = .dec v := by rw [evL, h]; simp only; rw [if_pos hd]
theorem evL_go {row : List Vl} {ks : List (Ex × Vl)} {k o : Int} {f : Bool} {a : Ex} {l : List Ex} {v : Vl} (h : evE row ks a = .ok v) (hd : (f && decP k o v) = false) : evL row ks k o f (a :: l) = (evL row ks k o false l).cons v := by rw [evL, h]; simp only; rw [if_neg (by rw [hd]; decide)]
theorem infoV' : (Try.prog.info? 23).map (fun i => (i.zero, i.size, i.bytes)) = some (some (.agg #[.int .i64 0, .int .i64 0, .string ⟨#[]⟩]), 3, 32) := by kernel_rfl
theorem info_partsV : ∃ i, Try.prog.info? 23 = some i ∧ i.zero = some (.agg #[.int .i64 0, .int .i64 0, .string ⟨#[]⟩]) ∧ i.size = 3 ∧ i.bytes = 32 := by
  cases hi : Try.prog.info? 23 with
  | none => have := infoV'; rw [hi] at this; cases this
  | some i =>
    have := infoV'
    rw [hi] at this
    simp only [Option.map_some, Option.some.injEq, Prod.mk.injEq] at this
    exact ⟨i, rfl, this.1, this.2.1, this.2.2⟩
def resVal : Ev → Vl
  | .ok v => v
  | .error _ => vNull
def resNum : Ev → Int
  | .ok _ => 0
  | .error n => n
theorem ev2_form {r : Ev} {w w' : World} {e : Ending} (h : Ev2 r w e w') : e = .returned (.tuple #[vC (resVal r), .int .i64 (resNum r)]) ∧ Below w.heap.size w w' := by
  obtain ⟨hb, he⟩ := h
  cases r <;> exact ⟨he, hb⟩
theorem ev2_of {r r' : Ev} {w w' : World} {u : Vl} {n : Int} (h : r = r') (hu : resVal r' = u) (hn : resNum r' = n) (hb : Below w.heap.size w w') : Ev2 r w (.returned (.tuple #[vC u, .int .i64 n])) w' := by
  subst h; subst hu; subst hn
  refine ⟨hb, ?_⟩
  cases r <;> rfl
theorem finP_un {k o : Int} {a : Vl} (h : k = 3) : finP k o [a] = unP o a := by subst h; rfl
theorem finP_is {k o : Int} {a : Vl} (h : k = 7) : finP k o [a] = .ok (vTru ((a.kind == 0) == (o == 0))) := by subst h; rfl
theorem finP_bin {k o : Int} {a b : Vl} (h : k = 4) : finP k o [a, b] = binP o a b := by subst h; rfl
theorem finP_two {k o : Int} {a b : Vl} (h : k = 5) : finP k o [a, b] = .ok b := by subst h; rfl
theorem finP_call {k o : Int} {l : List Vl} (h : k = 5) (hl : l.length ≠ 2) : finP k o l = callV o l := by
  subst h
  match l, hl with
  | [], _ => rfl
  | [a], _ => rfl
  | [a, b], hl => exact absurd rfl hl
  | a :: b :: c :: r, _ => rfl
/-- What stands ahead is worth these. -/
def EvL.pre (vs : List Vl) (r : EvL) : EvL := vs.foldr EvL.cons r
theorem pre_err (vs : List Vl) (n : Int) : EvL.pre vs (.err n) = .err n := by
  induction vs with
  | nil => rfl
  | cons v r ih => show EvL.cons v (EvL.pre r (.err n)) = _; rw [ih]; rfl
theorem pre_snoc (vs : List Vl) (v : Vl) (r : EvL) : EvL.pre vs (r.cons v) = EvL.pre (vs ++ [v]) r := by
  unfold EvL.pre
  rw [List.foldr_append]
  rfl
theorem pre_all (vs : List Vl) : EvL.pre vs (.all []) = .all vs := by
  induction vs with
  | nil => rfl
  | cons v r ih => show EvL.cons v (EvL.pre r (.all [])) = _; rw [ih]; rfl
def valsC (vs : List Vl) : List Value := vs.flatMap fun v => [.int .i64 v.kind, .int .i64 v.int, .string ⟨v.text.toArray⟩]
theorem valsC_snoc (vs : List Vl) (v : Vl) : valsC (vs ++ [v]) = valsC vs ++ [.int .i64 v.kind, .int .i64 v.int, .string ⟨v.text.toArray⟩] := by simp [valsC]
theorem valsC_at : ∀ (vs : List Vl) (i : Nat) (hi : i < vs.length), (valsC vs)[i * 3]? = some (.int .i64 vs[i].kind) ∧ (valsC vs)[i * 3 + 1]? = some (.int .i64 vs[i].int) ∧ (valsC vs)[i * 3 + 2]? = some (.string ⟨vs[i].text.toArray⟩)
  | v :: r, 0, hi => ⟨rfl, rfl, rfl⟩
  | v :: r, i + 1, hi => by
    have ih := valsC_at r i (by simpa using hi)
    have e : valsC (v :: r) = [.int .i64 v.kind, .int .i64 v.int, .string ⟨v.text.toArray⟩] ++ valsC r := rfl
    refine ⟨?_, ?_, ?_⟩
    · rw [e, List.getElem?_append_right (by simp; omega)]
      rw [show (i + 1) * 3 - [Value.int .i64 v.kind, .int .i64 v.int, .string ⟨v.text.toArray⟩].length = i * 3 by simp; omega]
      exact ih.1
    · rw [e, List.getElem?_append_right (by simp; omega)]
      rw [show (i + 1) * 3 + 1 - [Value.int .i64 v.kind, .int .i64 v.int, .string ⟨v.text.toArray⟩].length = i * 3 + 1 by simp; omega]
      exact ih.2.1
    · rw [e, List.getElem?_append_right (by simp; omega)]
      rw [show (i + 1) * 3 + 2 - [Value.int .i64 v.kind, .int .i64 v.int, .string ⟨v.text.toArray⟩].length = i * 3 + 2 by simp; omega]
      exact ih.2.2
theorem own_vals {W : World} {B : Nat} {A : Option Addr} {m c : Nat} {vs : List Vl} (h : W.ownsRow B 23 3 (.slice A m c) m (valsC vs)) (hm : m = vs.length) : ValSl W A vs := by
  intro h0
  rcases h.2 with ⟨_, h00⟩ | ⟨g, cap, cur, he, hb, hh, _⟩
  · omega
  · have hc := h.cells (g := g)
    injection he with h1 h2 h3
    subst h1
    refine ⟨g, 0, rfl, fun i hi => ?_⟩
    have hg := hc (by simp [Value.ownBlock])
    obtain ⟨e0, e1, e2⟩ := valsC_at vs i hi
    have f0 := hg _ _ e0
    have f1 := hg _ _ e1
    have f2 := hg _ _ e2
    rw [addr_add] at f0 f1 f2
    refine ⟨f0, ?_, ?_⟩
    · rw [← f1]; congr 1
    · rw [← f2]; congr 1
theorem own_at {W : World} {B : Nat} {A : Option Addr} {m c : Nat} {vs : List Vl} (h : W.ownsRow B 23 3 (.slice A m c) m (valsC vs)) (hm : m = vs.length) (h0 : 0 < vs.length) : ∃ g, A = some ⟨g, 0, none⟩ ∧ B ≤ g ∧ ∀ i (h : i < vs.length), ValAt W g (i * 3) vs[i] := by
  obtain ⟨g, o, rfl, hv⟩ := own_vals h hm h0
  rcases h.2 with ⟨_, h00⟩ | ⟨g', cap, cur, he, hb, _⟩
  · omega
  · injection he with h1 h2 h3
    injection h1 with h1
    injection h1 with h1 h2 h3
    subst h1; subst h2
    exact ⟨g, rfl, hb, fun i hi => by have := hv i hi; rwa [Nat.zero_add] at this⟩
theorem own_keep {W W' : World} {B : Nat} {e : TypeId} {s : Nat} {v : Value} {n : Nat} {xs : List Value} (h : W.ownsRow B e s v n xs) (hb : Below W.heap.size W W') : W'.ownsRow B e s v n xs := by
  refine ⟨h.1, ?_⟩
  rcases h.2 with h0 | ⟨g, cap, cur, hv, hbg, hh, rest⟩
  · exact .inl h0
  · exact .inr ⟨g, cap, cur, hv, hbg, blk_below hb hh, rest⟩
theorem rowV : RowT Try.prog 27 23 3 32 := ⟨Try.underlying27, by
  cases hi : Try.prog.info? 23 with
  | none => have := infoV'; rw [hi] at this; cases this
  | some i =>
    have := infoV'
    rw [hi] at this
    simp only [Option.map_some, Option.some.injEq, Prod.mk.injEq] at this
    exact ⟨i, _, rfl, this.1, this.2.1, this.2.2, rfl⟩, by decide⟩
set_option maxRecDepth 100000 in
set_option maxHeartbeats 12800000 in
theorem eval_step (row : List Vl) (ks : List (Ex × Vl)) (x : Ex) (hx : rvX x) (hsub : ∀ i (h : i < x.args.length), EvalOK row ks x.args[i]) : EvalOK row ks x := by
  intro P Q A RA KA c rc kc w henv hheld
  have HEN := Asd.mk henv
  have HH := Asd.mk hheld
  have HSUB := Asd.mk hsub
  have HEV := Asd.mk (evE_eq row ks x)
  have HRX := Asd.mk hx
  have HRV := Asd.mk (evE_rv henv.rrv henv.krv x hx)
  clear henv hheld hsub hx
  have HX := Asd.mk (blk_alloc (blk_new w (xK x (.slice A x.args.length c))) zeroV)
  have HZ := Asd.mk (nb1 w (xK x (.slice A x.args.length c)) zeroV)
  have HB : Asd (Below w.heap.size w ((w.alloc (xK x (.slice A x.args.length c))).alloc zeroV)) := Asd.mk (below_alloc (below_alloc (Below.refl _ _) _) _)
  obtain ⟨i0, hi0, hz0, hz1, hz2⟩ := info_partsV
  have hmf := mk_func
  unfold exV
  go_enter Try.func10, Try.ntmps10
  go_upto_region 1 with fail
  generalize (w.alloc _).alloc _ = w1 at HX HZ HB ⊢
  have HEN1 := Asd.mk (HEN.out.below HB.out)
  have HH1 := Asd.mk (held_below HH.out HB.out)
  go_wp2_with fail
  refine (index_calls ks HEN.out.klen KA kc x A x.args.length c w.heap.size P Q _ HEN.out.few HEN1.out.kn HX.out HH1.out).mono ?_
  rintro e w2 ⟨hb2, hfound⟩
  have HB2 : Asd (Below w.heap.size w w2) := Asd.mk (HB.out.trans (hb2.mono HB.out.size))
  have HX2 := Asd.mk (blk_below hb2 HX.out)
  have HZ2 := Asd.mk (blk_below hb2 HZ.out)
  have HEN2 := Asd.mk (HEN1.out.below hb2)
  have HH2 := Asd.mk (held_below HH1.out hb2)
  have HSZ2 : Asd (w.heap.size + 2 ≤ w2.heap.size) := Asd.mk (blk_lt HZ2.out)
  clear hb2 HX HZ HEN1 HH1 HB
  obtain ⟨⟨z0, z1, z2⟩, y0, y1, y2⟩ := zero_cells HZ2.out
  rcases hfound with ⟨i, hi, rfl, hk⟩ | ⟨rfl, hk⟩
  · rw [hk] at HEV
    obtain ⟨g, o, rfl, hv⟩ := HEN2.out.kn (by omega)
    obtain ⟨_, _, _, hr, hh, k0, k1, k2⟩ := hv i hi
    clear hr hh
    generalize ks[i] = q at k0 k1 k2 HEV
    have k0 : w2.cell? ⟨g, o + i * 13 + 10, none⟩ = some (.int .i64 q.2.kind) := k0
    have k1 : w2.cell? ⟨g, o + i * 13 + 11, none⟩ = some (.int .i64 q.2.int) := k1
    have k2 : w2.cell? ⟨g, o + i * 13 + 12, none⟩ = some (.string ⟨q.2.text.toArray⟩) := k2
    have hgl := World.block_lt_of_cell? w2 _ k0
    clear hv hk
    have hi0 : (0 : Int) ≤ (i : Int) := by omega
    have hn := HEN.out.klen
    clear HEN HEN2
    generalize ks.length = n at hi hn ⊢
    go_wp2
    refine val_ret2 rfl (w.heap.size + 1) _ _ _ rfl (put3_blk HZ2.out _ _ _) rfl ?_
    exact ev2_ok HEV.out (below_put3 HB2.out (by omega) _ _ _)
  · rw [hk] at HEV
    clear hk
    obtain ⟨e0, e1, e2, e3, e4, e5, e6, e7, e8, e9⟩ := ex_cells (x := x) HX2.out
    go_wp2_with fail
    refine (empty_calls x (rvX_v HRX.out) A c _).mono ?_
    rintro e w3 ⟨rfl, hb3⟩
    have HB3 : Asd (Below w.heap.size w w3) := Asd.mk (HB2.out.trans (hb3.mono HB2.out.size))
    have HX3 := Asd.mk (blk_below hb3 HX2.out)
    have HZ3 := Asd.mk (blk_below hb3 HZ2.out)
    have HSZ3 : Asd (w.heap.size + 2 ≤ w3.heap.size) := Asd.mk (Nat.le_trans HSZ2.out hb3.size)
    clear e0 e1 e2 e3 e4 e5 e6 e7 e8 e9 z0 z1 z2 y0 y1 y2 hb3 HX2 HZ2 HSZ2 HB2 HEN2 HH2
    obtain ⟨e0, e1, e2, e3, e4, e5, e6, e7, e8, e9⟩ := ex_cells (x := x) HX3.out
    obtain ⟨⟨z0, z1, z2⟩, y0, y1, y2⟩ := zero_cells HZ3.out
    cases hem : emptyE x with
    | true =>
      have HR := Asd.mk (HEV.out.trans (one_empty hem))
      clear hem
      go_wp2
      refine val_ret2 rfl (w.heap.size + 1) _ _ _ rfl (put3_blk HZ3.out _ _ _) rfl ?_
      exact ev2_err HR.out (below_put3 HB3.out (by omega) _ _ _)
    | false =>
      have HEM := Asd.mk hem
      clear hem
      by_cases hk1 : x.kind = 1
      · have HR := Asd.mk (HEV.out.trans (one_lit HEM.out hk1))
        have hk1' : (x.kind == 1) = true := by rw [hk1]; rfl
        clear hk1
        go_wp2
        refine val_ret2 rfl (w.heap.size + 1) _ _ _ rfl (put3_blk HZ3.out _ _ _) rfl ?_
        exact ev2_ok HR.out (below_put3 HB3.out (by omega) _ _ _)
      have hk1' : (x.kind == 1) = false := by simpa using hk1
      by_cases hk6 : x.kind = 6
      · have HR := Asd.mk (HEV.out.trans (one_agg HEM.out hk6))
        have hk6' : (x.kind == 6) = true := by rw [hk6]; rfl
        clear hk6 hk1
        go_wp2
        refine val_ret2 rfl (w.heap.size + 1) _ _ _ rfl (put3_blk HZ3.out _ _ _) rfl ?_
        exact ev2_err HR.out (below_put3 HB3.out (by omega) _ _ _)
      have hk6' : (x.kind == 6) = false := by simpa using hk6
      by_cases hk2 : x.kind = 2
      · have HR := Asd.mk (HEV.out.trans (one_col HEM.out hk2))
        have hk2' : (x.kind == 2) = true := by rw [hk2]; rfl
        clear hk1 hk6 hk2
        have hrl := HEN.out.rlen
        by_cases hc0 : x.col < 0
        · have HR2 : Asd (evE row ks x = .error 2) := Asd.mk (by rw [HR.out]; unfold colV; rw [if_pos hc0])
          go_wp2
          refine val_ret2 rfl (w.heap.size + 1) _ _ _ rfl (put3_blk HZ3.out _ _ _) rfl ?_
          exact ev2_err HR2.out (below_put3 HB3.out (by omega) _ _ _)
        · by_cases hcr : (row.length : Int) ≤ x.col
          · have HR2 : Asd (evE row ks x = .error 2) := Asd.mk (by rw [HR.out]; unfold colV; rw [if_neg hc0, List.getElem?_eq_none (by omega)])
            go_wp2
            refine val_ret2 rfl (w.heap.size + 1) _ _ _ rfl (put3_blk HZ3.out _ _ _) rfl ?_
            exact ev2_err HR2.out (below_put3 HB3.out (by omega) _ _ _)
          · obtain ⟨j, hj⟩ := Int.eq_ofNat_of_zero_le (show 0 ≤ x.col by omega)
            have hjl : j < row.length := by omega
            obtain ⟨g, o, rfl, hv⟩ := (HEN.out.below HB3.out).vals (by omega)
            obtain ⟨r0, r1, r2⟩ := hv j hjl
            have HR2 : Asd (evE row ks x = .ok row[j]) := Asd.mk (by rw [HR.out]; exact colV_at hj hjl)
            generalize row[j] = u at r0 r1 r2 HR2
            rw [hj] at e7
            have hj0 : (0 : Int) ≤ (j : Int) := by omega
            clear hv hc0 hcr hj
            go_wp2
            refine val_ret2 rfl (w.heap.size + 1) _ _ _ rfl (put3_blk HZ3.out _ _ _) rfl ?_
            exact ev2_ok HR2.out (below_put3 HB3.out (by omega) _ _ _)
      have hk2' : (x.kind == 2) = false := by simpa using hk2
      have HR := Asd.mk (HEV.out.trans (one_rest HEM.out hk1 hk6 hk2))
      have HSH := Asd.mk (shape_of HEM.out hk1 hk6 hk2)
      clear hk1 hk6 hk2
      have hn3 : x.args.length ≤ 3 := by
        rcases HSH.out with ⟨_, _, h⟩ | ⟨_, _, h⟩ | ⟨_, _, _, h⟩ | ⟨_, _, _, h⟩
        · omega
        · omega
        · rw [h]; unfold opn; split
          · omega
          · split <;> omega
        · omega
      have HNX : Asd (x.args.length = x.args.length) := Asd.mk rfl
      generalize hm : x.args.length = m at e9 hn3 HNX ⊢
      have HM := Asd.mk hm
      clear hm HNX z0 z1 z2 y0 y1 y2
      have HB0 := HB3
      go_wp2
      go_loopw [57, 9] (fun i l wr => ∃ (k : Nat) (vs : List Vl) (A' : Option Addr) (c' : Nat), k ≤ m ∧ i = .int .i64 (k : Int) ∧ l = .slice A' k c' ∧ Asd (vs.length = k) ∧ Asd (∀ v ∈ vs, RV v) ∧ Asd (wr.ownsRow w3.heap.size 23 3 (.slice A' k c') k (valsC vs)) ∧ Asd (Below w.heap.size w wr) ∧ Asd (Below w3.heap.size w3 wr) ∧ Asd (evL row ks x.kind x.op true x.args = EvL.pre vs (evL row ks x.kind x.op (k == 0) (x.args.drop k)))) (fun i _ _ => m - (intOf i).toNat)
      case atStart => exact ⟨0, [], none, 0, by omega, rfl, rfl, ⟨rfl⟩, ⟨fun v hv => by cases hv⟩, ⟨World.ownsRow_nil _ _ _ _⟩, ⟨HB0.out⟩, ⟨Below.refl _ _⟩, ⟨rfl⟩⟩
      case round =>
        obtain ⟨k, vs, A', c', hk, rfl, rfl, HVL, HVR, HOW, HBR, HBR3, HEL⟩ := hrel
        clear e0 e1 e2 e3 e4 e5 e6 e7 e8 e9
        have HXR := Asd.mk (blk_below HBR3.out HX3.out)
        have HZR := Asd.mk (blk_below HBR3.out HZ3.out)
        have HSZR : Asd (w.heap.size + 2 ≤ wr.heap.size) := Asd.mk (Nat.le_trans HSZ3.out HBR3.out.size)
        by_cases hlt : k < m
        · have hkx : k < x.args.length := by rw [HM.out]; exact hlt
          obtain ⟨g, o, A1, n1, c1, he1, hr1, hh1⟩ := held_at (held_below HH.out HBR.out) k hkx
          subst he1
          obtain ⟨A1', c1', he2⟩ := held_len hh1
          have hn1 : n1 = x.args[k].args.length := by
            injection he2
          subst hn1
          clear he2
          have HSK := Asd.mk (HSUB.out k hkx)
          have HRK := Asd.mk (evE_rv HEN.out.rrv HEN.out.krv x.args[k] (rvXL_mem (rvX_args HRX.out) _ (List.getElem_mem hkx)))
          have HD : Asd (x.args.drop k = x.args[k] :: x.args.drop (k + 1)) := Asd.mk (List.drop_eq_getElem_cons hkx)
          rw [HD.out] at HEL
          generalize x.args[k] = a at hr1 hh1 HSK HRK HEL
          have HHA := Asd.mk hh1
          clear HD hkx
          have hgl := World.block_lt_of_cell? wr _ (hr1 0 (by omega))
          have hk0 : (0 : Int) ≤ (k : Int) := by omega
          have x0 : wr.cell? ⟨g, o + k * 10, none⟩ = some (.int .i64 a.kind) := hr1 0 (by omega)
          have x1 : wr.cell? ⟨g, o + k * 10 + 1, none⟩ = some (.int .i64 a.op) := hr1 1 (by omega)
          have x2 : wr.cell? ⟨g, o + k * 10 + 2, none⟩ = some (.int .i64 a.v.kind) := hr1 2 (by omega)
          have x3 : wr.cell? ⟨g, o + k * 10 + 3, none⟩ = some (.int .i64 a.v.int) := hr1 3 (by omega)
          have x4 : wr.cell? ⟨g, o + k * 10 + 4, none⟩ = some (.string ⟨a.v.text.toArray⟩) := hr1 4 (by omega)
          have x5 : wr.cell? ⟨g, o + k * 10 + 5, none⟩ = some (.string ⟨a.table.toArray⟩) := hr1 5 (by omega)
          have x6 : wr.cell? ⟨g, o + k * 10 + 6, none⟩ = some (.string ⟨a.name.toArray⟩) := hr1 6 (by omega)
          have x7 : wr.cell? ⟨g, o + k * 10 + 7, none⟩ = some (.int .i64 a.col) := hr1 7 (by omega)
          have x8 : wr.cell? ⟨g, o + k * 10 + 8, none⟩ = some (.int .i64 a.ty) := hr1 8 (by omega)
          have x9 : wr.cell? ⟨g, o + k * 10 + 9, none⟩ = some (.slice A1 a.args.length c1) := hr1 9 (by omega)
          clear hr1 hh1
          have HA1 := Asd.mk (blk_new wr (xK a (.slice A1 a.args.length c1)))
          have HB1 : Asd (Below wr.heap.size wr (wr.alloc (xK a (.slice A1 a.args.length c1)))) := Asd.mk (below_alloc (Below.refl _ wr) _)
          go_upto_region 19 with fail
          generalize wr.alloc _ = w4 at HA1 HB1 ⊢
          clear x0 x1 x2 x3 x4 x5 x6 x7 x8 x9
          have HB4 : Asd (Below w.heap.size w w4) := Asd.mk (HBR.out.trans (HB1.out.mono HBR.out.size))
          obtain ⟨e0, e1, e2, e3, e4, e5, e6, e7, e8, e9⟩ := ex_cells (x := a) HA1.out
          go_wp2_with fail
          refine (HSK.out P Q A1 RA KA c1 rc kc w4 (HEN.out.below HB4.out) (held_below HHA.out HB1.out)).mono ?_
          rintro e w5 ⟨hb5, rfl⟩
          have HBR5 : Asd (Below wr.heap.size wr w5) := Asd.mk (HB1.out.trans (hb5.mono HB1.out.size))
          have HB5 : Asd (Below w.heap.size w w5) := Asd.mk (HBR.out.trans (HBR5.out.mono HBR.out.size))
          clear e0 e1 e2 e3 e4 e5 e6 e7 e8 e9 hb5 HA1 HB1 HB4 HHA HSK
          have HZ5 := Asd.mk (blk_below HBR5.out HZR.out)
          have HX5 := Asd.mk (blk_below HBR5.out HXR.out)
          cases hr : evE row ks a with
          | error f =>
            have hfn : (f != 0) = true := by rw [bne_iff_ne]; exact evE_nz row ks a f hr
            have HF : Asd (evE row ks x = .error f) := Asd.mk (by rw [HR.out, HEL.out, evL_err hr, pre_err]; rfl)
            clear hr
            simp only [vC, vNull]
            have HZ6 := Asd.mk (blk_alloc HZ5.out zeroV)
            have HB6 : Asd (Below w.heap.size w (w5.alloc zeroV)) := Asd.mk (below_alloc HB5.out _)
            go_upto_region 20 with fail
            generalize w5.alloc _ = w6 at HZ6 HB6 ⊢
            obtain ⟨⟨z0, z1, z2⟩, y0, y1, y2⟩ := zero_cells HZ6.out
            go_wp2
            refine val_ret2 rfl (w.heap.size + 1) _ _ _ rfl (put3_blk HZ6.out _ _ _) rfl ?_
            exact ev2_err HF.out (below_put3 HB6.out (by omega) _ _ _)
          | ok v =>
            have HEQ := Asd.mk hr
            have HRV5 := Asd.mk (HRK.out v hr)
            clear hr
            simp only [vC]
            have HZ6 := Asd.mk (blk_alloc HZ5.out (vK v))
            have HX6 := Asd.mk (blk_alloc HX5.out (vK v))
            have HV6 := Asd.mk (blk_new w5 (vK v))
            have HB56 : Asd (Below w5.heap.size w5 (w5.alloc (vK v))) := Asd.mk (below_alloc (Below.refl _ _) _)
            go_upto_region 20 with fail
            generalize w5.alloc _ = w6 at HZ6 HX6 HV6 HB56 ⊢
            generalize w5.heap.size = b12 at HV6 ⊢
            have HBR6 : Asd (Below wr.heap.size wr w6) := Asd.mk (HBR5.out.trans (HB56.out.mono HBR5.out.size))
            obtain ⟨v0, v1, v2⟩ := val_cells HV6.out
            obtain ⟨e0, e1, e2, e3, e4, e5, e6, e7, e8, e9⟩ := ex_cells (x := x) HX6.out
            obtain ⟨⟨z0, z1, z2⟩, y0, y1, y2⟩ := zero_cells HZ6.out
            cases hkz : (k == 0) with
            | true =>
              have hkI : ((k : Int) == 0) = true := by rw [beq_iff_eq] at hkz ⊢; omega
              have HVN : Asd (vs = []) := Asd.mk (List.length_eq_zero_iff.mp (by rw [HVL.out]; exact beq_iff_eq.mp hkz))
              rw [hkz] at HEL
              go_wp2_with fail
              refine (decided_calls x _ v _).mono ?_
              rintro e w7 ⟨rfl, hb7⟩
              have HB7 : Asd (Below wr.heap.size wr w7) := Asd.mk (HBR6.out.trans (hb7.mono HBR6.out.size))
              have HZ7 := Asd.mk (blk_below hb7 HZ6.out)
              have HV7 := Asd.mk (blk_below hb7 HV6.out)
              clear e0 e1 e2 e3 e4 e5 e6 e7 e8 e9 z0 z1 z2 y0 y1 y2 v0 v1 v2 hb7
              obtain ⟨v0, v1, v2⟩ := val_cells HV7.out
              obtain ⟨⟨z0, z1, z2⟩, y0, y1, y2⟩ := zero_cells HZ7.out
              have HBT : Asd (Below w.heap.size w w7) := Asd.mk (HBR.out.trans (HB7.out.mono HBR.out.size))
              cases hd : decP x.kind x.op v with
              | true =>
                have HF : Asd (evE row ks x = .ok v) := Asd.mk (by rw [HR.out, HEL.out, evL_dec HEQ.out (by rw [hd]; rfl), HVN.out]; rfl)
                clear hd
                go_wp2
                refine val_ret2 rfl (w.heap.size + 1) _ _ _ rfl (put3_blk HZ7.out _ _ _) rfl ?_
                exact ev2_ok HF.out (below_put3 HBT.out (by omega) _ _ _)
              | false =>
                have HEL8 : Asd (evL row ks x.kind x.op true x.args = EvL.pre (vs ++ [v]) (evL row ks x.kind x.op (k + 1 == 0) (x.args.drop (k + 1)))) := Asd.mk (by rw [HEL.out, evL_go HEQ.out (by rw [hd]; rfl), pre_snoc]; rfl)
                clear hd
                have HBW := HB7
                have HB3T : Asd (Below w3.heap.size w3 w7) := Asd.mk (HBR3.out.trans (HB7.out.mono HBR3.out.size))
                have HSW : Asd (w3.heap.size ≤ w7.heap.size) := Asd.mk HB3T.out.size
                have HOWN : Asd ((w7.alloc (.cells #[.int .i64 v.kind, .int .i64 v.int, .string ⟨v.text.toArray⟩] 23 (0, 0))).ownsRow w3.heap.size 23 3 (.slice A' k c') k (valsC vs)) := Asd.mk (own_keep HOW.out (below_alloc HBW.out _))
                go_wp2_with (at_builtin; refine wpList_append_own _ rfl (.tmp 81) (.tmp 83) 27 rfl w3.heap.size 23 i0 (.agg #[.int .i64 0, .int .i64 0, .string ⟨#[]⟩]) 3 32 Try.underlying27 hi0 hz0 hz1 hz2 rfl (by decide) _ _ _ rfl HOWN.out ⟨w7.heap.size, 0, none⟩ 1 1 [.int .i64 v.kind, .int .i64 v.int, .string ⟨v.text.toArray⟩] rfl rfl ?c0 ?c00 ?c1 ?c2 ?c3 ?_)
                case c0 => exact World.news_of_block (blk_new w7 (.cells #[.int .i64 v.kind, .int .i64 v.int, .string ⟨v.text.toArray⟩] 23 (0, 0)))
                case c00 =>
                  intro u hu
                  simp only [List.mem_cons, List.not_mem_nil, or_false] at hu
                  rcases hu with rfl | rfl | rfl <;> rfl
                case c1 => unfold maxLen; omega
                case c2 => omega
                case c3 => have := HSW.out; simp; omega
                · intro v' w8 hown' hgr _
                  have HO8 : Asd (w8.ownsRow w3.heap.size 23 3 v' (k + 1) (valsC (vs ++ [v]))) := Asd.mk (by rw [valsC_snoc]; exact hown')
                  have HB8 : Asd (Below w.heap.size w w8) := Asd.mk (below_own (below_alloc HBT.out _) HOWN.out hgr (by have := HSZ3.out; omega))
                  have HB83 : Asd (Below w3.heap.size w3 w8) := Asd.mk (below_own (below_alloc HB3T.out _) HOWN.out hgr (Nat.le_refl _))
                  obtain ⟨A8, c8, rfl⟩ := own_form HO8.out
                  clear hown' hgr
                  go_wp2
                  go_roundw
                  case rel => exact ⟨k + 1, vs ++ [v], A8, c8, by omega, by go_num, rfl, ⟨by rw [List.length_append, HVL.out]; rfl⟩, ⟨fun u hu => by
                    rcases List.mem_append.mp hu with hu | hu
                    · exact HVR.out u hu
                    · rw [List.mem_singleton] at hu; rw [hu]; exact HRV5.out⟩, HO8, HB8, HB83, HEL8⟩
                  case measure => simp [intOf]; omega
            | false =>
              have hkI : ((k : Int) == 0) = false := by rw [beq_eq_false_iff_ne] at hkz ⊢; omega
              rw [hkz] at HEL
              have HEL8 : Asd (evL row ks x.kind x.op true x.args = EvL.pre (vs ++ [v]) (evL row ks x.kind x.op (k + 1 == 0) (x.args.drop (k + 1)))) := Asd.mk (by rw [HEL.out, evL_go HEQ.out rfl, pre_snoc]; rfl)
              have HBT : Asd (Below w.heap.size w w6) := Asd.mk (HBR.out.trans (HBR6.out.mono HBR.out.size))
              have HBW := HBR6
              have HB3T : Asd (Below w3.heap.size w3 w6) := Asd.mk (HBR3.out.trans (HBR6.out.mono HBR3.out.size))
              have HSW : Asd (w3.heap.size ≤ w6.heap.size) := Asd.mk HB3T.out.size
              have HOWN : Asd ((w6.alloc (.cells #[.int .i64 v.kind, .int .i64 v.int, .string ⟨v.text.toArray⟩] 23 (0, 0))).ownsRow w3.heap.size 23 3 (.slice A' k c') k (valsC vs)) := Asd.mk (own_keep HOW.out (below_alloc HBW.out _))
              go_wp2_with (at_builtin; refine wpList_append_own _ rfl (.tmp 81) (.tmp 83) 27 rfl w3.heap.size 23 i0 (.agg #[.int .i64 0, .int .i64 0, .string ⟨#[]⟩]) 3 32 Try.underlying27 hi0 hz0 hz1 hz2 rfl (by decide) _ _ _ rfl HOWN.out ⟨w6.heap.size, 0, none⟩ 1 1 [.int .i64 v.kind, .int .i64 v.int, .string ⟨v.text.toArray⟩] rfl rfl ?c0 ?c00 ?c1 ?c2 ?c3 ?_)
              case c0 => exact World.news_of_block (blk_new w6 (.cells #[.int .i64 v.kind, .int .i64 v.int, .string ⟨v.text.toArray⟩] 23 (0, 0)))
              case c00 =>
                intro u hu
                simp only [List.mem_cons, List.not_mem_nil, or_false] at hu
                rcases hu with rfl | rfl | rfl <;> rfl
              case c1 => unfold maxLen; omega
              case c2 => omega
              case c3 => have := HSW.out; simp; omega
              · intro v' w8 hown' hgr _
                have HO8 : Asd (w8.ownsRow w3.heap.size 23 3 v' (k + 1) (valsC (vs ++ [v]))) := Asd.mk (by rw [valsC_snoc]; exact hown')
                have HB8 : Asd (Below w.heap.size w w8) := Asd.mk (below_own (below_alloc HBT.out _) HOWN.out hgr (by have := HSZ3.out; omega))
                have HB83 : Asd (Below w3.heap.size w3 w8) := Asd.mk (below_own (below_alloc HB3T.out _) HOWN.out hgr (Nat.le_refl _))
                obtain ⟨A8, c8, rfl⟩ := own_form HO8.out
                clear hown' hgr
                go_wp2
                go_roundw
                case rel => exact ⟨k + 1, vs ++ [v], A8, c8, by omega, by go_num, rfl, ⟨by rw [List.length_append, HVL.out]; rfl⟩, ⟨fun u hu => by
                  rcases List.mem_append.mp hu with hu | hu
                  · exact HVR.out u hu
                  · rw [List.mem_singleton] at hu; rw [hu]; exact HRV5.out⟩, HO8, HB8, HB83, HEL8⟩
                case measure => simp [intOf]; omega
        · obtain rfl : k = m := by omega
          have HDN : Asd (x.args.drop k = []) := Asd.mk (List.drop_of_length_le (Nat.le_of_eq HM.out))
          have HF : Asd (evE row ks x = finP x.kind x.op vs) := Asd.mk (by rw [HR.out, HEL.out, HDN.out, evL, pre_all]; rfl)
          have HVS := Asd.mk (own_vals HOW.out HVL.out.symm)
          obtain ⟨e0, e1, e2, e3, e4, e5, e6, e7, e8, e9⟩ := ex_cells (x := x) HXR.out
          clear HEL HDN HSUB e2 e3 e4 e5 e6 e7 e8 e9 HVS
          rcases HSH.out with ⟨hk, ho, hl⟩ | ⟨hk, ho, hl⟩ | ⟨hk, ho1, ho6, hl⟩ | ⟨hk, ho3, ho16, hl⟩
          · -- a sign
            have hl1 : vs.length = 1 := by rw [HVL.out, ← HM.out]; exact hl
            obtain ⟨v, rfl⟩ := List.length_eq_one_iff.mp hl1
            obtain ⟨g, rfl, hgB, hv⟩ := own_at HOW.out HVL.out.symm (by simp)
            have hgz : Asd (¬ g = w.heap.size + 1) := Asd.mk (by have := HSZ3.out; omega)
            have hpz : Asd (¬ w.heap.size = w.heap.size + 1) := Asd.mk (by omega)
            obtain ⟨v0, v1, v2⟩ := hv 0 (by simp)
            simp only [List.getElem_cons_zero, Nat.zero_mul, Nat.zero_add] at v0 v1 v2
            have HV0 := Asd.mk v0
            have HV1 := Asd.mk v1
            have HV2 := Asd.mk v2
            have HE1 := Asd.mk e1
            have hkk : k = 1 := by rw [← HVL.out]; rfl
            have HF : Asd (evE row ks x = unP x.op v) := Asd.mk (HF.out.trans (finP_un hk))
            have HCU := Asd.mk (fun W => (unary_calls x.op ho v (HVR.out v (by simp)) W).mono fun e w' h => ev2_form h)
            generalize hu : resVal (unP x.op v) = u at HCU
            generalize hn : resNum (unP x.op v) = n at HCU
            have HU := Asd.mk hu
            have HN := Asd.mk hn
            clear hu hn
            have hk3 : (x.kind == 3) = true := by rw [hk]; rfl
            have hk4 : (x.kind == 4) = false := by rw [hk]; rfl
            have hk7 : (x.kind == 7) = false := by rw [hk]; rfl
            clear hk hl hl1 ho hv hlt
            subst hkk
            have HS : Asd (∀ w', Fr (fun k => k = w.heap.size + 1) wr w' → w'.cell? ⟨w.heap.size, 1, none⟩ = some (.int .i64 x.op) ∧ w'.cell? ⟨g, 0, none⟩ = some (.int .i64 v.kind) ∧ w'.cell? ⟨g, 1, none⟩ = some (.int .i64 v.int) ∧ w'.cell? ⟨g, 2, none⟩ = some (.string ⟨v.text.toArray⟩) ∧ Fr (fun k => k = w.heap.size + 1) wr w') := Asd.mk fun w' hf => ⟨cell_frS hf hpz.out HE1.out, cell_frS hf hgz.out HV0.out, cell_frS hf hgz.out HV1.out, cell_frS hf hgz.out HV2.out, hf⟩
            go_upto_region 28 with fail
            clear e0 e1 v0 v1 v2
            go_region_held3 (fun w' => w'.cell? ⟨w.heap.size, 1, none⟩ = some (.int .i64 x.op) ∧ w'.cell? ⟨g, 0, none⟩ = some (.int .i64 v.kind) ∧ w'.cell? ⟨g, 1, none⟩ = some (.int .i64 v.int) ∧ w'.cell? ⟨g, 2, none⟩ = some (.string ⟨v.text.toArray⟩) ∧ Fr (fun k => k = w.heap.size + 1) wr w')
              (first
                | exact HS.out _ (Fr.refl _ _)
                | exact HS.out _ (Fr.refl _ _).drew
                | exact HS.out _ HF5.out
                | exact HS.out _ (Fr.setCell (Fr.setCell (Fr.setCell HF5.out (p := ⟨w.heap.size + 1, 0, none⟩) rfl _) (p := ⟨w.heap.size + 1, 1, none⟩) rfl _) (p := ⟨w.heap.size + 1, 2, none⟩) rfl _)
                | (go_split_ands; exact HS.out _ (by assumption))
                | fail)
              (first
                | (go_at_call 23
                   refine (HCU.out _).mono ?_
                   rintro e w5 ⟨rfl, hb5⟩
                   have HF5 : Asd (Fr (fun k => k = w.heap.size + 1) wr w5) := Asd.mk ((Fr.refl _ wr).drew.trans (Fr.of_below hb5) (fun _ h _ => h) (fun _ h _ => h))
                   have HZ5 := Asd.mk (blk_below hb5 (drewb HZR.out))
                   have HB5 : Asd (Below w.heap.size w w5) := Asd.mk (HBR.out.drew.trans (hb5.mono HBR.out.drew.size))
                   obtain ⟨⟨z0, z1, z2⟩, y0, y1, y2⟩ := zero_cells HZ5.out
                   unfold vC)
                | fail)
            go_wp2
            refine val_ret2 rfl (w.heap.size + 1) _ _ _ rfl (put3_blk HZ5.out _ _ _) rfl ?_
            exact ev2_of HF.out HU.out HN.out (below_put3 HB5.out (by omega) _ _ _)
          · -- a look for NULL
            have hl1 : vs.length = 1 := by rw [HVL.out, ← HM.out]; exact hl
            obtain ⟨v, rfl⟩ := List.length_eq_one_iff.mp hl1
            obtain ⟨g, rfl, hgB, hv⟩ := own_at HOW.out HVL.out.symm (by simp)
            have hgz : Asd (¬ g = w.heap.size + 1) := Asd.mk (by have := HSZ3.out; omega)
            have hpz : Asd (¬ w.heap.size = w.heap.size + 1) := Asd.mk (by omega)
            obtain ⟨v0, v1, v2⟩ := hv 0 (by simp)
            simp only [List.getElem_cons_zero, Nat.zero_mul, Nat.zero_add] at v0 v1 v2
            have HV0 := Asd.mk v0
            have HV1 := Asd.mk v1
            have HV2 := Asd.mk v2
            have HE1 := Asd.mk e1
            have hkk : k = 1 := by rw [← HVL.out]; rfl
            have HF : Asd (evE row ks x = .ok (vTru ((v.kind == 0) == (x.op == 0)))) := Asd.mk (HF.out.trans (finP_is hk))
            have hk3 : (x.kind == 3) = false := by rw [hk]; rfl
            have hk4 : (x.kind == 4) = false := by rw [hk]; rfl
            have hk7 : (x.kind == 7) = true := by rw [hk]; rfl
            clear hk hl hl1 ho hv hlt
            subst hkk
            have HS : Asd (∀ w', Fr (fun k => k = w.heap.size + 1) wr w' → w'.cell? ⟨w.heap.size, 1, none⟩ = some (.int .i64 x.op) ∧ w'.cell? ⟨g, 0, none⟩ = some (.int .i64 v.kind) ∧ w'.cell? ⟨g, 1, none⟩ = some (.int .i64 v.int) ∧ w'.cell? ⟨g, 2, none⟩ = some (.string ⟨v.text.toArray⟩) ∧ Fr (fun k => k = w.heap.size + 1) wr w') := Asd.mk fun w' hf => ⟨cell_frS hf hpz.out HE1.out, cell_frS hf hgz.out HV0.out, cell_frS hf hgz.out HV1.out, cell_frS hf hgz.out HV2.out, hf⟩
            go_upto_region 32 with fail
            clear e0 e1 v0 v1 v2
            go_region_held3 (fun w' => w'.cell? ⟨w.heap.size, 1, none⟩ = some (.int .i64 x.op) ∧ w'.cell? ⟨g, 0, none⟩ = some (.int .i64 v.kind) ∧ w'.cell? ⟨g, 1, none⟩ = some (.int .i64 v.int) ∧ w'.cell? ⟨g, 2, none⟩ = some (.string ⟨v.text.toArray⟩) ∧ Fr (fun k => k = w.heap.size + 1) wr w')
              (first
                | exact HS.out _ (Fr.refl _ _)
                | exact HS.out _ (Fr.refl _ _).drew
                | exact HS.out _ HF5.out
                | exact HS.out _ (Fr.setCell (Fr.setCell (Fr.setCell HF5.out (p := ⟨w.heap.size + 1, 0, none⟩) rfl _) (p := ⟨w.heap.size + 1, 1, none⟩) rfl _) (p := ⟨w.heap.size + 1, 2, none⟩) rfl _)
                | (go_split_ands; exact HS.out _ (by assumption))
                | fail)
              (first
                | (go_at_call 25
                   refine (etruth_calls ((v.kind == 0) == (x.op == 0)) _).mono ?_
                   rintro e w5 ⟨rfl, hb5⟩
                   have HF5 : Asd (Fr (fun k => k = w.heap.size + 1) wr w5) := Asd.mk ((Fr.refl _ wr).drew.trans (Fr.of_below hb5) (fun _ h _ => h) (fun _ h _ => h))
                   have HZ5 := Asd.mk (blk_below hb5 (drewb HZR.out))
                   have HB5 : Asd (Below w.heap.size w w5) := Asd.mk (HBR.out.drew.trans (hb5.mono HBR.out.drew.size))
                   obtain ⟨⟨z0, z1, z2⟩, y0, y1, y2⟩ := zero_cells HZ5.out
                   unfold vC)
                | fail)
            go_wp2
            refine val_ret2 rfl (w.heap.size + 1) _ _ _ rfl (put3_blk HZ5.out _ _ _) rfl ?_
            exact ev2_ok HF.out (below_put3 HB5.out (by omega) _ _ _)
          · -- a call
            by_cases h6 : x.op = 6
            · -- coalesce
              have hl : x.args.length = 2 := by rw [hl, h6]; rfl
              have hl2 : vs.length = 2 := by rw [HVL.out, ← HM.out]; exact hl
              obtain ⟨v, u, rfl⟩ : ∃ a b, vs = [a, b] := by
                match vs, hl2 with
                | [a, b], _ => exact ⟨a, b, rfl⟩
              obtain ⟨g, rfl, hgB, hv⟩ := own_at HOW.out HVL.out.symm (by simp)
              have hgz : Asd (¬ g = w.heap.size + 1) := Asd.mk (by have := HSZ3.out; omega)
              have hpz : Asd (¬ w.heap.size = w.heap.size + 1) := Asd.mk (by omega)
              obtain ⟨v0, v1, v2⟩ := hv 0 (by simp)
              obtain ⟨u0, u1, u2⟩ := hv 1 (by simp)
              simp only [List.getElem_cons_zero, List.getElem_cons_succ, Nat.zero_mul, Nat.one_mul, Nat.zero_add, Nat.reduceAdd] at v0 v1 v2 u0 u1 u2
              have HV0 := Asd.mk v0
              have HV1 := Asd.mk v1
              have HV2 := Asd.mk v2
              have HU0 := Asd.mk u0
              have HU1 := Asd.mk u1
              have HU2 := Asd.mk u2
              have HE1 := Asd.mk e1
              have hkk : k = 2 := by rw [← HVL.out]; rfl
              have HF : Asd (evE row ks x = .ok u) := Asd.mk (HF.out.trans (finP_two hk))
              obtain ⟨⟨z0, z1, z2⟩, y0, y1, y2⟩ := zero_cells HZR.out
              have h6' : (x.op == 6) = true := by rw [h6]; rfl
              have hk3 : (x.kind == 3) = false := by rw [hk]; rfl
              have hk4 : (x.kind == 4) = false := by rw [hk]; rfl
              have hk7 : (x.kind == 7) = false := by rw [hk]; rfl
              clear hk hl hl2 ho1 ho6 hv hlt h6
              subst hkk
              go_wp2
              refine val_ret2 rfl (w.heap.size + 1) _ _ _ rfl (put3_blk HZR.out _ _ _) rfl ?_
              exact ev2_ok HF.out (below_put3 HBR.out (by omega) _ _ _)
            · -- another function
              have hne : x.args.length ≠ 2 := by
                rw [hl]
                unfold opn
                split
                · omega
                · split <;> omega
              have HF : Asd (evE row ks x = callV x.op vs) := Asd.mk (HF.out.trans (finP_call hk (by rw [HVL.out, ← HM.out]; exact hne)))
              have HCU := Asd.mk (fun W hv => (ecall_calls x.op vs ho1 (by omega) (by rw [HVL.out, ← HM.out]; exact hl) HVR.out A' c' W hv).mono fun e w' h => ev2_form h)
              rw [HVL.out] at HCU
              generalize hu : resVal (callV x.op vs) = u at HCU
              generalize hn : resNum (callV x.op vs) = n at HCU
              have HU := Asd.mk hu
              have HN := Asd.mk hn
              have HVS := Asd.mk (own_vals HOW.out HVL.out.symm)
              have h6' : (x.op == 6) = false := by simpa using h6
              clear hu hn
              have hk3 : (x.kind == 3) = false := by rw [hk]; rfl
              have hk4 : (x.kind == 4) = false := by rw [hk]; rfl
              have hk7 : (x.kind == 7) = false := by rw [hk]; rfl
              clear hk hl ho1 ho6 hlt h6 hne
              go_wp2_with fail
              refine (HCU.out _ HVS.out).mono ?_
              rintro e w5 ⟨rfl, hb5⟩
              have HZ5 := Asd.mk (blk_below hb5 HZR.out)
              have HB5 : Asd (Below w.heap.size w w5) := Asd.mk (HBR.out.trans (hb5.mono HBR.out.size))
              obtain ⟨⟨z0, z1, z2⟩, y0, y1, y2⟩ := zero_cells HZ5.out
              clear e0 e1 hb5
              unfold vC
              go_wp2
              refine val_ret2 rfl (w.heap.size + 1) _ _ _ rfl (put3_blk HZ5.out _ _ _) rfl ?_
              exact ev2_of HF.out HU.out HN.out (below_put3 HB5.out (by omega) _ _ _)
          · -- two operands
            have hl2 : vs.length = 2 := by rw [HVL.out, ← HM.out]; exact hl
            obtain ⟨v, u, rfl⟩ : ∃ a b, vs = [a, b] := by
              match vs, hl2 with
              | [a, b], _ => exact ⟨a, b, rfl⟩
            obtain ⟨g, rfl, hgB, hv⟩ := own_at HOW.out HVL.out.symm (by simp)
            have hgz : Asd (¬ g = w.heap.size + 1) := Asd.mk (by have := HSZ3.out; omega)
            have hpz : Asd (¬ w.heap.size = w.heap.size + 1) := Asd.mk (by omega)
            obtain ⟨v0, v1, v2⟩ := hv 0 (by simp)
            obtain ⟨u0, u1, u2⟩ := hv 1 (by simp)
            simp only [List.getElem_cons_zero, List.getElem_cons_succ, Nat.zero_mul, Nat.one_mul, Nat.zero_add, Nat.reduceAdd] at v0 v1 v2 u0 u1 u2
            have HV0 := Asd.mk v0
            have HV1 := Asd.mk v1
            have HV2 := Asd.mk v2
            have HU0 := Asd.mk u0
            have HU1 := Asd.mk u1
            have HU2 := Asd.mk u2
            have HE1 := Asd.mk e1
            have hkk : k = 2 := by rw [← HVL.out]; rfl
            have HF : Asd (evE row ks x = binP x.op v u) := Asd.mk (HF.out.trans (finP_bin hk))
            have HCU := Asd.mk (fun W => (binary_calls x.op ho3 ho16 v u (HVR.out v (by simp)) (HVR.out u (by simp)) W).mono fun e w' h => ev2_form h)
            generalize hu : resVal (binP x.op v u) = r at HCU
            generalize hn : resNum (binP x.op v u) = n at HCU
            have HU := Asd.mk hu
            have HN := Asd.mk hn
            clear hu hn
            have hk3 : (x.kind == 3) = false := by rw [hk]; rfl
            have hk4 : (x.kind == 4) = true := by rw [hk]; rfl
            have hk7 : (x.kind == 7) = false := by rw [hk]; rfl
            clear hk hl hl2 ho3 ho16 hv hlt
            subst hkk
            have HS : Asd (∀ w', Fr (fun k => k = w.heap.size + 1) wr w' → w'.cell? ⟨w.heap.size, 1, none⟩ = some (.int .i64 x.op) ∧ w'.cell? ⟨g, 0, none⟩ = some (.int .i64 v.kind) ∧ w'.cell? ⟨g, 1, none⟩ = some (.int .i64 v.int) ∧ w'.cell? ⟨g, 2, none⟩ = some (.string ⟨v.text.toArray⟩) ∧ w'.cell? ⟨g, 3, none⟩ = some (.int .i64 u.kind) ∧ w'.cell? ⟨g, 4, none⟩ = some (.int .i64 u.int) ∧ w'.cell? ⟨g, 5, none⟩ = some (.string ⟨u.text.toArray⟩) ∧ Fr (fun k => k = w.heap.size + 1) wr w') := Asd.mk fun w' hf => ⟨cell_frS hf hpz.out HE1.out, cell_frS hf hgz.out HV0.out, cell_frS hf hgz.out HV1.out, cell_frS hf hgz.out HV2.out, cell_frS hf hgz.out HU0.out, cell_frS hf hgz.out HU1.out, cell_frS hf hgz.out HU2.out, hf⟩
            go_upto_region 30 with fail
            clear e0 e1 v0 v1 v2 u0 u1 u2
            go_region_held3 (fun w' => w'.cell? ⟨w.heap.size, 1, none⟩ = some (.int .i64 x.op) ∧ w'.cell? ⟨g, 0, none⟩ = some (.int .i64 v.kind) ∧ w'.cell? ⟨g, 1, none⟩ = some (.int .i64 v.int) ∧ w'.cell? ⟨g, 2, none⟩ = some (.string ⟨v.text.toArray⟩) ∧ w'.cell? ⟨g, 3, none⟩ = some (.int .i64 u.kind) ∧ w'.cell? ⟨g, 4, none⟩ = some (.int .i64 u.int) ∧ w'.cell? ⟨g, 5, none⟩ = some (.string ⟨u.text.toArray⟩) ∧ Fr (fun k => k = w.heap.size + 1) wr w')
              (first
                | exact HS.out _ (Fr.refl _ _)
                | exact HS.out _ (Fr.refl _ _).drew
                | exact HS.out _ HF5.out
                | exact HS.out _ (Fr.setCell (Fr.setCell (Fr.setCell HF5.out (p := ⟨w.heap.size + 1, 0, none⟩) rfl _) (p := ⟨w.heap.size + 1, 1, none⟩) rfl _) (p := ⟨w.heap.size + 1, 2, none⟩) rfl _)
                | (go_split_ands; exact HS.out _ (by assumption))
                | fail)
              (first
                | (go_at_call 24
                   refine (HCU.out _).mono ?_
                   rintro e w5 ⟨rfl, hb5⟩
                   have HF5 : Asd (Fr (fun k => k = w.heap.size + 1) wr w5) := Asd.mk ((Fr.refl _ wr).drew.trans (Fr.of_below hb5) (fun _ h _ => h) (fun _ h _ => h))
                   have HZ5 := Asd.mk (blk_below hb5 (drewb HZR.out))
                   have HB5 : Asd (Below w.heap.size w w5) := Asd.mk (HBR.out.drew.trans (hb5.mono HBR.out.drew.size))
                   obtain ⟨⟨z0, z1, z2⟩, y0, y1, y2⟩ := zero_cells HZ5.out
                   unfold vC)
                | fail)
            go_wp2
            refine val_ret2 rfl (w.heap.size + 1) _ _ _ rfl (put3_blk HZ5.out _ _ _) rfl ?_
            exact ev2_of HF.out HU.out HN.out (below_put3 HB5.out (by omega) _ _ _)
/-- eval.Eval. -/
theorem eval_ok (row : List Vl) (ks : List (Ex × Vl)) (x : Ex) (hx : rvX x) : EvalOK row ks x :=
  eval_step row ks x hx fun i h => eval_ok row ks x.args[i] (rvXL_mem (rvX_args hx) _ (List.getElem_mem h))
termination_by SizeOf.sizeOf x
decreasing_by exact args_lt x i h
theorem eval_calls (row : List Vl) (ks : List (Ex × Vl)) (x : Ex) (hx : rvX x) (P Q : Nat → Prop) (A RA KA : Option Addr) (c rc kc : Nat) (w : World) (he : EnvW P w RA KA row ks) (hh : Held Q w x.args (.slice A x.args.length c)) :
    Calls Try.prog 10 #[exV x (.slice A x.args.length c), .slice RA row.length rc, .slice KA ks.length kc] w (Ev2 (evE row ks x) w) := eval_ok row ks x hx P Q A RA KA c rc kc w he hh
end Go.Proofs.Ytinflndbfdbnhaa.Exp

/- quarryref02.Call. -/
set_option linter.unusedVariables false
set_option linter.unusedSimpArgs false
namespace Go.Proofs.Ytinflndbfdbnhaa.Exp
open Go.RowKit Go.Proofs.Ytinflndbfdbnhaa.Base Go.Proofs.Ytinflndbfdbnhaa.App Go.Proofs.Ytinflndbfdbnhaa.Byt

theorem kind_of_takes {f : Int} {j : Nat} {v : Vl} (h : takesP f j v.kind = true) (h0 : (v.kind == 0) = false) : v.kind = (if f = 2 ∨ 0 < j then 2 else 3) ∨ (f = 1 ∧ v.kind = 4) := by
  unfold takesP at h
  simp only [h0, Bool.false_or, Bool.or_eq_true, Bool.and_eq_true, beq_iff_eq] at h
  rcases h with h | h
  · exact .inl h
  · exact .inr ⟨h.1, h.2⟩
theorem rrv_int {v : Vl} (h : RV v) (hk : v.kind = 2) : v = vNum v.int := by
  cases h with
  | null => simp [vNull] at hk
  | bool b => simp [vTru] at hk
  | num n h => rfl
  | text s h => simp [vTxt] at hk
  | blob s h => simp at hk
set_option maxRecDepth 100000 in
set_option maxHeartbeats 12800000 in
theorem rcall_calls (f : Int) (vs : List Vl) (h1 : 1 ≤ f) (h5 : f ≤ 5) (hl : vs.length = opn f.toNat) (hr : ∀ v ∈ vs, RV v) (A : Option Addr) (c : Nat) (w : World) (hvs : ValSl w A vs) : Calls Try.prog 32 #[.int .i64 f, .slice A vs.length c] w (Ev2 (callV f vs) w) := by
  have hf6 : (f == 6) = false := by rw [beq_eq_false_iff_ne]; omega
  have HT : Asd (∀ j (hj : j < vs.length), ∀ W, Calls Try.prog 80 #[.int .i64 f, .int .i64 (j : Int), .int .i64 vs[j].kind] W fun e w' => e = .returned (.bool (takesP f j vs[j].kind)) ∧ w' = W) := Asd.mk fun j hj W => rtakes_calls f _ j (fj_of h1 h5 hl hj) (rv_kind (hr _ (List.getElem_mem hj))).1 (rv_kind (hr _ (List.getElem_mem hj))).2 W
  have HA := Asd.mk (rargs_calls f h1 (by omega))
  have hn0 : 0 < vs.length := by
    rw [hl]
    unfold opn
    split
    · omega
    · split <;> omega
  have hn3 : vs.length ≤ 3 := by
    rw [hl]
    unfold opn
    split
    · omega
    · split <;> omega
  rw [← hl] at HA
  have HRV := Asd.mk hr
  have HV := Asd.mk hvs
  have HX := Asd.mk (blk_new w zeroV)
  have HB : Asd (Below w.heap.size w (w.alloc zeroV)) := Asd.mk (below_alloc (Below.refl _ _) _)
  have HMF := Asd.mk hl
  have HF5 : Asd (f = 1 ∨ f = 2 ∨ f = 3 ∨ f = 4 ∨ f = 5) := Asd.mk (by omega)
  clear hl hr hvs h1 h5
  generalize hn : vs.length = n at HA hn0 hn3 HMF ⊢
  have HN := Asd.mk hn
  clear hn
  have hnn : ((n : Int) == 0) = false := by rw [beq_eq_false_iff_ne]; omega
  have hne : ((n : Int) != (n : Int)) = false := by simp
  go_enter Try.func32, Try.ntmps32
  go_upto_region 1 with fail
  generalize w.alloc _ = w1 at HX HB ⊢
  go_wp2_with fail
  refine (HA.out _).mono ?_
  rintro e w' ⟨rfl, hw⟩
  rw [hw]
  clear hw
  go_wp2_with fail
  refine (HA.out _).mono ?_
  rintro e w' ⟨rfl, hw⟩
  rw [hw]
  clear hw
  go_wp2
  go_loopw [6, 7] (fun nl i wr => ∃ (k : Nat) (b : Bool), k ≤ n ∧ i = .int .i64 (k : Int) ∧ nl = .bool b ∧ Asd (takesL f 0 vs = takesL f k (vs.drop k)) ∧ Asd (vs.any (fun v => v.kind == 0) = (b || (vs.drop k).any (fun v => v.kind == 0))) ∧ Asd (Below w1.heap.size w1 wr)) (fun _ i _ => n - (intOf i).toNat)
  case atStart => exact ⟨0, false, by omega, rfl, rfl, ⟨rfl⟩, ⟨by rw [List.drop_zero, Bool.false_or]⟩, ⟨Below.refl _ _⟩⟩
  case round =>
    obtain ⟨k, b, hk, rfl, rfl, HTL, HNL, HBR⟩ := hrel
    have HBR2 := Asd.mk (below_step HB.out HBR.out)
    have HVS := Asd.mk (HV.out.below HBR2.out)
    have HXR := Asd.mk (blk_below HBR.out HX.out)
    obtain ⟨⟨x0, x1, x2⟩, y0, y1, y2⟩ := zero_cells HXR.out
    by_cases hlt : k < n
    · have hkv : k < vs.length := by rw [HN.out]; exact hlt
      obtain ⟨g, o, rfl, hv⟩ := HVS.out (by omega)
      obtain ⟨q0, q1, q2⟩ := hv k hkv
      have HTK := Asd.mk (HT.out k hkv)
      have HD : Asd (vs.drop k = vs[k] :: vs.drop (k + 1)) := Asd.mk (List.drop_eq_getElem_cons hkv)
      rw [HD.out] at HTL HNL
      generalize vs[k] = v at q0 q1 q2 HTK HTL HNL
      clear hv hkv HD
      go_wp2_with fail
      refine (HTK.out _).mono ?_
      rintro e w' ⟨rfl, hw⟩
      rw [hw]
      clear hw
      cases ht : takesP f k v.kind with
      | false =>
        have HF : Asd (callV f vs = .error 35) := Asd.mk (by unfold callV; rw [HTL.out, takesL, ht]; rfl)
        clear ht
        go_wp2
        refine val_ret2 rfl w.heap.size _ _ _ rfl (put3_blk HXR.out _ _ _) rfl ?_
        exact ev2_er HF.out (below_put3 HBR2.out (Nat.le_refl _) _ _ _)
      | true =>
        have HTL2 : Asd (takesL f 0 vs = takesL f (k + 1) (vs.drop (k + 1))) := Asd.mk (by rw [HTL.out, takesL, ht, Bool.true_and])
        clear ht
        cases b with
        | true =>
          have HNL2 : Asd (vs.any (fun v => v.kind == 0) = (true || (vs.drop (k + 1)).any (fun v => v.kind == 0))) := Asd.mk (by rw [HNL.out]; rfl)
          go_wp2
          go_roundw
          case rel => exact ⟨k + 1, true, by omega, by go_num, rfl, HTL2, HNL2, HBR⟩
          case measure => simp [intOf]; omega
        | false =>
          have HNL2 : Asd (vs.any (fun v => v.kind == 0) = ((v.kind == 0) || (vs.drop (k + 1)).any (fun v => v.kind == 0))) := Asd.mk (by rw [HNL.out, List.any_cons, Bool.false_or])
          go_wp2
          go_roundw
          case rel => exact ⟨k + 1, (v.kind == 0), by omega, by go_num, rfl, HTL2, HNL2, HBR⟩
          case measure => simp [intOf]; omega
    · obtain rfl : k = n := by omega
      have HDN : Asd (vs.drop k = []) := Asd.mk (List.drop_of_length_le (Nat.le_of_eq HN.out))
      rw [HDN.out] at HTL HNL
      cases b with
      | true =>
        have HF : Asd (callV f vs = .ok vNull) := Asd.mk (by unfold callV; rw [HTL.out, HNL.out]; rfl)
        go_wp2
        refine val_ret2 rfl w.heap.size _ _ _ rfl (put3_blk HXR.out _ _ _) rfl ?_
        exact ev2_yes HF.out (below_put3 HBR2.out (Nat.le_refl _) _ _ _)
      | false =>
        have HF : Asd (callV f vs = calledV f vs) := Asd.mk (by unfold callV; rw [HTL.out, HNL.out]; rfl)
        have HTL : Asd (takesL f 0 vs = true) := Asd.mk (by rw [HTL.out]; rfl)
        have HNL : Asd (vs.any (fun v => v.kind == 0) = false) := Asd.mk (by rw [HNL.out]; rfl)
        clear HT HA
        rcases HF5.out with rfl | rfl | rfl | rfl | rfl
        · have hk1 : k = 1 := HMF.out
          subst hk1
          obtain ⟨v, rfl⟩ := List.length_eq_one_iff.mp (HN.out.trans (HMF.out.trans rfl))
          obtain ⟨g, o, rfl, hv⟩ := HVS.out (by simp)
          obtain ⟨p00, p01, p02⟩ := hv 0 (by simp)
          clear hv
          simp only [List.getElem_cons_zero, List.getElem_cons_succ, Nat.zero_mul, Nat.one_mul, Nat.add_zero, Nat.reduceMul, Nat.add_assoc, Nat.reduceAdd] at p00 p01 p02
          have HRVv := Asd.mk (HRV.out v (by simp))
          have HF : Asd (callV 1 [v] = .ok (vNum v.text.length)) := Asd.mk (by rw [HF.out]; rfl)
          have hsz : (⟨v.text.toArray⟩ : ByteArray).size = v.text.length := rfl
          go_wp2_with fail
          refine (rnum_calls v.text.length _).mono ?_
          rintro e w4 ⟨rfl, hb4⟩
          have HX4 := Asd.mk (blk_below hb4 HXR.out)
          have HB4 : Asd (Below w.heap.size w w4) := Asd.mk (below_step HBR2.out hb4)
          clear hb4 x0 x1 x2 y0 y1 y2
          obtain ⟨⟨x0, x1, x2⟩, y0, y1, y2⟩ := zero_cells HX4.out
          unfold vC
          go_wp2
          refine val_ret2 rfl w.heap.size _ _ _ rfl (put3_blk HX4.out _ _ _) rfl ?_
          exact ev2_yes HF.out (below_put3 HB4.out (Nat.le_refl _) _ _ _)
        · have hk1 : k = 1 := HMF.out
          subst hk1
          obtain ⟨v, rfl⟩ := List.length_eq_one_iff.mp (HN.out.trans (HMF.out.trans rfl))
          obtain ⟨g, o, rfl, hv⟩ := HVS.out (by simp)
          obtain ⟨p00, p01, p02⟩ := hv 0 (by simp)
          clear hv
          simp only [List.getElem_cons_zero, List.getElem_cons_succ, Nat.zero_mul, Nat.one_mul, Nat.add_zero, Nat.reduceMul, Nat.add_assoc, Nat.reduceAdd] at p00 p01 p02
          have HRVv := Asd.mk (HRV.out v (by simp))
          have hk2 : v.kind = 2 := by
            have h1 : (takesP 2 0 v.kind && takesL 2 1 []) = true := HTL.out
            have h2 : ((v.kind == 0) || false) = false := HNL.out
            rw [Bool.and_eq_true] at h1
            rw [Bool.or_eq_false_iff] at h2
            rcases kind_of_takes h1.1 h2.1 with h | h
            · exact h
            · exact absurd h.1 (by decide)
          have HVN := Asd.mk (rrv_int HRVv.out hk2)
          have HIN := Asd.mk (rv_num HRVv.out)
          have HUN := Asd.mk (runary_calls 1 (.inl rfl) HRVv.out)
          have HFC : Asd (callV 2 [v] = if v.int = -9223372036854775808 then .error 40 else .ok (vNum (if v.int < 0 then -v.int else v.int))) := Asd.mk (by rw [HF.out]; rfl)
          have HUP : Asd (v.int < 0 → callV 2 [v] = unP 1 v) := Asd.mk fun hneg => by
            rw [HFC.out]
            unfold unP
            rw [if_pos hneg, if_neg (show ¬ v.kind = 0 by omega), if_neg (show ¬ (1 : Int) = 2 by decide), if_pos hk2]
          have HFn : Asd (¬ v.int < 0 → callV 2 [v] = .ok v) := Asd.mk fun hneg => by
            rw [HFC.out, if_neg (by omega), if_neg hneg, ← HVN.out]
          clear hk2
          by_cases hneg : v.int < 0
          · have HUR := Asd.mk (HUP.out hneg)
            unfold vC at HUN
            go_wp2_with fail
            refine (HUN.out _).mono ?_
            rintro e w4 he4
            obtain ⟨rfl, hb4⟩ := ev2_form he4
            have HE : Asd (Ev2 (unP 1 v) wr (.returned (.tuple #[vC (resVal (unP 1 v)), .int .i64 (resNum (unP 1 v))])) w4) := Asd.mk he4
            clear he4
            have HX4 := Asd.mk (blk_below hb4 HXR.out)
            have HB4 : Asd (Below w.heap.size w w4) := Asd.mk (below_step HBR2.out hb4)
            clear hb4 x0 x1 x2 y0 y1 y2
            obtain ⟨⟨x0, x1, x2⟩, y0, y1, y2⟩ := zero_cells HX4.out
            have HQ : Asd (callV 2 [v] = unP 1 v ∧ resVal (unP 1 v) = resVal (unP 1 v) ∧ resNum (unP 1 v) = resNum (unP 1 v)) := Asd.mk ⟨HUR.out, rfl, rfl⟩
            have hval : ∃ uu nn, resVal (unP 1 v) = uu ∧ resNum (unP 1 v) = nn := ⟨_, _, rfl, rfl⟩
            obtain ⟨uu, nn, hu, hnn⟩ := hval
            have HU := Asd.mk hu
            have HNN := Asd.mk hnn
            rw [hu, hnn]
            clear hu hnn HE HQ
            unfold vC
            go_wp2
            refine val_ret2 rfl w.heap.size _ _ _ rfl (put3_blk HX4.out _ _ _) rfl ?_
            exact ev2_of HUR.out HU.out HNN.out (below_put3 HB4.out (Nat.le_refl _) _ _ _)
          · have HF9 := Asd.mk (HFn.out hneg)
            clear HFn HF HUP
            go_wp2
            refine val_ret2 rfl w.heap.size _ _ _ rfl (put3_blk HXR.out _ _ _) rfl ?_
            exact ev2_yes HF9.out (below_put3 HBR2.out (Nat.le_refl _) _ _ _)
        · have hk1 : k = 1 := HMF.out
          subst hk1
          obtain ⟨v, rfl⟩ := List.length_eq_one_iff.mp (HN.out.trans (HMF.out.trans rfl))
          obtain ⟨g, o, rfl, hv⟩ := HVS.out (by simp)
          obtain ⟨p00, p01, p02⟩ := hv 0 (by simp)
          clear hv
          simp only [List.getElem_cons_zero, List.getElem_cons_succ, Nat.zero_mul, Nat.one_mul, Nat.add_zero, Nat.reduceMul, Nat.add_assoc, Nat.reduceAdd] at p00 p01 p02
          have HRVv := Asd.mk (HRV.out v (by simp))
          have HF : Asd (callV 3 [v] = .ok (vTxt (mapP 97 65 v.text))) := Asd.mk (by rw [HF.out]; rfl)
          have hln := Asd.mk (rv_text HRVv.out)
          go_wp2_with fail
          refine (rletters_up ⟨v.text.toArray⟩ hln.out _).mono ?_
          rintro e w4 ⟨rfl, hb4⟩
          have HX4 := Asd.mk (blk_below hb4 HXR.out)
          have HB4 : Asd (Below w.heap.size w w4) := Asd.mk (below_step HBR2.out hb4)
          clear hb4 x0 x1 x2 y0 y1 y2 p00 p01 p02
          obtain ⟨⟨x0, x1, x2⟩, y0, y1, y2⟩ := zero_cells HX4.out
          generalize mapP 97 65 v.text = mt at HF ⊢
          go_wp2_with fail
          refine (rtext_calls mt _).mono ?_
          rintro e w5 ⟨rfl, hb5⟩
          have HX5 := Asd.mk (blk_below hb5 HX4.out)
          have HB5 : Asd (Below w.heap.size w w5) := Asd.mk (below_step HB4.out hb5)
          clear hb5 x0 x1 x2 y0 y1 y2
          obtain ⟨⟨x0, x1, x2⟩, y0, y1, y2⟩ := zero_cells HX5.out
          unfold vC
          go_wp2
          refine val_ret2 rfl w.heap.size _ _ _ rfl (put3_blk HX5.out _ _ _) rfl ?_
          exact ev2_yes HF.out (below_put3 HB5.out (Nat.le_refl _) _ _ _)
        · have hk1 : k = 1 := HMF.out
          subst hk1
          obtain ⟨v, rfl⟩ := List.length_eq_one_iff.mp (HN.out.trans (HMF.out.trans rfl))
          obtain ⟨g, o, rfl, hv⟩ := HVS.out (by simp)
          obtain ⟨p00, p01, p02⟩ := hv 0 (by simp)
          clear hv
          simp only [List.getElem_cons_zero, List.getElem_cons_succ, Nat.zero_mul, Nat.one_mul, Nat.add_zero, Nat.reduceMul, Nat.add_assoc, Nat.reduceAdd] at p00 p01 p02
          have HRVv := Asd.mk (HRV.out v (by simp))
          have HF : Asd (callV 4 [v] = .ok (vTxt (mapP 65 97 v.text))) := Asd.mk (by rw [HF.out]; rfl)
          have hln := Asd.mk (rv_text HRVv.out)
          go_wp2_with fail
          refine (rletters_low ⟨v.text.toArray⟩ hln.out _).mono ?_
          rintro e w4 ⟨rfl, hb4⟩
          have HX4 := Asd.mk (blk_below hb4 HXR.out)
          have HB4 : Asd (Below w.heap.size w w4) := Asd.mk (below_step HBR2.out hb4)
          clear hb4 x0 x1 x2 y0 y1 y2 p00 p01 p02
          obtain ⟨⟨x0, x1, x2⟩, y0, y1, y2⟩ := zero_cells HX4.out
          generalize mapP 65 97 v.text = mt at HF ⊢
          go_wp2_with fail
          refine (rtext_calls mt _).mono ?_
          rintro e w5 ⟨rfl, hb5⟩
          have HX5 := Asd.mk (blk_below hb5 HX4.out)
          have HB5 : Asd (Below w.heap.size w w5) := Asd.mk (below_step HB4.out hb5)
          clear hb5 x0 x1 x2 y0 y1 y2
          obtain ⟨⟨x0, x1, x2⟩, y0, y1, y2⟩ := zero_cells HX5.out
          unfold vC
          go_wp2
          refine val_ret2 rfl w.heap.size _ _ _ rfl (put3_blk HX5.out _ _ _) rfl ?_
          exact ev2_yes HF.out (below_put3 HB5.out (Nat.le_refl _) _ _ _)
        · have hk1 : k = 3 := HMF.out
          subst hk1
          obtain ⟨v, u, t, rfl⟩ : ∃ a b c, vs = [a, b, c] := by
            match vs, (HN.out.trans (HMF.out.trans rfl) : vs.length = 3) with
            | [a, b, c], _ => exact ⟨a, b, c, rfl⟩
          obtain ⟨g, o, rfl, hv⟩ := HV.out (by simp)
          have hgz : Asd (¬ g = w.heap.size) := Asd.mk (Nat.ne_of_lt (World.block_lt_of_cell? w _ (hv 0 (by simp)).1))
          obtain ⟨p00, p01, p02⟩ := (hv 0 (by simp)).below HBR2.out
          obtain ⟨p10, p11, p12⟩ := (hv 1 (by simp)).below HBR2.out
          obtain ⟨p20, p21, p22⟩ := (hv 2 (by simp)).below HBR2.out
          clear hv
          simp only [List.getElem_cons_zero, List.getElem_cons_succ, Nat.zero_mul, Nat.one_mul, Nat.add_zero, Nat.reduceMul, Nat.add_assoc, Nat.reduceAdd] at p00 p01 p02 p10 p11 p12 p20 p21 p22
          have HRVv := Asd.mk (HRV.out v (by simp))
          have HRVu := Asd.mk (HRV.out u (by simp))
          have HRVt := Asd.mk (HRV.out t (by simp))
          have HF : Asd (callV 5 [v, u, t] = .ok (vTxt (cutP v.text u.int t.int))) := Asd.mk (by rw [HF.out]; rfl)
          have HCL := Asd.mk (rpart_calls ⟨v.text.toArray⟩ u.int t.int (rv_num HRVu.out) (rv_num HRVt.out) (rv_text HRVv.out))
          have HPP : Asd (∀ w', Fr (fun k => k = w.heap.size) wr w' → w'.cell? ⟨g, o + 2, none⟩ = some (.string ⟨v.text.toArray⟩) ∧ w'.cell? ⟨g, o + 4, none⟩ = some (.int .i64 u.int) ∧ w'.cell? ⟨g, o + 7, none⟩ = some (.int .i64 t.int) ∧ Fr (fun k => k = w.heap.size) wr w') := Asd.mk fun w' hf => ⟨cell_frS hf hgz.out p02, cell_frS hf hgz.out p11, cell_frS hf hgz.out p21, hf⟩
          go_upto_region 31 with fail
          clear p00 p01 p02 p10 p11 p12 p20 p21 p22 x0 x1 x2 y0 y1 y2
          go_region_held3 (fun w' => w'.cell? ⟨g, o + 2, none⟩ = some (.string ⟨v.text.toArray⟩) ∧ w'.cell? ⟨g, o + 4, none⟩ = some (.int .i64 u.int) ∧ w'.cell? ⟨g, o + 7, none⟩ = some (.int .i64 t.int) ∧ Fr (fun k => k = w.heap.size) wr w')
            (first
              | exact HPP.out _ (Fr.refl _ _)
              | exact HPP.out _ (Fr.refl _ _).drew
              | exact HPP.out _ HF4.out
              | exact HPP.out _ HF5.out
              | exact HPP.out _ (Fr.setCell (Fr.setCell (Fr.setCell HF5.out (p := ⟨w.heap.size, 0, none⟩) rfl _) (p := ⟨w.heap.size, 1, none⟩) rfl _) (p := ⟨w.heap.size, 2, none⟩) rfl _)
              | (go_split_ands; exact HPP.out _ (by assumption))
              | fail)
            (first
              | (go_at_call 82
                 refine (HCL.out _).mono ?_
                 rintro e w4 ⟨rfl, hb4⟩
                 have HF4 : Asd (Fr (fun k => k = w.heap.size) wr w4) := Asd.mk ((Fr.refl _ wr).drew.trans (Fr.of_below hb4) (fun _ h _ => h) (fun _ h _ => h))
                 have HX4 := Asd.mk (blk_below hb4 (drewb HXR.out))
                 have HB4 : Asd (Below w.heap.size w w4) := Asd.mk (HBR2.out.drew.trans (hb4.mono HBR2.out.drew.size))
                 clear hb4)
              | (go_at_call 77
                 refine (rtext_calls (cutP v.text u.int t.int) _).mono ?_
                 rintro e w5 ⟨rfl, hb5⟩
                 have HF5 : Asd (Fr (fun k => k = w.heap.size) wr w5) := Asd.mk (HF4.out.trans (Fr.of_below hb5) (fun _ h _ => h) (fun _ h _ => h))
                 have HX5 := Asd.mk (blk_below hb5 HX4.out)
                 have HB5 : Asd (Below w.heap.size w w5) := Asd.mk (HB4.out.trans (hb5.mono HB4.out.size))
                 obtain ⟨⟨x0, x1, x2⟩, y0, y1, y2⟩ := zero_cells HX5.out
                 unfold vC)
              | fail)
          go_wp2
          refine val_ret2 rfl w.heap.size _ _ _ rfl (put3_blk HX5.out _ _ _) rfl ?_
          exact ev2_yes HF.out (below_put3 HB5.out (Nat.le_refl _) _ _ _)
end Go.Proofs.Ytinflndbfdbnhaa.Exp

/- quarryref13.level at any expression. -/
set_option linter.unusedVariables false
set_option linter.unusedSimpArgs false
namespace Go.Proofs.Ytinflndbfdbnhaa.Exp
open Go.RowKit Go.Proofs.Ytinflndbfdbnhaa.Base Go.Proofs.Ytinflndbfdbnhaa.App Go.Proofs.Ytinflndbfdbnhaa.Byt

set_option maxRecDepth 100000 in
theorem roperands_calls (k : Nat) (h : 1 ≤ k) (h' : k ≤ 6) (w : World) : Calls Try.prog 114 #[.int .i64 (k : Nat)] w fun e w' => e = .returned (.int .i64 ((opn k : Nat) : Int)) ∧ w' = w := by
  rcases (show k = 1 ∨ k = 2 ∨ k = 3 ∨ k = 4 ∨ k = 5 ∨ k = 6 by omega) with rfl | rfl | rfl | rfl | rfl | rfl <;> (go_enter Try.func114, Try.ntmps114; go_wp2; go_ret; exact ⟨rfl, rfl⟩)
def bnG (o : Int) : Int := if 3 ≤ o ∧ o ≤ 16 then pairLn o.toNat else 0
set_option maxRecDepth 100000 in
theorem rbinary_lo (o : Int) (h : o < 3) (w : World) : Calls Try.prog 115 #[.int .i64 o] w fun e w' => e = .returned (.int .i64 0) ∧ w' = w := by
  have h1 : ¬ o = 3 := by omega
  have h2 : ¬ o = 4 := by omega
  have h3 : ¬ 5 ≤ o := by omega
  have h4 : ¬ o = 16 := by omega
  have h5 : ¬ o = 11 := by omega
  have h6 : ¬ o = 12 := by omega
  have h56 : (o == 11 || o == 12) = false := by simp [h5, h6]
  have h7 : ¬ 13 ≤ o := by omega
  go_enter Try.func115, Try.ntmps115
  go_wp2
  go_ret
  exact ⟨rfl, rfl⟩
set_option maxRecDepth 100000 in
theorem rbinary_hi (o : Int) (h : 16 < o) (w : World) : Calls Try.prog 115 #[.int .i64 o] w fun e w' => e = .returned (.int .i64 0) ∧ w' = w := by
  have h1 : ¬ o = 3 := by omega
  have h2 : ¬ o = 4 := by omega
  have h3 : 5 ≤ o := by omega
  have h3b : ¬ o ≤ 10 := by omega
  have h4 : ¬ o = 16 := by omega
  have h5 : ¬ o = 11 := by omega
  have h6 : ¬ o = 12 := by omega
  have h56 : (o == 11 || o == 12) = false := by simp [h5, h6]
  have h7 : 13 ≤ o := by omega
  have h8 : ¬ o ≤ 15 := by omega
  go_enter Try.func115, Try.ntmps115
  go_wp2
  go_ret
  exact ⟨rfl, rfl⟩
set_option maxRecDepth 100000 in
theorem rbinary_calls (o : Int) (w : World) : Calls Try.prog 115 #[.int .i64 o] w fun e w' => e = .returned (.int .i64 (bnG o)) ∧ w' = w := by
  by_cases hl : o < 3
  · rw [show bnG o = 0 by unfold bnG; rw [if_neg (by omega)]]
    exact rbinary_lo o hl w
  by_cases hh : 16 < o
  · rw [show bnG o = 0 by unfold bnG; rw [if_neg (by omega)]]
    exact rbinary_hi o hh w
  rcases (show o = 3 ∨ o = 4 ∨ o = 5 ∨ o = 6 ∨ o = 7 ∨ o = 8 ∨ o = 9 ∨ o = 10 ∨ o = 11 ∨ o = 12 ∨ o = 13 ∨ o = 14 ∨ o = 15 ∨ o = 16 by omega) with rfl | rfl | rfl | rfl | rfl | rfl | rfl | rfl | rfl | rfl | rfl | rfl | rfl | rfl <;> (go_enter Try.func115, Try.ntmps115; go_wp2; go_ret; exact ⟨rfl, rfl⟩)
set_option maxRecDepth 100000 in
set_option maxHeartbeats 12800000 in
theorem lvl_1 (a2 a3 a7 a8 : Int) (s4 s5 s6 : ByteArray) (A : Option Addr) (c : Nat) (w : World) (o : Int) (n : Nat) (L : Int) (hL : lnG 1 o n = L) :
    Calls Try.prog 70 #[.agg #[.int .i64 1, .int .i64 o, .int .i64 a2, .int .i64 a3, .string s4, .string s5, .string s6, .int .i64 a7, .int .i64 a8, .slice A n c]] w (LineR L w) := by
  have hc : (n = 0 ∧ L = 9) ∨ (¬ (n : Int) = 0 ∧ L = 0) := by
    unfold lnG at hL
    (repeat' split at hL) <;> omega
  clear hL
  rcases hc with ⟨rfl, rfl⟩ | ⟨h1, rfl⟩
  all_goals go_enter Try.func70, Try.ntmps70
  all_goals go_wp2
  all_goals go_ret
  all_goals exact ⟨rfl, below_alloc (Below.refl _ w) _⟩
set_option maxRecDepth 100000 in
set_option maxHeartbeats 12800000 in
theorem lvl_2 (a2 a3 a7 a8 : Int) (s4 s5 s6 : ByteArray) (A : Option Addr) (c : Nat) (w : World) (o : Int) (n : Nat) (L : Int) (hL : lnG 2 o n = L) :
    Calls Try.prog 70 #[.agg #[.int .i64 2, .int .i64 o, .int .i64 a2, .int .i64 a3, .string s4, .string s5, .string s6, .int .i64 a7, .int .i64 a8, .slice A n c]] w (LineR L w) := by
  have hc : (n = 0 ∧ L = 9) ∨ (¬ (n : Int) = 0 ∧ L = 0) := by
    unfold lnG at hL
    (repeat' split at hL) <;> omega
  clear hL
  rcases hc with ⟨rfl, rfl⟩ | ⟨h1, rfl⟩
  all_goals go_enter Try.func70, Try.ntmps70
  all_goals go_wp2
  all_goals go_ret
  all_goals exact ⟨rfl, below_alloc (Below.refl _ w) _⟩
set_option maxRecDepth 100000 in
set_option maxHeartbeats 12800000 in
theorem lvl_3 (a2 a3 a7 a8 : Int) (s4 s5 s6 : ByteArray) (A : Option Addr) (c : Nat) (w : World) (o : Int) (n : Nat) (L : Int) (hL : lnG 3 o n = L) :
    Calls Try.prog 70 #[.agg #[.int .i64 3, .int .i64 o, .int .i64 a2, .int .i64 a3, .string s4, .string s5, .string s6, .int .i64 a7, .int .i64 a8, .slice A n c]] w (LineR L w) := by
  have hc : (o = 2 ∧ n = 1 ∧ L = 3) ∨ (o = 1 ∧ n = 1 ∧ L = 8) ∨ (¬ (n : Int) = 1 ∧ L = 0) ∨ (n = 1 ∧ ¬ o = 1 ∧ ¬ o = 2 ∧ L = 0) := by
    unfold lnG at hL
    (repeat' split at hL) <;> omega
  clear hL
  rcases hc with ⟨rfl, rfl, rfl⟩ | ⟨rfl, rfl, rfl⟩ | ⟨h1, rfl⟩ | ⟨rfl, h2, h3, rfl⟩
  all_goals go_enter Try.func70, Try.ntmps70
  all_goals go_wp2
  all_goals go_ret
  all_goals exact ⟨rfl, below_alloc (Below.refl _ w) _⟩
set_option maxRecDepth 100000 in
set_option maxHeartbeats 12800000 in
theorem lvl_7 (a2 a3 a7 a8 : Int) (s4 s5 s6 : ByteArray) (A : Option Addr) (c : Nat) (w : World) (o : Int) (n : Nat) (L : Int) (hL : lnG 7 o n = L) :
    Calls Try.prog 70 #[.agg #[.int .i64 7, .int .i64 o, .int .i64 a2, .int .i64 a3, .string s4, .string s5, .string s6, .int .i64 a7, .int .i64 a8, .slice A n c]] w (LineR L w) := by
  have hc : (o = 0 ∧ n = 1 ∧ L = 4) ∨ (o = 1 ∧ n = 1 ∧ L = 4) ∨ (¬ (n : Int) = 1 ∧ L = 0) ∨ (n = 1 ∧ ¬ o = 0 ∧ ¬ o = 1 ∧ L = 0) := by
    unfold lnG at hL
    (repeat' split at hL) <;> omega
  clear hL
  rcases hc with ⟨rfl, rfl, rfl⟩ | ⟨rfl, rfl, rfl⟩ | ⟨h1, rfl⟩ | ⟨rfl, h2, h3, rfl⟩
  all_goals try (have hor : (o == 0 || o == 1) = false := by simp [*])
  all_goals go_enter Try.func70, Try.ntmps70
  all_goals go_wp2
  all_goals go_ret
  all_goals exact ⟨rfl, below_alloc (Below.refl _ w) _⟩
set_option maxRecDepth 100000 in
set_option maxHeartbeats 12800000 in
theorem lvl_6 (a2 a3 a7 a8 : Int) (s4 s5 s6 : ByteArray) (A : Option Addr) (c : Nat) (w : World) (o : Int) (n : Nat) (L : Int) (hL : lnG 6 o n = L) :
    Calls Try.prog 70 #[.agg #[.int .i64 6, .int .i64 o, .int .i64 a2, .int .i64 a3, .string s4, .string s5, .string s6, .int .i64 a7, .int .i64 a8, .slice A n c]] w (LineR L w) := by
  have hc : (¬ 1 ≤ o ∧ L = 0) ∨ (1 ≤ o ∧ ¬ o ≤ 4 ∧ L = 0) ∨ (1 ≤ o ∧ o ≤ 4 ∧ n = 1 ∧ L = 9) ∨ (o = 1 ∧ n = 0 ∧ L = 9) ∨ (1 ≤ o ∧ o ≤ 4 ∧ ¬ o = 1 ∧ n = 0 ∧ L = 0) ∨ (1 ≤ o ∧ o ≤ 4 ∧ ¬ (n : Int) = 1 ∧ ¬ (n : Int) = 0 ∧ L = 0) := by
    unfold lnG at hL
    (repeat' split at hL) <;> omega
  clear hL
  rcases hc with ⟨h1, rfl⟩ | ⟨h1, h2, rfl⟩ | ⟨h1, h2, rfl, rfl⟩ | ⟨rfl, rfl, rfl⟩ | ⟨h1, h2, h3, rfl, rfl⟩ | ⟨h1, h2, h3, h4, rfl⟩
  all_goals go_enter Try.func70, Try.ntmps70
  all_goals go_wp2
  all_goals go_ret
  all_goals exact ⟨rfl, below_alloc (Below.refl _ w) _⟩
set_option maxRecDepth 100000 in
set_option maxHeartbeats 12800000 in
theorem lvl_5_lo (a2 a3 a7 a8 : Int) (s4 s5 s6 : ByteArray) (A : Option Addr) (c : Nat) (w : World) (o : Int) (n : Nat) (h : ¬ 1 ≤ o) :
    Calls Try.prog 70 #[.agg #[.int .i64 5, .int .i64 o, .int .i64 a2, .int .i64 a3, .string s4, .string s5, .string s6, .int .i64 a7, .int .i64 a8, .slice A n c]] w (LineR 0 w) := by
  go_enter Try.func70, Try.ntmps70
  go_wp2
  all_goals go_ret
  all_goals exact ⟨rfl, below_alloc (Below.refl _ w) _⟩
set_option maxRecDepth 100000 in
set_option maxHeartbeats 12800000 in
theorem lvl_5_hi (a2 a3 a7 a8 : Int) (s4 s5 s6 : ByteArray) (A : Option Addr) (c : Nat) (w : World) (o : Int) (n : Nat) (h : ¬ o ≤ 6) :
    Calls Try.prog 70 #[.agg #[.int .i64 5, .int .i64 o, .int .i64 a2, .int .i64 a3, .string s4, .string s5, .string s6, .int .i64 a7, .int .i64 a8, .slice A n c]] w (LineR 0 w) := by
  have h1 : 1 ≤ o := by omega
  go_enter Try.func70, Try.ntmps70
  go_wp2
  all_goals go_ret
  all_goals exact ⟨rfl, below_alloc (Below.refl _ w) _⟩
set_option maxRecDepth 100000 in
set_option maxHeartbeats 12800000 in
theorem lvl_5_yes (a2 a3 a7 a8 : Int) (s4 s5 s6 : ByteArray) (A : Option Addr) (c : Nat) (w : World) (k n : Nat) (h : 1 ≤ k) (h' : k ≤ 6) (hn : n = opn k) :
    Calls Try.prog 70 #[.agg #[.int .i64 5, .int .i64 (k : Nat), .int .i64 a2, .int .i64 a3, .string s4, .string s5, .string s6, .int .i64 a7, .int .i64 a8, .slice A n c]] w (LineR 9 w) := by
  have h1 : (1 : Int) ≤ (k : Int) := by omega
  have h2 : (k : Int) ≤ 6 := by omega
  have HO := Asd.mk (roperands_calls k h h')
  clear h h'
  subst hn
  generalize opn k = m at *
  go_enter Try.func70, Try.ntmps70
  go_wp2_with fail
  refine (HO.out _).mono ?_
  rintro e w2 ⟨rfl, rfl⟩
  go_wp2
  go_ret
  exact ⟨rfl, below_alloc (Below.refl _ w) _⟩
set_option maxRecDepth 100000 in
set_option maxHeartbeats 12800000 in
theorem lvl_5_no (a2 a3 a7 a8 : Int) (s4 s5 s6 : ByteArray) (A : Option Addr) (c : Nat) (w : World) (k n : Nat) (h : 1 ≤ k) (h' : k ≤ 6) (hn : ¬ (n : Int) = (opn k : Int)) :
    Calls Try.prog 70 #[.agg #[.int .i64 5, .int .i64 (k : Nat), .int .i64 a2, .int .i64 a3, .string s4, .string s5, .string s6, .int .i64 a7, .int .i64 a8, .slice A n c]] w (LineR 0 w) := by
  have h1 : (1 : Int) ≤ (k : Int) := by omega
  have h2 : (k : Int) ≤ 6 := by omega
  have HO := Asd.mk (roperands_calls k h h')
  clear h h'
  generalize opn k = m at *
  go_enter Try.func70, Try.ntmps70
  go_wp2_with fail
  refine (HO.out _).mono ?_
  rintro e w2 ⟨rfl, rfl⟩
  go_wp2
  go_ret
  exact ⟨rfl, below_alloc (Below.refl _ w) _⟩
set_option maxRecDepth 100000 in
set_option maxHeartbeats 12800000 in
theorem lvl_4_n (a2 a3 a7 a8 : Int) (s4 s5 s6 : ByteArray) (A : Option Addr) (c : Nat) (w : World) (o : Int) (n : Nat) (hn : ¬ (n : Int) = 2) :
    Calls Try.prog 70 #[.agg #[.int .i64 4, .int .i64 o, .int .i64 a2, .int .i64 a3, .string s4, .string s5, .string s6, .int .i64 a7, .int .i64 a8, .slice A n c]] w (LineR 0 w) := by
  go_enter Try.func70, Try.ntmps70
  go_wp2
  all_goals go_ret
  all_goals exact ⟨rfl, below_alloc (Below.refl _ w) _⟩
set_option maxRecDepth 100000 in
set_option maxHeartbeats 12800000 in
theorem lvl_4_2 (a2 a3 a7 a8 : Int) (s4 s5 s6 : ByteArray) (A : Option Addr) (c : Nat) (w : World) (o : Int) :
    Calls Try.prog 70 #[.agg #[.int .i64 4, .int .i64 o, .int .i64 a2, .int .i64 a3, .string s4, .string s5, .string s6, .int .i64 a7, .int .i64 a8, .slice A 2 c]] w (LineR (bnG o) w) := by
  have HO := Asd.mk (rbinary_calls o)
  generalize bnG o = m at *
  go_enter Try.func70, Try.ntmps70
  go_wp2_with fail
  refine (HO.out _).mono ?_
  rintro e w2 ⟨rfl, rfl⟩
  go_wp2
  go_ret
  exact ⟨rfl, below_alloc (Below.refl _ w) _⟩
set_option maxRecDepth 100000 in
set_option maxHeartbeats 12800000 in
theorem lvl_k (a2 a3 a7 a8 : Int) (s4 s5 s6 : ByteArray) (A : Option Addr) (c : Nat) (w : World) (k o : Int) (n : Nat) (h1 : ¬ k = 1) (h2 : ¬ k = 2) (h3 : ¬ k = 3) (h4 : ¬ k = 4) (h5 : ¬ k = 5) (h6 : ¬ k = 6) (h7 : ¬ k = 7) :
    Calls Try.prog 70 #[.agg #[.int .i64 k, .int .i64 o, .int .i64 a2, .int .i64 a3, .string s4, .string s5, .string s6, .int .i64 a7, .int .i64 a8, .slice A n c]] w (LineR 0 w) := by
  go_enter Try.func70, Try.ntmps70
  go_wp2
  all_goals go_ret
  all_goals exact ⟨rfl, below_alloc (Below.refl _ w) _⟩
theorem lvl_any (a2 a3 a7 a8 : Int) (s4 s5 s6 : ByteArray) (A : Option Addr) (c : Nat) (w : World) (k o : Int) (n : Nat) :
    Calls Try.prog 70 #[.agg #[.int .i64 k, .int .i64 o, .int .i64 a2, .int .i64 a3, .string s4, .string s5, .string s6, .int .i64 a7, .int .i64 a8, .slice A n c]] w (LineR (lnG k o n) w) := by
  have cast : ∀ m : Nat, ¬ n = m → ¬ (n : Int) = (m : Int) := fun m h h' => h (by omega)
  by_cases h1 : k = 1
  · subst h1; exact lvl_1 a2 a3 a7 a8 s4 s5 s6 A c w o n _ rfl
  by_cases h2 : k = 2
  · subst h2; exact lvl_2 a2 a3 a7 a8 s4 s5 s6 A c w o n _ rfl
  by_cases h3 : k = 3
  · subst h3; exact lvl_3 a2 a3 a7 a8 s4 s5 s6 A c w o n _ rfl
  by_cases h7 : k = 7
  · subst h7; exact lvl_7 a2 a3 a7 a8 s4 s5 s6 A c w o n _ rfl
  by_cases h6 : k = 6
  · subst h6; exact lvl_6 a2 a3 a7 a8 s4 s5 s6 A c w o n _ rfl
  by_cases h5 : k = 5
  · subst h5
    by_cases ol : 1 ≤ o
    · by_cases oh : o ≤ 6
      · obtain ⟨p, rfl⟩ := Int.eq_ofNat_of_zero_le (show 0 ≤ o by omega)
        by_cases hn : n = opn p
        · rw [show lnG 5 (p : Int) n = 9 by simp [lnG, ol, oh, hn]]; exact lvl_5_yes a2 a3 a7 a8 s4 s5 s6 A c w p n (by omega) (by omega) hn
        · rw [show lnG 5 (p : Int) n = 0 by simp [lnG, ol, oh, hn]]; exact lvl_5_no a2 a3 a7 a8 s4 s5 s6 A c w p n (by omega) (by omega) (cast _ hn)
      · rw [show lnG 5 o n = 0 by simp [lnG, oh]]; exact lvl_5_hi a2 a3 a7 a8 s4 s5 s6 A c w o n oh
    · rw [show lnG 5 o n = 0 by simp [lnG, ol]]; exact lvl_5_lo a2 a3 a7 a8 s4 s5 s6 A c w o n ol
  by_cases h4 : k = 4
  · subst h4
    by_cases hn : n = 2
    · subst hn
      rw [show lnG 4 o 2 = bnG o by simp [lnG, bnG]]
      exact lvl_4_2 a2 a3 a7 a8 s4 s5 s6 A c w o
    · rw [show lnG 4 o n = 0 by simp [lnG, hn]]
      exact lvl_4_n a2 a3 a7 a8 s4 s5 s6 A c w o n (cast 2 hn)
  rw [show lnG k o n = 0 by simp [lnG, h1, h2, h3, h4, h5, h6, h7]]
  exact lvl_k a2 a3 a7 a8 s4 s5 s6 A c w k o n h1 h2 h3 h4 h5 h6 h7
end Go.Proofs.Ytinflndbfdbnhaa.Exp

/- How the reference writes a blob. -/
set_option linter.unusedVariables false
set_option linter.unusedSimpArgs false
namespace Go.Proofs.Ytinflndbfdbnhaa.Lex
open Go.RowKit Go.Proofs.Ytinflndbfdbnhaa.Base Go.Proofs.Ytinflndbfdbnhaa.App Go.Proofs.Ytinflndbfdbnhaa.Byt

set_option maxRecDepth 100000 in
set_option maxHeartbeats 3200000 in
theorem rlit_blob (s : ByteArray) (w : World) (hs : s.size ≤ 1048576) :
    Calls Try.prog 71 #[.agg #[.int .i64 4, .int .i64 0, .string s]] w fun e w' => e = .returned (.string ⟨(litBlob s.data.toList).toArray⟩) ∧ Below w.heap.size w w' := by
  go_enter Try.func71, Try.ntmps71
  go_wp2_with fail
  refine (rcheck_calls 4 (.inr rfl) s _).mono ?_
  rintro e w1 ⟨rfl, hb1⟩
  have HB0 := Asd.mk (below_alloc (Below.refl _ w) (.cells #[.int .i64 4, .int .i64 0, .string s] 23))
  have HX := Asd.mk (blk_below hb1 (blk_new w (.cells #[.int .i64 4, .int .i64 0, .string s] 23)))
  have HB1 : Asd (Below w.heap.size w w1) := Asd.mk (below_step HB0.out hb1)
  have x0 := (blk_cell HX.out 0).trans rfl
  have y0 := (blk_cell (blk_alloc HX.out (.cells #[.int .u8 39] 5)) 0).trans rfl
  have HO0 : Asd (((w1.alloc (.cells #[.int .u8 39] 5)).alloc (.cells #[.int .u8 88, .int .u8 39] 5)).ownsRow w1.heap.size 5 1 (.slice (some ⟨w1.heap.size + 1, 0, none⟩) 2 2) 2 (bcells [88, 39])) := Asd.mk (own_made (xs := [88, 39]) (by
    have h := blk_new (w1.alloc (.cells #[.int .u8 39] 5)) (.cells #[.int .u8 88, .int .u8 39] 5)
    rw [show (w1.alloc (.cells #[.int .u8 39] 5)).heap.size = w1.heap.size + 1 by simp] at h
    exact h) (Nat.le_succ _) (by simp))
  have HBW : Asd (w.heap.size < w1.heap.size) := Asd.mk (blk_lt HX.out)
  clear hb1
  go_wp2
  go_loopw [3, 4] (fun v3 v4 wr => ∃ (k m c : Nat) (A : Option Addr), k ≤ s.size ∧ v4 = .int .i64 (k : Int) ∧ v3 = .slice A m c ∧ Asd (wr.ownsRow w1.heap.size 5 1 (.slice A m c) m (bcells (88 :: 39 :: hexs (s.data.toList.take k)))) ∧ Asd (Below w1.heap.size w1 wr)) (fun _ v4 _ => s.size - (intOf v4).toNat)
  case atStart => exact ⟨0, 2, 2, _, by omega, rfl, rfl, ⟨HO0.out⟩, ⟨below_alloc (below_alloc (Below.refl _ _) _) _⟩⟩
  case round =>
    obtain ⟨k, m, c, A, hk, rfl, rfl, HO, HBR⟩ := hrel
    have HXR := Asd.mk (blk_below HBR.out HX.out)
    have x0 := (blk_cell HXR.out 0).trans rfl
    have x2 := (blk_cell HXR.out 2).trans rfl
    have hm : m ≤ 2097154 := by
      have h1 := HO.out.1
      have h2 := hexs_len (s.data.toList.take k)
      have h3 : (s.data.toList.take k).length ≤ k := by rw [List.length_take]; omega
      simp only [bcells, List.length_map, List.length_cons, Nat.mul_one] at h1
      omega
    have hsz : w1.heap.size ≤ wr.heap.size := HBR.out.size
    by_cases hlt : k < s.size
    · have hc := s[k].toNat_lt
      have HTS := Asd.mk (take_snoc s k hlt)
      generalize hsk : s[k] = b at hc HTS
      have e1 : IntKind.u8.wrap ((b.toNat : Int).tdiv 16) = ((b.toNat / 16 : Nat) : Int) := by
        simp [IntKind.wrap, IntKind.signed, IntKind.bits]
        omega
      have e2 : (b.toNat : Int).tmod 16 = ((b.toNat % 16 : Nat) : Int) := by rw [Int.tmod_eq_emod_of_nonneg (by omega)]; omega
      have e1b : (b.toNat : Int) / 16 = ((b.toNat / 16 : Nat) : Int) := by omega
      have e1c : (b.toNat : Int).tdiv 16 = ((b.toNat / 16 : Nat) : Int) := by rw [Int.tdiv_eq_ediv_of_nonneg (by omega)]; omega
      have e1d : IntKind.u8.wrap ((b.toNat / 16 : Nat) : Int) = ((b.toNat / 16 : Nat) : Int) := by
        simp [IntKind.wrap, IntKind.signed, IntKind.bits]
        omega
      have e2b : (b.toNat : Int) % 16 = ((b.toNat % 16 : Nat) : Int) := by omega
      have HN1 : Asd (b.toNat / 16 < 16) := Asd.mk (by omega)
      have HN2 : Asd (b.toNat % 16 < 16) := Asd.mk (by omega)
      have HTS2 : Asd (hexs (s.data.toList.take (k + 1)) = hexs (s.data.toList.take k) ++ [hexB (b.toNat / 16), hexB (b.toNat % 16)]) := Asd.mk (by rw [HTS.out, hexs_snoc])
      generalize b.toNat / 16 = n1 at e1 e1b e1c e1d HN1 HTS2
      generalize b.toNat % 16 = n2 at e2 e2b HN2 HTS2
      have hn1 := HN1.out
      have hn2 := HN2.out
      have hn1a : (0 : Int) ≤ (n1 : Int) := by omega
      have hn1b : (n1 : Int) < 16 := by omega
      have hn2a : (0 : Int) ≤ (n2 : Int) := by omega
      have hn2b : (n2 : Int) < 16 := by omega
      have g1 := hex_at n1 hn1
      have g2 := hex_at n2 hn2
      have HOA : Asd (∀ o, (wr.drew.alloc o).ownsRow w1.heap.size 5 1 (.slice A m c) m (bcells (88 :: 39 :: hexs (s.data.toList.take k)))) := Asd.mk fun o => World.ownsRow.alloc (w := wr.drew) HO.out o
      have HBD := Asd.mk (HBR.out.drew)
      go_upto_region 21 with fail
      go_region_held3 (fun _ => True)
        (trivial)
        (first
          | (refine step_src (by rfl) _ _ _ (by rfl) rowB (.slice A m c) (by rfl) (n := m) (HOA.out _) (some ⟨wr.heap.size, 0, none⟩) 2 2 (by rfl) (Feeds.of_block (size := 1) (blk_new wr.drew _) rfl (by simp [Value.oneCell'])) (by unfold maxLen; omega) (by omega) (by simp; omega) ?_
             intro A9 c9 w9 ho9 hg9
             have HB9 : Asd (Below w1.heap.size w1 w9) := Asd.mk (below_own (below_alloc HBD.out _) (HOA.out _) hg9 (Nat.le_refl _))
             have HO9 : Asd (w9.ownsRow w1.heap.size 5 1 (.slice A9 (m + 2) c9) (m + 2) (bcells (88 :: 39 :: hexs (s.data.toList.take (k + 1))))) := Asd.mk (by
               rw [HTS2.out]
               simpa [bcells, bcell] using ho9)
             clear ho9 hg9)
          | fail)
      all_goals
        go_wp2
        go_roundw
        case rel => exact ⟨k + 1, _, _, _, by omega, by go_num, rfl, HO9, HB9⟩
        case measure => simp [intOf]; omega
    · obtain rfl : k = s.size := by omega
      have HOA := Asd.mk (HO.out.alloc (.cells #[.int .u8 39] 5))
      have HF := Asd.mk (Feeds.of_block (size := 1) (m := 1) (c := 1) (blk_new wr (.cells #[.int .u8 39] 5)) rfl (by simp [Value.oneCell']))
      have HTK := Asd.mk (List.take_of_length_le (Nat.le_of_eq (show s.data.toList.length = s.size from rfl)))
      clear hlt
      go_wp2_with (at_builtin; refine wpList_src rfl (.tmp 62) (.tmp 63) _ rfl rowB _ rfl HOA.out (some ⟨wr.heap.size, 0, none⟩) 1 1 rfl HF.out (by unfold maxLen; omega) (by omega) (by simp; omega) ?_)
      intro A9 c9 w9 ho9 hg9
      have HB9 : Asd (Below w1.heap.size w1 w9) := Asd.mk (below_own (below_alloc HBR.out _) HOA.out hg9 (Nat.le_refl _))
      have HO9 : w9.ownsRow w1.heap.size 5 1 (.slice A9 (m + 1) c9) (m + 1) (bcells (litBlob s.data.toList)) := by
        rw [HTK.out] at ho9
        simpa [bcells, bcell, litBlob] using ho9
      obtain ⟨A8, c8, e8, hib, _⟩ := of_own HO9 (by omega)
      injection e8 with e1 e2 e3
      subst e1 e3
      have hcv := run_string 134 9 5 Try.underlying134 Try.underlying5 Try.underlying9 c9 hib
      have HBE : Asd (Below w.heap.size w w9) := Asd.mk (HB1.out.trans (HB9.out.mono HB1.out.size))
      clear ho9 hg9 HO9 hib
      generalize hrr : (⟨(litBlob s.data.toList).toArray⟩ : ByteArray) = rr at hcv
      have HRR := Asd.mk hrr
      clear hrr
      go_wp2
      go_ret
      exact ⟨ret_eq (by rw [HRR.out]; rfl), HBE.out⟩
end Go.Proofs.Ytinflndbfdbnhaa.Lex

/- How data that came in is read: one relation a type, built up over slices and structs; what is read is still read where nothing old has turned. Any program. -/
set_option linter.unusedVariables false
namespace Go.Proofs.Ytinflndbfdbnhaa.Rd
open Go.RowKit Go.Proofs.Ytinflndbfdbnhaa.Base Go.Deep Go.ChangeShapes Go.WideShapes

/-- A reading of cells. -/
abbrev Rel (α : Type) := World → List Value → α → Prop

/-- Whatever reads as data of type t reads by r. -/
def Opens {α : Type} (P : Program) (t : TypeId) (r : Rel α) : Prop :=
  ∀ (H : Type) (enc : TypeId × Value → H) (W : World) (fuel : Nat) (cs : List Value) (d : DataW H) (p : List MemPlace),
    DataW.trod enc P W 0 (fun _ => true) true fuel t cs = some (d, p) → (∀ n ∈ d.weights P t, n ≤ reachBytes) → ∃ x, r W cs x

/-- The reading outlives what turns nothing old. -/
def Lasts {α : Type} (r : Rel α) : Prop := ∀ (W W' : World) (cs : List Value) (x : α), Below W.heap.size W W' → r W cs x → r W' cs x

def rInt (k : IntKind) : Rel Int := fun _ cs x => cs = [.int k x] ∧ (Lit.int k x).wf = true
def rBool : Rel Bool := fun _ cs x => cs = [.bool x]
def rStr : Rel ByteArray := fun _ cs s => cs = [.string s] ∧ s.size ≤ reachBytes

/-- The slice at A, n elements of sz cells each, reads as xs. -/
def IsSl {α : Type} (r : Rel α) (sz : Nat) (W : World) (A : Option Addr) (n : Nat) (xs : List α) : Prop :=
  xs.length = n ∧ (0 < n → ∃ b o, A = some ⟨b, o, none⟩ ∧ b < W.heap.size ∧ ∀ j (h : j < xs.length), ∃ es, es.length = sz ∧ (∀ i, i < sz → W.cell? ⟨b, o + (j * sz + i), none⟩ = es[i]?) ∧ r W es xs[j])
def rSl {α : Type} (r : Rel α) (sz bytes : Nat) : Rel (List α) := fun W cs xs =>
  ∃ A n c, cs = [.slice A n c] ∧ n * bytes ≤ reachBytes ∧ (A = none → c = 0) ∧ IsSl r sz W A n xs

theorem lasts_int (k : IntKind) : Lasts (rInt k) := fun _ _ _ _ _ h => h
theorem lasts_bool : Lasts rBool := fun _ _ _ _ _ h => h
theorem lasts_str : Lasts rStr := fun _ _ _ _ _ h => h
theorem IsSl.below {α : Type} {r : Rel α} (hr : Lasts r) {sz : Nat} {W W' : World} {A : Option Addr} {n : Nat} {xs : List α} (h : IsSl r sz W A n xs) (hb : Below W.heap.size W W') : IsSl r sz W' A n xs := by
  refine ⟨h.1, fun hn => ?_⟩
  obtain ⟨b, o, rfl, hlt, hc⟩ := h.2 hn
  refine ⟨b, o, rfl, Nat.lt_of_lt_of_le hlt hb.size, fun j hj => ?_⟩
  obtain ⟨es, h1, h2, h3⟩ := hc j hj
  exact ⟨es, h1, fun i hi => (hb.cell hlt).trans (h2 i hi), hr _ _ _ _ hb h3⟩
theorem lasts_sl {α : Type} {r : Rel α} (hr : Lasts r) (sz bytes : Nat) : Lasts (rSl r sz bytes) := fun W W' cs xs hb ⟨A, n, c, h1, h2, h3, h4⟩ => ⟨A, n, c, h1, h2, h3, h4.below hr hb⟩

section
variable {P : Program}
theorem opens_int {t : TypeId} {k : IntKind} (ht : P.underlying t = some (.int k)) : Opens P t (rInt k) := by
  intro H enc W fuel cs d p h _
  obtain ⟨n, rfl, _, hw⟩ := DataW.trod_int ht h
  exact ⟨n, rfl, hw⟩
theorem opens_bool {t : TypeId} (ht : P.underlying t = some .bool) : Opens P t rBool := by
  intro H enc W fuel cs d p h _
  obtain ⟨b, rfl, _⟩ := DataW.trod_bool ht h
  exact ⟨b, rfl⟩
theorem opens_str {t : TypeId} (ht : P.underlying t = some .string) : Opens P t rStr := by
  intro H enc W fuel cs d p h hw
  obtain ⟨s, rfl, hx, _⟩ := DataW.trod_string ht h
  obtain ⟨rfl, _⟩ := Prod.mk.inj hx
  refine ⟨s, rfl, ?_⟩
  have := hw s.data.toList.length (by simp [DataW.weights])
  simpa using this

theorem weightsAll_mem {H : Type} {e : TypeId} : ∀ {ds : List (DataW H)} {j : Nat} {d : DataW H}, ds[j]? = some d → ∀ n ∈ d.weights P e, n ∈ DataW.weightsAll P e ds
  | [], _, _, h, _, _ => by simp at h
  | d0 :: ds, 0, d, h, n, hn => by
    simp only [List.getElem?_cons_zero, Option.some.injEq] at h
    subst h
    simp only [DataW.weightsAll, List.mem_append]
    exact Or.inl hn
  | d0 :: ds, j + 1, d, h, n, hn => by
    simp only [List.getElem?_cons_succ] at h
    simp only [DataW.weightsAll, List.mem_append]
    exact Or.inr (weightsAll_mem h n hn)

theorem add_off (b o n : Nat) : ((⟨b, o, none⟩ : Addr).add n) = ⟨b, o + n, none⟩ := by unfold Addr.add; split <;> simp_all
theorem no_spot {W : World} {a : Addr} {v : Value} (h : W.cell? a = some v) : a.spot = none := by
  cases hs : a.spot with
  | none => rfl
  | some q =>
    simp only [World.cell?, hs] at h
    split at h
    · simp at h
    · cases h

theorem list_of {α : Type} (n : Nat) (p : Nat → α → Prop) (h : ∀ i, i < n → ∃ x, p i x) : ∃ xs : List α, xs.length = n ∧ ∀ j (hj : j < xs.length), p j xs[j] := by
  induction n with
  | zero => exact ⟨[], rfl, fun j hj => absurd hj (by simp)⟩
  | succ n ih =>
    obtain ⟨xs, h1, h2⟩ := ih (fun i hi => h i (by omega))
    obtain ⟨x, hx⟩ := h n (by omega)
    refine ⟨xs ++ [x], by simp [h1], fun j hj => ?_⟩
    by_cases hjn : j < xs.length
    · rw [List.getElem_append_left hjn]; exact h2 j hjn
    · have : j = xs.length := by simp at hj; omega
      subst this
      simp only [List.getElem_concat_length]
      rw [h1]; exact hx

theorem opens_sl {α : Type} {t e : TypeId} {r : Rel α} {sz bytes : Nat} (ht : P.underlying t = some (.slice e)) (hc : P.cellsOf e = sz) (hpos : 0 < sz) (hb : P.bytesOf e = bytes) (he : Opens P e r) : Opens P t (rSl r sz bytes) := by
  intro H enc W fuel cs d p h hw
  rcases open_slice ht h with ⟨rfl, _⟩ | ⟨a, len, cap, m, n, D, Pl, rfl, _, hl, hm, hmm, hx, hel⟩
  · exact ⟨[], none, 0, 0, rfl, by simp, fun _ => rfl, rfl, fun h => by omega⟩
  · obtain ⟨rfl, _⟩ := Prod.mk.inj hx
    simp only [if_true] at hmm
    have hw0 := hw ((len + (m - len)) * bytes) (by simp [DataW.weights, ht, hb])
    have hlen : len * bytes ≤ reachBytes := Nat.le_trans (Nat.mul_le_mul_right _ (Nat.le_add_right _ _)) hw0
    rw [hc] at hel
    obtain ⟨xs, hxl, hxs⟩ := list_of len (fun i (x : α) => ∃ cs', W.cells? 0 (a.add (i * sz)) sz = some cs' ∧ r W cs' x) (fun i hi => by
      obtain ⟨cs', h1, h2⟩ := hel i (by omega)
      obtain ⟨x, hx⟩ := he H enc W n cs' (D i) (Pl i) h2 (fun k hk => hw k (by
        simp only [DataW.weights, ht]
        exact List.mem_cons_of_mem _ (List.mem_append_left _ (weightsAll_mem (j := i) (d := D i) (by simp [hi]) k hk))))
      exact ⟨x, cs', h1, hx⟩)
    refine ⟨xs, some a, len, cap, rfl, hlen, by simp, hxl, fun hn => ?_⟩
    have h0 : ∃ v, W.cell? a = some v := by
      obtain ⟨cs', h1, _⟩ := hxs 0 (by omega)
      obtain ⟨_, hlen', hcell⟩ := World.cells?_some h1
      have := hcell 0 hpos
      simp only [Nat.zero_mul] at this
      obtain ⟨v, hv⟩ : ∃ v, cs'[0]? = some v := ⟨cs'[0], by simp [show 0 < cs'.length by omega]⟩
      refine ⟨v, ?_⟩
      rw [hv] at this
      simpa [Addr.add] using this
    obtain ⟨v0, hv0⟩ := h0
    obtain ⟨ab, ao, asp⟩ := a
    obtain rfl : asp = none := no_spot hv0
    refine ⟨ab, ao, rfl, World.block_lt_of_cell? W _ hv0, fun j hj => ?_⟩
    obtain ⟨cs', h1, h2⟩ := hxs j hj
    obtain ⟨_, hlen', hcell⟩ := World.cells?_some h1
    refine ⟨cs', hlen', fun i hi => ?_, h2⟩
    have := hcell i hi
    rw [add_off, add_off] at this
    rw [← this]
    simp [Nat.add_assoc]

/-! ### Structs of fields of one cell each -/
def rS2 {α β : Type} (r0 : Rel α) (r1 : Rel β) : Rel (α × β) := fun W cs x => ∃ c0 c1, cs = [c0, c1] ∧ r0 W [c0] x.1 ∧ r1 W [c1] x.2
def rS3 {α β γ : Type} (r0 : Rel α) (r1 : Rel β) (r2 : Rel γ) : Rel (α × β × γ) := fun W cs x => ∃ c0 c1 c2, cs = [c0, c1, c2] ∧ r0 W [c0] x.1 ∧ r1 W [c1] x.2.1 ∧ r2 W [c2] x.2.2
def rS4 {α β γ δ : Type} (r0 : Rel α) (r1 : Rel β) (r2 : Rel γ) (r3 : Rel δ) : Rel (α × β × γ × δ) := fun W cs x => ∃ c0 c1 c2 c3, cs = [c0, c1, c2, c3] ∧ r0 W [c0] x.1 ∧ r1 W [c1] x.2.1 ∧ r2 W [c2] x.2.2.1 ∧ r3 W [c3] x.2.2.2
theorem lasts_s2 {α β : Type} {r0 : Rel α} {r1 : Rel β} (h0 : Lasts r0) (h1 : Lasts r1) : Lasts (rS2 r0 r1) :=
  fun W W' cs x hb ⟨c0, c1, e, a0, a1⟩ => ⟨c0, c1, e, h0 _ _ _ _ hb a0, h1 _ _ _ _ hb a1⟩
theorem lasts_s3 {α β γ : Type} {r0 : Rel α} {r1 : Rel β} {r2 : Rel γ} (h0 : Lasts r0) (h1 : Lasts r1) (h2 : Lasts r2) : Lasts (rS3 r0 r1 r2) :=
  fun W W' cs x hb ⟨c0, c1, c2, e, a0, a1, a2⟩ => ⟨c0, c1, c2, e, h0 _ _ _ _ hb a0, h1 _ _ _ _ hb a1, h2 _ _ _ _ hb a2⟩
theorem lasts_s4 {α β γ δ : Type} {r0 : Rel α} {r1 : Rel β} {r2 : Rel γ} {r3 : Rel δ} (h0 : Lasts r0) (h1 : Lasts r1) (h2 : Lasts r2) (h3 : Lasts r3) : Lasts (rS4 r0 r1 r2 r3) :=
  fun W W' cs x hb ⟨c0, c1, c2, c3, e, a0, a1, a2, a3⟩ => ⟨c0, c1, c2, c3, e, h0 _ _ _ _ hb a0, h1 _ _ _ _ hb a1, h2 _ _ _ _ hb a2, h3 _ _ _ _ hb a3⟩

/-- A struct's field that is one cell. -/
def OneAt (P : Program) (f : Field) (i : Nat) : Prop := f.offset = i ∧ P.cellsOf f.type = 1

theorem opens_s2 {α β : Type} {t : TypeId} {f0 f1 : Field} {r0 : Rel α} {r1 : Rel β} (ht : P.underlying t = some (.struct #[f0, f1])) (hc : P.cellsOf t = 2) (a0 : OneAt P f0 0) (a1 : OneAt P f1 1)
    (h0 : Opens P f0.type r0) (h1 : Opens P f1.type r1) : Opens P t (rS2 r0 r1) := by
  intro H enc W fuel cs d p h hw
  obtain ⟨xs, n, _, hx, hl, hlen, hf⟩ := DataW.trod_struct ht h
  rw [hc] at hl
  match cs, hl, xs, hlen with
  | [c0, c1], _, [y0, y1], _ =>
    obtain ⟨rfl, _⟩ := Prod.mk.inj hx
    have e0 := hf 0 f0 rfl
    have e1 := hf 1 f1 rfl
    rw [a0.1, a0.2] at e0
    rw [a1.1, a1.2] at e1
    have w0 : ∀ k ∈ (y0.1).weights P f0.type, k ≤ reachBytes := fun k hk => hw k (by simp only [DataW.weights, ht]; exact DataW.weights_mem_each (j := 0) rfl rfl k hk)
    have w1 : ∀ k ∈ (y1.1).weights P f1.type, k ≤ reachBytes := fun k hk => hw k (by simp only [DataW.weights, ht]; exact DataW.weights_mem_each (j := 1) rfl rfl k hk)
    obtain ⟨x0, q0⟩ := h0 H enc W n [c0] y0.1 y0.2 (by simpa using e0) w0
    obtain ⟨x1, q1⟩ := h1 H enc W n [c1] y1.1 y1.2 (by simpa using e1) w1
    exact ⟨(x0, x1), c0, c1, rfl, q0, q1⟩

theorem opens_s3 {α β γ : Type} {t : TypeId} {f0 f1 f2 : Field} {r0 : Rel α} {r1 : Rel β} {r2 : Rel γ} (ht : P.underlying t = some (.struct #[f0, f1, f2])) (hc : P.cellsOf t = 3) (a0 : OneAt P f0 0) (a1 : OneAt P f1 1) (a2 : OneAt P f2 2)
    (h0 : Opens P f0.type r0) (h1 : Opens P f1.type r1) (h2 : Opens P f2.type r2) : Opens P t (rS3 r0 r1 r2) := by
  intro H enc W fuel cs d p h hw
  obtain ⟨xs, n, _, hx, hl, hlen, hf⟩ := DataW.trod_struct ht h
  rw [hc] at hl
  match cs, hl, xs, hlen with
  | [c0, c1, c2], _, [y0, y1, y2], _ =>
    obtain ⟨rfl, _⟩ := Prod.mk.inj hx
    have e0 := hf 0 f0 rfl
    have e1 := hf 1 f1 rfl
    have e2 := hf 2 f2 rfl
    rw [a0.1, a0.2] at e0
    rw [a1.1, a1.2] at e1
    rw [a2.1, a2.2] at e2
    have w0 : ∀ k ∈ (y0.1).weights P f0.type, k ≤ reachBytes := fun k hk => hw k (by simp only [DataW.weights, ht]; exact DataW.weights_mem_each (j := 0) rfl rfl k hk)
    have w1 : ∀ k ∈ (y1.1).weights P f1.type, k ≤ reachBytes := fun k hk => hw k (by simp only [DataW.weights, ht]; exact DataW.weights_mem_each (j := 1) rfl rfl k hk)
    have w2 : ∀ k ∈ (y2.1).weights P f2.type, k ≤ reachBytes := fun k hk => hw k (by simp only [DataW.weights, ht]; exact DataW.weights_mem_each (j := 2) rfl rfl k hk)
    obtain ⟨x0, q0⟩ := h0 H enc W n [c0] y0.1 y0.2 (by simpa using e0) w0
    obtain ⟨x1, q1⟩ := h1 H enc W n [c1] y1.1 y1.2 (by simpa using e1) w1
    obtain ⟨x2, q2⟩ := h2 H enc W n [c2] y2.1 y2.2 (by simpa using e2) w2
    exact ⟨(x0, x1, x2), c0, c1, c2, rfl, q0, q1, q2⟩

theorem opens_s4 {α β γ δ : Type} {t : TypeId} {f0 f1 f2 f3 : Field} {r0 : Rel α} {r1 : Rel β} {r2 : Rel γ} {r3 : Rel δ} (ht : P.underlying t = some (.struct #[f0, f1, f2, f3])) (hc : P.cellsOf t = 4) (a0 : OneAt P f0 0) (a1 : OneAt P f1 1) (a2 : OneAt P f2 2) (a3 : OneAt P f3 3)
    (h0 : Opens P f0.type r0) (h1 : Opens P f1.type r1) (h2 : Opens P f2.type r2) (h3 : Opens P f3.type r3) : Opens P t (rS4 r0 r1 r2 r3) := by
  intro H enc W fuel cs d p h hw
  obtain ⟨xs, n, _, hx, hl, hlen, hf⟩ := DataW.trod_struct ht h
  rw [hc] at hl
  match cs, hl, xs, hlen with
  | [c0, c1, c2, c3], _, [y0, y1, y2, y3], _ =>
    obtain ⟨rfl, _⟩ := Prod.mk.inj hx
    have e0 := hf 0 f0 rfl
    have e1 := hf 1 f1 rfl
    have e2 := hf 2 f2 rfl
    have e3 := hf 3 f3 rfl
    rw [a0.1, a0.2] at e0
    rw [a1.1, a1.2] at e1
    rw [a2.1, a2.2] at e2
    rw [a3.1, a3.2] at e3
    have w0 : ∀ k ∈ (y0.1).weights P f0.type, k ≤ reachBytes := fun k hk => hw k (by simp only [DataW.weights, ht]; exact DataW.weights_mem_each (j := 0) rfl rfl k hk)
    have w1 : ∀ k ∈ (y1.1).weights P f1.type, k ≤ reachBytes := fun k hk => hw k (by simp only [DataW.weights, ht]; exact DataW.weights_mem_each (j := 1) rfl rfl k hk)
    have w2 : ∀ k ∈ (y2.1).weights P f2.type, k ≤ reachBytes := fun k hk => hw k (by simp only [DataW.weights, ht]; exact DataW.weights_mem_each (j := 2) rfl rfl k hk)
    have w3 : ∀ k ∈ (y3.1).weights P f3.type, k ≤ reachBytes := fun k hk => hw k (by simp only [DataW.weights, ht]; exact DataW.weights_mem_each (j := 3) rfl rfl k hk)
    obtain ⟨x0, q0⟩ := h0 H enc W n [c0] y0.1 y0.2 (by simpa using e0) w0
    obtain ⟨x1, q1⟩ := h1 H enc W n [c1] y1.1 y1.2 (by simpa using e1) w1
    obtain ⟨x2, q2⟩ := h2 H enc W n [c2] y2.1 y2.2 (by simpa using e2) w2
    obtain ⟨x3, q3⟩ := h3 H enc W n [c3] y3.1 y3.2 (by simpa using e3) w3
    exact ⟨(x0, x1, x2, x3), c0, c1, c2, c3, rfl, q0, q1, q2, q3⟩
end
end Go.Proofs.Ytinflndbfdbnhaa.Rd

/- Expressions, values and rows as they come in. -/
set_option linter.unusedVariables false
set_option linter.unusedSimpArgs false
namespace Go.Proofs.Ytinflndbfdbnhaa.Exp
open Go.RowKit Go.Proofs.Ytinflndbfdbnhaa.Base Go.Proofs.Ytinflndbfdbnhaa.App Go.Proofs.Ytinflndbfdbnhaa.Byt Go.Proofs.Ytinflndbfdbnhaa.Rd Go.Deep Go.ChangeShapes Go.WideShapes

mutual
/-- How much an expression holds. -/
def bulkX : Ex → Nat
  | .mk _ _ v t n _ _ a => 1 + v.text.length + t.length + n.length + bulkXL a
def bulkXL : List Ex → Nat
  | [] => 0
  | x :: xs => bulkX x + bulkXL xs
end
mutual
/-- All numbers within are numbers. -/
def rngX : Ex → Prop
  | .mk _ _ v _ _ _ _ a => inI v.int ∧ rngXL a
def rngXL : List Ex → Prop
  | [] => True
  | x :: xs => rngX x ∧ rngXL xs
end
theorem bulkX_eq (x : Ex) : bulkX x = 1 + x.v.text.length + x.table.length + x.name.length + bulkXL x.args := by cases x; rw [bulkX]; rfl
theorem rngX_eq (x : Ex) : rngX x = (inI x.v.int ∧ rngXL x.args) := by cases x; rw [rngX]; rfl
theorem rngXL_of : ∀ {l : List Ex}, (∀ x ∈ l, rngX x) → rngXL l
  | [], _ => by rw [rngXL]; trivial
  | x :: xs, h => by rw [rngXL]; exact ⟨h x (by simp), rngXL_of fun y hy => h y (by simp [hy])⟩
theorem bulkXL_mem : ∀ {l : List Ex} {x : Ex}, x ∈ l → bulkX x ≤ bulkXL l
  | y :: r, x, h => by
    rw [bulkXL]
    rcases List.mem_cons.mp h with rfl | h
    · omega
    · have := bulkXL_mem h; omega
theorem bulkX_pos (x : Ex) : 1 ≤ bulkX x := by rw [bulkX_eq]; omega
theorem bulkXL_len : ∀ l : List Ex, l.length ≤ bulkXL l
  | [] => Nat.zero_le _
  | x :: xs => by
    have := bulkXL_len xs
    have := bulkX_pos x
    rw [bulkXL, List.length_cons]
    omega
theorem few_of : ∀ x : Ex, bulkX x ≤ 1048576 → fewE x
  | .mk k o v t n c ty a, h => by
    rw [bulkX] at h
    have := bulkXL_len a
    rw [fewE]
    exact ⟨by omega, fewL_of' a (by omega)⟩
where fewL_of' : ∀ l : List Ex, bulkXL l ≤ 1048576 → fewL l
  | [], _ => by rw [fewL]; trivial
  | x :: xs, h => by
    rw [bulkXL] at h
    rw [fewL]
    exact ⟨few_of x (by omega), fewL_of' xs (by omega)⟩
theorem held_of_rows {P : Nat → Prop} {W : World} {g o c : Nat} (hP : P g) (ps : List (Ex × Value)) (hu : ∀ j, j < ps.length * 10 → W.frozen? ⟨g, o + j, none⟩ = false) (h : ∀ i (hi : i < ps.length), RowC W g (o + i * 10) ps[i].1 ps[i].2) (hs : ∀ p ∈ ps, Held P W p.1.args p.2) : Held P W (ps.map (·.1)) (.slice (some ⟨g, o, none⟩) ps.length c) := by
  have := Held.cons (P := P) (W := W) g o c (ps.map (·.1)) (ps.map (·.2)) hP (by simp) (fun j hj => hu j (by simpa using hj)) (fun i hi => by
    have hi' : i < ps.length := by simpa using hi
    simpa using h i hi') (fun i hi => by
    have hi' : i < ps.length := by simpa using hi
    simpa using hs _ (List.getElem_mem hi'))
  simpa using this
theorem bulkXL_le {H : Type} : ∀ (xs : List Ex) (ds : List (DataW H)), xs.length = ds.length → (∀ j (h : j < xs.length) (h' : j < ds.length), bulkX xs[j] ≤ Rows.uptoBulk ds[j]) → bulkXL xs ≤ Rows.uptoBulkAll ds
  | [], [], _, _ => by rw [bulkXL]; omega
  | x :: xs, d :: ds, hl, h => by
    have h0 := h 0 (by simp) (by simp)
    have h1 := bulkXL_le xs ds (by simpa using hl) fun j a b => h (j + 1) (by simpa using a) (by simpa using b)
    rw [bulkXL, Rows.uptoBulkAll]
    exact Nat.add_le_add h0 h1
theorem bulkAll_mem {H : Type} : ∀ {ds : List (DataW H)} {d : DataW H}, d ∈ ds → Rows.uptoBulk d ≤ Rows.uptoBulkAll ds
  | e :: r, d, h => by
    rw [Rows.uptoBulkAll]
    rcases List.mem_cons.mp h with rfl | h
    · omega
    · have := bulkAll_mem h; omega
theorem bulkAll_append {H : Type} : ∀ (a b : List (DataW H)), Rows.uptoBulkAll (a ++ b) = Rows.uptoBulkAll a + Rows.uptoBulkAll b
  | [], b => by simp [Rows.uptoBulkAll]
  | x :: a, b => by rw [List.cons_append, Rows.uptoBulkAll, Rows.uptoBulkAll, bulkAll_append a b]; omega
theorem int_in {n : Int} (h : (Lit.int .i64 n).wf = true) : inI n := by
  simp [Lit.wf, IntKind.min, IntKind.max, IntKind.signed, IntKind.bits] at h
  exact ⟨by omega, by omega⟩
section
variable {H : Type} {enc : TypeId × Value → H} {P : Program}
theorem trod3 {t : TypeId} {f0 f1 f2 : Field} {W : World} {fuel : Nat} {cs : List Value} {x : DataW H × List MemPlace} (ht : P.underlying t = some (.struct #[f0, f1, f2])) (hc : P.cellsOf t = 3) (a0 : OneAt P f0 0) (a1 : OneAt P f1 1) (a2 : OneAt P f2 2) (h : DataW.trod enc P W 0 (fun _ => true) true fuel t cs = some x) :
    ∃ c0 c1 c2 y0 y1 y2 n, cs = [c0, c1, c2] ∧ x.1 = .agg [y0.1, y1.1, y2.1] ∧ DataW.trod enc P W 0 (fun _ => true) true n f0.type [c0] = some y0 ∧ DataW.trod enc P W 0 (fun _ => true) true n f1.type [c1] = some y1 ∧ DataW.trod enc P W 0 (fun _ => true) true n f2.type [c2] = some y2 := by
  obtain ⟨xs, n, _, hx, hl, hlen, hf⟩ := DataW.trod_struct ht h
  rw [hc] at hl
  match cs, hl, xs, hlen with
  | [c0, c1, c2], _, [y0, y1, y2], _ =>
    have e0 := hf 0 f0 rfl
    have e1 := hf 1 f1 rfl
    have e2 := hf 2 f2 rfl
    rw [a0.1, a0.2] at e0
    rw [a1.1, a1.2] at e1
    rw [a2.1, a2.2] at e2
    exact ⟨c0, c1, c2, y0, y1, y2, n, rfl, by rw [hx]; rfl, by simpa using e0, by simpa using e1, by simpa using e2⟩
theorem trod8 {t : TypeId} {f0 f1 f2 f3 f4 f5 f6 f7 : Field} {W : World} {fuel : Nat} {cs : List Value} {x : DataW H × List MemPlace} (ht : P.underlying t = some (.struct #[f0, f1, f2, f3, f4, f5, f6, f7])) (hc : P.cellsOf t = 10) (a0 : OneAt P f0 0) (a1 : OneAt P f1 1) (a2 : f2.offset = 2) (b2 : P.cellsOf f2.type = 3) (a3 : OneAt P f3 5) (a4 : OneAt P f4 6) (a5 : OneAt P f5 7) (a6 : OneAt P f6 8) (a7 : OneAt P f7 9) (h : DataW.trod enc P W 0 (fun _ => true) true fuel t cs = some x) :
    ∃ c0 c1 c2 c3 c4 c5 c6 c7 c8 c9 y0 y1 y2 y3 y4 y5 y6 y7 n, cs = [c0, c1, c2, c3, c4, c5, c6, c7, c8, c9] ∧ x.1 = .agg [y0.1, y1.1, y2.1, y3.1, y4.1, y5.1, y6.1, y7.1] ∧
      DataW.trod enc P W 0 (fun _ => true) true n f0.type [c0] = some y0 ∧ DataW.trod enc P W 0 (fun _ => true) true n f1.type [c1] = some y1 ∧ DataW.trod enc P W 0 (fun _ => true) true n f2.type [c2, c3, c4] = some y2 ∧
      DataW.trod enc P W 0 (fun _ => true) true n f3.type [c5] = some y3 ∧ DataW.trod enc P W 0 (fun _ => true) true n f4.type [c6] = some y4 ∧ DataW.trod enc P W 0 (fun _ => true) true n f5.type [c7] = some y5 ∧
      DataW.trod enc P W 0 (fun _ => true) true n f6.type [c8] = some y6 ∧ DataW.trod enc P W 0 (fun _ => true) true n f7.type [c9] = some y7 ∧ (∀ q ∈ y7.2, q ∈ x.2) := by
  obtain ⟨xs, n, _, hx, hl, hlen, hf⟩ := DataW.trod_struct ht h
  rw [hc] at hl
  match cs, hl, xs, hlen with
  | [c0, c1, c2, c3, c4, c5, c6, c7, c8, c9], _, [y0, y1, y2, y3, y4, y5, y6, y7], _ =>
    have e0 := hf 0 f0 rfl
    have e1 := hf 1 f1 rfl
    have e2 := hf 2 f2 rfl
    have e3 := hf 3 f3 rfl
    have e4 := hf 4 f4 rfl
    have e5 := hf 5 f5 rfl
    have e6 := hf 6 f6 rfl
    have e7 := hf 7 f7 rfl
    rw [a0.1, a0.2] at e0
    rw [a1.1, a1.2] at e1
    rw [a2, b2] at e2
    rw [a3.1, a3.2] at e3
    rw [a4.1, a4.2] at e4
    rw [a5.1, a5.2] at e5
    rw [a6.1, a6.2] at e6
    rw [a7.1, a7.2] at e7
    exact ⟨c0, c1, c2, c3, c4, c5, c6, c7, c8, c9, y0, y1, y2, y3, y4, y5, y6, y7, n, rfl, by rw [hx]; rfl, by simpa using e0, by simpa using e1, by simpa using e2, by simpa using e3, by simpa using e4, by simpa using e5, by simpa using e6, by simpa using e7, by rw [hx]; intro q hq; simp only [List.flatMap_cons, List.flatMap_nil, List.mem_append, List.append_nil]; simp [hq]⟩
end
section
variable {H : Type} {enc : TypeId × Value → H}
theorem ba_eta (s : ByteArray) : s = ⟨s.data.toList.toArray⟩ := by
  obtain ⟨⟨d⟩⟩ := s
  rfl
theorem open_val {W : World} {fuel : Nat} {cs : List Value} {x : DataW H × List MemPlace} (h : DataW.trod enc Try.prog W 0 (fun _ => true) true fuel 23 cs = some x) :
    ∃ v : Vl, cs = [.int .i64 v.kind, .int .i64 v.int, .string ⟨v.text.toArray⟩] ∧ inI v.int ∧ v.text.length + 1 ≤ Rows.uptoBulk x.1 := by
  obtain ⟨c0, c1, c2, y0, y1, y2, n, rfl, hx, h0, h1, h2⟩ := trod3 Try.underlying23 (by kernel_rfl) ⟨rfl, by kernel_rfl⟩ ⟨rfl, by kernel_rfl⟩ ⟨rfl, by kernel_rfl⟩ h
  obtain ⟨k, e0, d0, _⟩ := DataW.trod_int Try.underlying3 h0
  obtain ⟨i, e1, d1, w1⟩ := DataW.trod_int Try.underlying2 h1
  obtain ⟨s, e2, d2, _⟩ := DataW.trod_string Try.underlying9 h2
  cases e0; cases e1; cases e2
  refine ⟨⟨k, i, s.data.toList⟩, by rw [← ba_eta], int_in w1, ?_⟩
  rw [hx, d0, d1, d2]
  simp only [Rows.uptoBulk, Rows.uptoBulkAll]
  omega
/-- An expression comes in. -/
theorem open_ex {W : World} : ∀ (N fuel : Nat) (cs : List Value) (x : DataW H × List MemPlace), Rows.uptoBulk x.1 ≤ N → W.noneFrozen x.2 → DataW.trod enc Try.prog W 0 (fun _ => true) true fuel 26 cs = some x →
    ∃ (e : Ex) (s : Value), cs = exC e s ∧ Held (fun _ => True) W e.args s ∧ bulkX e ≤ Rows.uptoBulk x.1 ∧ rngX e := by
  intro N
  induction N with
  | zero =>
    intro fuel cs x hN hz h
    obtain ⟨c0, c1, c2, c3, c4, c5, c6, c7, c8, c9, y0, y1, y2, y3, y4, y5, y6, y7, n, rfl, hx, _⟩ := trod8 Try.underlying26 (by kernel_rfl) ⟨rfl, by kernel_rfl⟩ ⟨rfl, by kernel_rfl⟩ rfl (by kernel_rfl) ⟨rfl, by kernel_rfl⟩ ⟨rfl, by kernel_rfl⟩ ⟨rfl, by kernel_rfl⟩ ⟨rfl, by kernel_rfl⟩ ⟨rfl, by kernel_rfl⟩ h
    rw [hx] at hN
    simp only [Rows.uptoBulk] at hN
    omega
  | succ N ih =>
    intro fuel cs x hN hz h
    obtain ⟨c0, c1, c2, c3, c4, c5, c6, c7, c8, c9, y0, y1, y2, y3, y4, y5, y6, y7, n, rfl, hx, h0, h1, h2, h3, h4, h5, h6, h7, hp7⟩ := trod8 Try.underlying26 (by kernel_rfl) ⟨rfl, by kernel_rfl⟩ ⟨rfl, by kernel_rfl⟩ rfl (by kernel_rfl) ⟨rfl, by kernel_rfl⟩ ⟨rfl, by kernel_rfl⟩ ⟨rfl, by kernel_rfl⟩ ⟨rfl, by kernel_rfl⟩ ⟨rfl, by kernel_rfl⟩ h
    obtain ⟨k, e0, d0, _⟩ := DataW.trod_int Try.underlying3 h0
    obtain ⟨o, e1, d1, _⟩ := DataW.trod_int Try.underlying3 h1
    obtain ⟨v, e2, iv, bv⟩ := open_val h2
    obtain ⟨tb, e3, d3, _⟩ := DataW.trod_string Try.underlying9 h3
    obtain ⟨nm, e4, d4, _⟩ := DataW.trod_string Try.underlying9 h4
    obtain ⟨co, e5, d5, _⟩ := DataW.trod_int Try.underlying3 h5
    obtain ⟨ty, e6, d6, _⟩ := DataW.trod_int Try.underlying3 h6
    cases e0; cases e1; cases e2; cases e3; cases e4; cases e5; cases e6
    have hbx : Rows.uptoBulk x.1 = 1 + (1 + (1 + (Rows.uptoBulk y2.1 + (tb.data.toList.length + 1 + (nm.data.toList.length + 1 + (1 + (1 + Rows.uptoBulk y7.1))))))) := by
      rw [hx, d0, d1, d3, d4, d5, d6]
      simp only [Rows.uptoBulk, Rows.uptoBulkAll]
      omega
    rcases open_slice Try.underlying24 h7 with ⟨e7, _⟩ | ⟨a, len, cap, m, n', D, Pl, e7, _, hle, _, hmm, hx7, hel⟩
    · cases e7
      refine ⟨.mk k o v tb.data.toList nm.data.toList co ty [], .slice none 0 0, ?_, .nil _ _, ?_, ?_⟩
      · simp only [exC, Ex.kind, Ex.op, Ex.v, Ex.table, Ex.name, Ex.col, Ex.ty]
      · rw [bulkX, bulkXL]; omega
      · rw [rngX, rngXL]; exact ⟨iv, trivial⟩
    · cases e7
      simp only [if_true] at hmm
      have hc10 : Try.prog.cellsOf 26 = 10 := by kernel_rfl
      rw [hc10] at hel
      have hb7 : Rows.uptoBulk y7.1 = Rows.uptoBulkAll ((List.range len).map D) + Rows.uptoBulkAll ((List.range (m - len)).map fun j => D (len + j)) + 1 := by rw [hx7]; rfl
      obtain ⟨xs, hxl, hxs⟩ := list_of len (fun i (q : Ex × Value) => ∃ cs', W.cells? 0 (a.add (i * 10)) 10 = some cs' ∧ cs' = exC q.1 q.2 ∧ Held (fun _ => True) W q.1.args q.2 ∧ bulkX q.1 ≤ Rows.uptoBulk (D i) ∧ rngX q.1) (fun i hi => by
        obtain ⟨cs', q1, q2⟩ := hel i (by omega)
        have hbi : Rows.uptoBulk (D i) ≤ Rows.uptoBulkAll ((List.range len).map D) := bulkAll_mem (List.mem_map.mpr ⟨i, List.mem_range.mpr hi, rfl⟩)
        obtain ⟨e, s, r1, r2, r3, r4⟩ := ih n' cs' (D i, Pl i) (by show Rows.uptoBulk (D i) ≤ N; omega) (fun b off hm => hz b off (hp7 _ (by rw [hx7]; exact List.mem_append_right _ (List.mem_flatMap.mpr ⟨i, List.mem_range.mpr (by omega), hm⟩)))) q2
        exact ⟨(e, s), cs', q1, r1, r2, r3, r4⟩)
      have hsum : bulkXL (xs.map (·.1)) ≤ Rows.uptoBulkAll ((List.range len).map D) := by
        refine bulkXL_le _ _ (by simp [hxl]) fun j hj hj' => ?_
        have hjx : j < xs.length := by simpa using hj
        obtain ⟨_, _, _, _, hb, _⟩ := hxs j hjx
        simpa using hb
      refine ⟨.mk k o v tb.data.toList nm.data.toList co ty (xs.map (·.1)), .slice (some a) len cap, ?_, ?_, ?_, ?_⟩
      · simp only [exC, Ex.kind, Ex.op, Ex.v, Ex.table, Ex.name, Ex.col, Ex.ty]
      · show Held (fun _ => True) W (xs.map (·.1)) _
        by_cases hn0 : 0 < len
        · obtain ⟨cs', q1, q2, _⟩ := hxs 0 (by omega)
          obtain ⟨_, hlen', hcell⟩ := World.cells?_some q1
          have hv0 := hcell 0 (by omega)
          rw [q2] at hv0
          simp only [Nat.zero_mul] at hv0
          obtain ⟨ab, ao, asp⟩ := a
          obtain rfl : asp = none := no_spot (W := W) (a := ⟨ab, ao, asp⟩) (v := .int .i64 xs[0].1.kind) (by simpa [Addr.add, exC] using hv0)
          have := held_of_rows (P := fun _ => True) (W := W) (g := ab) (o := ao) (c := cap) trivial xs (fun j hj => hz ab (ao + j) (hp7 _ (by rw [hx7, hc10]; exact List.mem_append_left _ (MemPlace.mem_row.mpr ⟨j, by omega, rfl⟩)))) (fun i hi j hj => by
            obtain ⟨cs', q1, q2, _⟩ := hxs i hi
            obtain ⟨_, hlen', hcell⟩ := World.cells?_some q1
            have := hcell j (by omega)
            rw [add_off, add_off, q2, List.getElem?_eq_getElem (by rw [exC_len]; exact hj)] at this
            exact this) (fun q hq => by
            obtain ⟨i, hi, rfl⟩ := List.getElem_of_mem hq
            obtain ⟨_, _, _, hh, _⟩ := hxs i hi
            exact hh)
          rw [hxl] at this
          exact this
        · have hx0 : xs = [] := List.length_eq_zero_iff.mp (by omega)
          obtain rfl : len = 0 := by omega
          rw [hx0]
          exact .nil _ _
      · rw [bulkX]; omega
      · rw [rngX]
        refine ⟨iv, rngXL_of fun q hq => ?_⟩
        obtain ⟨p, hp, rfl⟩ := List.mem_map.mp hq
        obtain ⟨i, hi, rfl⟩ := List.getElem_of_mem hp
        obtain ⟨_, _, _, _, _, hr⟩ := hxs i hi
        exact hr
/-- A row comes in. -/
theorem open_vals {W : World} {fuel : Nat} {cs : List Value} {x : DataW H × List MemPlace} (h : DataW.trod enc Try.prog W 0 (fun _ => true) true fuel 27 cs = some x) :
    ∃ (A : Option Addr) (c : Nat) (vs : List Vl), cs = [.slice A vs.length c] ∧ ValSl W A vs ∧ vs.length ≤ Rows.uptoBulk x.1 ∧ ∀ v ∈ vs, inI v.int ∧ v.text.length ≤ Rows.uptoBulk x.1 := by
  rcases open_slice Try.underlying27 h with ⟨rfl, _⟩ | ⟨a, len, cap, m, n', D, Pl, rfl, _, hle, _, hmm, hx7, hel⟩
  · exact ⟨none, 0, [], rfl, fun h => absurd h (by simp), by simp, fun v hv => by cases hv⟩
  · simp only [if_true] at hmm
    have hc3 : Try.prog.cellsOf 23 = 3 := by kernel_rfl
    rw [hc3] at hel
    have hb7 : Rows.uptoBulk x.1 = Rows.uptoBulkAll ((List.range len).map D) + Rows.uptoBulkAll ((List.range (m - len)).map fun j => D (len + j)) + 1 := by rw [hx7]; rfl
    obtain ⟨vs, hvl, hvs⟩ := list_of len (fun i (v : Vl) => ∃ cs', W.cells? 0 (a.add (i * 3)) 3 = some cs' ∧ cs' = [.int .i64 v.kind, .int .i64 v.int, .string ⟨v.text.toArray⟩] ∧ inI v.int ∧ v.text.length + 1 ≤ Rows.uptoBulk (D i)) (fun i hi => by
      obtain ⟨cs', q1, q2⟩ := hel i (by omega)
      obtain ⟨v, r1, r2, r3⟩ := open_val q2
      exact ⟨v, cs', q1, r1, r2, r3⟩)
    have hall : ∀ n, n ≤ len → n ≤ Rows.uptoBulkAll ((List.range n).map D) := by
      intro n
      induction n with
      | zero => intro _; exact Nat.zero_le _
      | succ n ih =>
        intro hn
        have h1 := ih (by omega)
        obtain ⟨_, _, _, _, hb⟩ := hvs n (by omega)
        rw [List.range_succ, List.map_append, bulkAll_append]
        simp only [List.map_cons, List.map_nil, Rows.uptoBulkAll]
        omega
    have hlenb := hall len (Nat.le_refl _)
    refine ⟨some a, cap, vs, by rw [hvl], fun h0 => ?_, by rw [hvl]; omega, fun v hv => ?_⟩
    · obtain ⟨cs', q1, q2, _⟩ := hvs 0 h0
      obtain ⟨_, hlen', hcell⟩ := World.cells?_some q1
      have hv0 := hcell 0 (by omega)
      rw [q2] at hv0
      simp only [Nat.zero_mul] at hv0
      obtain ⟨ab, ao, asp⟩ := a
      obtain rfl : asp = none := no_spot (W := W) (a := ⟨ab, ao, asp⟩) (v := .int .i64 vs[0].kind) (by simpa [Addr.add] using hv0)
      refine ⟨ab, ao, rfl, fun i hi => ?_⟩
      obtain ⟨cs', q1, q2, _⟩ := hvs i hi
      obtain ⟨_, hlen', hcell⟩ := World.cells?_some q1
      have f0 := hcell 0 (by omega)
      have f1 := hcell 1 (by omega)
      have f2 := hcell 2 (by omega)
      rw [add_off, add_off, q2] at f0 f1 f2
      exact ⟨f0, f1, f2⟩
    · obtain ⟨i, hi, rfl⟩ := List.getElem_of_mem hv
      obtain ⟨_, _, _, h1, h2⟩ := hvs i hi
      have hbi : Rows.uptoBulk (D i) ≤ Rows.uptoBulkAll ((List.range len).map D) := bulkAll_mem (List.mem_map.mpr ⟨i, List.mem_range.mpr (by omega), rfl⟩)
      exact ⟨h1, by omega⟩
end
end Go.Proofs.Ytinflndbfdbnhaa.Exp

/- Plain laws of expressions' values: what has no column; a part that is known. -/
set_option linter.unusedVariables false
set_option linter.unusedSimpArgs false
namespace Go.Proofs.Ytinflndbfdbnhaa.Exp
open Go.RowKit Go.Proofs.Ytinflndbfdbnhaa.Base

mutual
/-- Has an expression a column? -/
def hasCol : Ex → Bool
  | .mk k _ _ _ _ _ _ a => k == 2 || hasColL a
def hasColL : List Ex → Bool
  | [] => false
  | x :: xs => hasCol x || hasColL xs
end
theorem hasCol_eq (x : Ex) : hasCol x = (x.kind == 2 || hasColL x.args) := by cases x; rw [hasCol]; rfl
theorem hasColL_at : ∀ (l : List Ex) (i : Nat) (h : i < l.length), hasColL l = false → hasCol l[i] = false
  | x :: xs, 0, h, hc => by rw [hasColL, Bool.or_eq_false_iff] at hc; exact hc.1
  | x :: xs, i + 1, h, hc => by rw [hasColL, Bool.or_eq_false_iff] at hc; exact hasColL_at xs i (by simpa using h) hc.2
theorem oneE_row {a b : List Vl} {x : Ex} (h : x.kind ≠ 2) (r : EvL) : oneE a x r = oneE b x r := by
  unfold oneE
  rw [if_neg h, if_neg h]
mutual
theorem evE_row (a b : List Vl) (known : List (Ex × Vl)) : ∀ x : Ex, hasCol x = false → evE a known x = evE b known x
  | .mk k o v t n c ty l, h => by
    rw [hasCol, Bool.or_eq_false_iff] at h
    rw [evE, evE, evL_row a b known l h.2 k o true, oneE_row (b := b) (by simpa [Ex.kind] using h.1)]
theorem evL_row (a b : List Vl) (known : List (Ex × Vl)) : ∀ l : List Ex, hasColL l = false → ∀ (k o : Int) (f : Bool), evL a known k o f l = evL b known k o f l
  | [], _, k, o, f => by rw [evL, evL]
  | x :: xs, h, k, o, f => by
    rw [hasColL, Bool.or_eq_false_iff] at h
    rw [evL, evL, evE_row a b known x h.1, evL_row a b known xs h.2 k o false]
end
theorem sameL_length : ∀ {xs ys : List Ex}, sameL xs ys = true → xs.length = ys.length
  | [], [], _ => rfl
  | x :: xs, y :: ys, h => by rw [sameL, Bool.and_eq_true] at h; simp [sameL_length h.2]
  | [], _ :: _, h => by rw [sameL] at h; cases h
  | _ :: _, [], h => by rw [sameL] at h; cases h
theorem vl_eq {v u : Vl} (h : (v.kind == u.kind && (v.int == u.int && v.text == u.text)) = true) : v = u := by
  cases v; cases u
  simp only [Bool.and_eq_true, beq_iff_eq] at h
  obtain ⟨h1, h2, h3⟩ := h
  subst h1; subst h2; subst h3; rfl
theorem knownV_nil (x : Ex) : knownV [] x = none := rfl
mutual
theorem evE_same (row : List Vl) : ∀ x y : Ex, sameE x y = true → hasCol x = false → evE row [] x = evE row [] y
  | .mk k o v t n c ty a, .mk k' o' v' t' n' c' ty' a', h, hc => by
    rw [sameE] at h
    simp only [Bool.and_eq_true, beq_iff_eq] at h
    obtain ⟨⟨⟨⟨⟨h1, h2⟩, h3⟩, h4⟩, h5⟩, h6⟩ := h
    have h3 : v = v' := vl_eq (by simp only [Bool.and_eq_true, beq_iff_eq]; exact h3)
    subst h1; subst h2; subst h3; subst h4; subst h5
    rw [hasCol, Bool.or_eq_false_iff] at hc
    have hk : k ≠ 2 := by simpa using hc.1
    rw [evE, evE, knownV_nil, knownV_nil, evL_same row a a' h6 hc.2 k o true]
    simp only
    unfold oneE emptyE
    simp only [Ex.kind, Ex.op, Ex.v, Ex.table, Ex.name, Ex.args, sameL_length h6]
    simp [hk]
theorem evL_same (row : List Vl) : ∀ xs ys : List Ex, sameL xs ys = true → hasColL xs = false → ∀ (k o : Int) (f : Bool), evL row [] k o f xs = evL row [] k o f ys
  | [], [], _, _, k, o, f => rfl
  | x :: xs, y :: ys, h, hc, k, o, f => by
    rw [sameL, Bool.and_eq_true] at h
    rw [hasColL, Bool.or_eq_false_iff] at hc
    rw [evL, evL, evE_same row x y h.1 hc.1, evL_same row xs ys h.2 hc.2 k o false]
  | [], _ :: _, h, _, _, _, _ => by rw [sameL] at h; cases h
  | _ :: _, [], h, _, _, _, _ => by rw [sameL] at h; cases h
end
theorem knownV_one (p : Ex) (v : Vl) (x : Ex) : knownV [(p, v)] x = if sameE p x then some v else none := by
  unfold knownV
  rw [List.find?_cons]
  cases sameE p x <;> rfl
mutual
theorem evE_part (row : List Vl) (p : Ex) (v : Vl) (hp : hasCol p = false) (hv : evE row [] p = .ok v) : ∀ x : Ex, evE row [(p, v)] x = evE row [] x
  | .mk k o u t n c ty l => by
    cases hs : sameE p (.mk k o u t n c ty l) with
    | true =>
      rw [← evE_same row p _ hs hp, hv, evE, knownV_one, hs]
      rfl
    | false =>
      rw [evE, evE, knownV_one, hs, knownV_nil, evL_part row p v hp hv l k o true]
      rfl
theorem evL_part (row : List Vl) (p : Ex) (v : Vl) (hp : hasCol p = false) (hv : evE row [] p = .ok v) : ∀ l : List Ex, ∀ (k o : Int) (f : Bool), evL row [(p, v)] k o f l = evL row [] k o f l
  | [], k, o, f => by rw [evL, evL]
  | x :: xs, k, o, f => by rw [evL, evL, evE_part row p v hp hv x, evL_part row p v hp hv xs k o false]
end
end Go.Proofs.Ytinflndbfdbnhaa.Exp

/- quarryref01.Check; quarrylaw16.Rights, RightRow; quarryref13.Size. -/
set_option linter.unusedVariables false
set_option linter.unusedSimpArgs false
namespace Go.Proofs.Ytinflndbfdbnhaa.Exp
open Go.RowKit Go.Proofs.Ytinflndbfdbnhaa.Base Go.Proofs.Ytinflndbfdbnhaa.App Go.Proofs.Ytinflndbfdbnhaa.Byt

/-- What is wrong with a value; 0: nothing. -/
def chkV (v : Vl) : Int :=
  if v.kind < 0 then 5 else if 4 < v.kind then 5
  else if v.kind = 0 then (if v.int = 0 ∧ v.text = [] then 0 else 3)
  else if v.kind = 1 then (if v.text = [] ∧ (v.int = 0 ∨ v.int = 1) then 0 else 3)
  else if v.kind = 2 then (if v.text = [] then 0 else 3)
  else (if v.int = 0 then 0 else 3)
theorem rv_of {v : Vl} (h : chkV v = 0) (hi : inI v.int) (ht : v.text.length ≤ reachBytes) : RV v := by
  obtain ⟨k, n, t⟩ := v
  unfold chkV at h
  simp only at h hi ht
  split at h
  · simp at h
  · split at h
    · simp at h
    · split at h
      · split at h
        · rename_i h0 h1
          obtain ⟨rfl, rfl⟩ := h1
          subst h0
          exact .null
        · simp at h
      · split at h
        · split at h
          · rename_i h0 h1
            obtain ⟨rfl, h1⟩ := h1
            subst h0
            rcases h1 with rfl | rfl
            · exact .bool false
            · exact .bool true
          · simp at h
        · split at h
          · split at h
            · rename_i h0 h1
              subst h0; subst h1
              exact .num n hi
            · simp at h
          · split at h
            · rename_i h0
              subst h0
              rcases (show k = 3 ∨ k = 4 by omega) with rfl | rfl
              · exact .text t ht
              · exact .blob t ht
            · simp at h
theorem chk_of {v : Vl} (h : RV v) : chkV v = 0 := by
  cases h with
  | null => rfl
  | bool b => cases b <;> rfl
  | num n h => simp [chkV, vNum]
  | text s h => simp [chkV, vTxt]
  | blob s h => simp [chkV]
theorem str_ne {t : List UInt8} (h : ¬ t = []) : ¬ (⟨t.toArray⟩ : ByteArray).toList = [] := by rw [Lib.toList_data]; exact h
set_option maxRecDepth 100000 in
set_option maxHeartbeats 3200000 in
theorem rchk_lo (k n : Int) (t : List UInt8) (h : k < 0) (w : World) : Calls Try.prog 8 #[.agg #[.int .i64 k, .int .i64 n, .string ⟨t.toArray⟩]] w fun e w' => e = .returned (.int .i64 5) ∧ Below w.heap.size w w' := by
  go_enter Try.func8, Try.ntmps8
  go_wp2
  go_ret
  exact ⟨rfl, below_alloc (Below.refl _ _) _⟩
set_option maxRecDepth 100000 in
set_option maxHeartbeats 3200000 in
theorem rchk_hi (k n : Int) (t : List UInt8) (h : ¬ k < 0) (h' : 4 < k) (w : World) : Calls Try.prog 8 #[.agg #[.int .i64 k, .int .i64 n, .string ⟨t.toArray⟩]] w fun e w' => e = .returned (.int .i64 5) ∧ Below w.heap.size w w' := by
  go_enter Try.func8, Try.ntmps8
  go_wp2
  go_ret
  exact ⟨rfl, below_alloc (Below.refl _ _) _⟩
set_option maxRecDepth 100000 in
set_option maxHeartbeats 3200000 in
theorem rchk_0_true (n : Int) (t : List UInt8) (h : ∀ W, (binOp .neq 23 (.agg #[.int .i64 0, .int .i64 n, .string ⟨t.toArray⟩]) (.agg #[.int .i64 0, .int .i64 0, .string ⟨#[]⟩])).run Try.prog W = .ok (.bool false) W) (w : World) : Calls Try.prog 8 #[.agg #[.int .i64 0, .int .i64 n, .string ⟨t.toArray⟩]] w fun e w' => e = .returned (.int .i64 0) ∧ Below w.heap.size w w' := by
  go_enter Try.func8, Try.ntmps8
  go_wp2
  go_ret
  exact ⟨rfl, below_alloc (Below.refl _ _) _⟩
set_option maxRecDepth 100000 in
set_option maxHeartbeats 3200000 in
theorem rchk_0_false (n : Int) (t : List UInt8) (h : ∀ W, (binOp .neq 23 (.agg #[.int .i64 0, .int .i64 n, .string ⟨t.toArray⟩]) (.agg #[.int .i64 0, .int .i64 0, .string ⟨#[]⟩])).run Try.prog W = .ok (.bool true) W) (w : World) : Calls Try.prog 8 #[.agg #[.int .i64 0, .int .i64 n, .string ⟨t.toArray⟩]] w fun e w' => e = .returned (.int .i64 3) ∧ Below w.heap.size w w' := by
  go_enter Try.func8, Try.ntmps8
  go_wp2
  go_ret
  exact ⟨rfl, below_alloc (Below.refl _ _) _⟩
set_option maxRecDepth 100000 in
set_option maxHeartbeats 3200000 in
theorem rchk_1_0 (w : World) : Calls Try.prog 8 #[.agg #[.int .i64 1, .int .i64 0, .string ⟨#[]⟩]] w fun e w' => e = .returned (.int .i64 0) ∧ Below w.heap.size w w' := by
  go_enter Try.func8, Try.ntmps8
  go_wp2
  go_ret
  exact ⟨rfl, below_alloc (Below.refl _ _) _⟩
set_option maxRecDepth 100000 in
set_option maxHeartbeats 3200000 in
theorem rchk_1_1 (w : World) : Calls Try.prog 8 #[.agg #[.int .i64 1, .int .i64 1, .string ⟨#[]⟩]] w fun e w' => e = .returned (.int .i64 0) ∧ Below w.heap.size w w' := by
  go_enter Try.func8, Try.ntmps8
  go_wp2
  go_ret
  exact ⟨rfl, below_alloc (Below.refl _ _) _⟩
set_option maxRecDepth 100000 in
set_option maxHeartbeats 3200000 in
theorem rchk_1_n (n : Int) (h0 : (n != 0) = true) (h1 : (n != 1) = true) (g0 : ¬ n = 0) (g1 : ¬ n = 1) (w : World) : Calls Try.prog 8 #[.agg #[.int .i64 1, .int .i64 n, .string ⟨#[]⟩]] w fun e w' => e = .returned (.int .i64 3) ∧ Below w.heap.size w w' := by
  go_enter Try.func8, Try.ntmps8
  go_wp2
  go_ret
  exact ⟨rfl, below_alloc (Below.refl _ _) _⟩
set_option maxRecDepth 100000 in
set_option maxHeartbeats 3200000 in
theorem rchk_1_t (n : Int) (t : List UInt8) (h : ¬ (⟨t.toArray⟩ : ByteArray).toList = []) (he : t.isEmpty = false) (w : World) : Calls Try.prog 8 #[.agg #[.int .i64 1, .int .i64 n, .string ⟨t.toArray⟩]] w fun e w' => e = .returned (.int .i64 3) ∧ Below w.heap.size w w' := by
  go_enter Try.func8, Try.ntmps8
  go_wp2
  go_ret
  exact ⟨rfl, below_alloc (Below.refl _ _) _⟩
set_option maxRecDepth 100000 in
set_option maxHeartbeats 3200000 in
theorem rchk_2_n (n : Int) (w : World) : Calls Try.prog 8 #[.agg #[.int .i64 2, .int .i64 n, .string ⟨#[]⟩]] w fun e w' => e = .returned (.int .i64 0) ∧ Below w.heap.size w w' := by
  go_enter Try.func8, Try.ntmps8
  go_wp2
  go_ret
  exact ⟨rfl, below_alloc (Below.refl _ _) _⟩
set_option maxRecDepth 100000 in
set_option maxHeartbeats 3200000 in
theorem rchk_2_t (n : Int) (t : List UInt8) (h : ¬ (⟨t.toArray⟩ : ByteArray).toList = []) (he : t.isEmpty = false) (w : World) : Calls Try.prog 8 #[.agg #[.int .i64 2, .int .i64 n, .string ⟨t.toArray⟩]] w fun e w' => e = .returned (.int .i64 3) ∧ Below w.heap.size w w' := by
  go_enter Try.func8, Try.ntmps8
  go_wp2
  go_ret
  exact ⟨rfl, below_alloc (Below.refl _ _) _⟩
set_option maxRecDepth 100000 in
set_option maxHeartbeats 3200000 in
theorem rchk_3_0 (t : List UInt8) (w : World) : Calls Try.prog 8 #[.agg #[.int .i64 3, .int .i64 0, .string ⟨t.toArray⟩]] w fun e w' => e = .returned (.int .i64 0) ∧ Below w.heap.size w w' := by
  go_enter Try.func8, Try.ntmps8
  go_wp2
  go_ret
  exact ⟨rfl, below_alloc (Below.refl _ _) _⟩
set_option maxRecDepth 100000 in
set_option maxHeartbeats 3200000 in
theorem rchk_3_n (n : Int) (t : List UInt8) (h0 : (n != 0) = true) (w : World) : Calls Try.prog 8 #[.agg #[.int .i64 3, .int .i64 n, .string ⟨t.toArray⟩]] w fun e w' => e = .returned (.int .i64 3) ∧ Below w.heap.size w w' := by
  go_enter Try.func8, Try.ntmps8
  go_wp2
  go_ret
  exact ⟨rfl, below_alloc (Below.refl _ _) _⟩
set_option maxRecDepth 100000 in
set_option maxHeartbeats 3200000 in
theorem rchk_4_0 (t : List UInt8) (w : World) : Calls Try.prog 8 #[.agg #[.int .i64 4, .int .i64 0, .string ⟨t.toArray⟩]] w fun e w' => e = .returned (.int .i64 0) ∧ Below w.heap.size w w' := by
  go_enter Try.func8, Try.ntmps8
  go_wp2
  go_ret
  exact ⟨rfl, below_alloc (Below.refl _ _) _⟩
set_option maxRecDepth 100000 in
set_option maxHeartbeats 3200000 in
theorem rchk_4_n (n : Int) (t : List UInt8) (h0 : (n != 0) = true) (w : World) : Calls Try.prog 8 #[.agg #[.int .i64 4, .int .i64 n, .string ⟨t.toArray⟩]] w fun e w' => e = .returned (.int .i64 3) ∧ Below w.heap.size w w' := by
  go_enter Try.func8, Try.ntmps8
  go_wp2
  go_ret
  exact ⟨rfl, below_alloc (Below.refl _ _) _⟩
/-- quarryref01.Check. -/
theorem rchk_calls (v : Vl) (w : World) : Calls Try.prog 8 #[vC v] w fun e w' => e = .returned (.int .i64 (chkV v)) ∧ Below w.heap.size w w' := by
  obtain ⟨k, n, t⟩ := v
  unfold vC chkV
  simp only
  by_cases h0 : k < 0
  · rw [if_pos h0]; exact rchk_lo k n t h0 w
  rw [if_neg h0]
  by_cases h4 : 4 < k
  · rw [if_pos h4]; exact rchk_hi k n t h0 h4 w
  rw [if_neg h4]
  rcases (show k = 0 ∨ k = 1 ∨ k = 2 ∨ k = 3 ∨ k = 4 by omega) with rfl | rfl | rfl | rfl | rfl
  · have hq : ∀ W, (binOp .neq 23 (.agg #[.int .i64 0, .int .i64 n, .string ⟨t.toArray⟩]) (.agg #[.int .i64 0, .int .i64 0, .string ⟨#[]⟩])).run Try.prog W = .ok (.bool (!(eqV ⟨0, n, t⟩ vNull))) W := fun W => by
      have h : (binOp .neq 23 (.agg #[.int .i64 0, .int .i64 n, .string ⟨t.toArray⟩]) (.agg #[.int .i64 0, .int .i64 0, .string ⟨([] : List UInt8).toArray⟩])).run Try.prog W = .ok (.bool (!((0 : Int) == 0 && (n == 0 && ((⟨t.toArray⟩ : ByteArray).toList == (⟨([] : List UInt8).toArray⟩ : ByteArray).toList))))) W := Eqs.op_neq fun d => val_in d W _ _ _ _ _ _
      rw [tl_eq] at h
      exact h
    rw [if_pos rfl]
    by_cases hn : n = 0 ∧ t = []
    · rw [if_pos hn]
      obtain ⟨rfl, rfl⟩ := hn
      exact rchk_0_true 0 [] (fun W => hq W) w
    · rw [if_neg hn]
      have he : eqV ⟨0, n, t⟩ vNull = false := by
        cases h : eqV ⟨0, n, t⟩ vNull with
        | false => rfl
        | true =>
          have := vl_eq h
          injection this with _ h1 h2
          exact absurd ⟨h1, h2⟩ hn
      rw [he] at hq
      exact rchk_0_false n t (fun W => hq W) w
  · rw [if_neg (by decide), if_pos rfl]
    by_cases ht : t = []
    · subst ht
      by_cases hn0 : n = 0
      · subst hn0; rw [if_pos ⟨rfl, .inl rfl⟩]; exact rchk_1_0 w
      · by_cases hn1 : n = 1
        · subst hn1; rw [if_pos ⟨rfl, .inr rfl⟩]; exact rchk_1_1 w
        · rw [if_neg (by rintro ⟨_, h | h⟩; exact hn0 h; exact hn1 h)]
          exact rchk_1_n n (by simpa using hn0) (by simpa using hn1) hn0 hn1 w
    · rw [if_neg (fun h => ht h.1)]
      exact rchk_1_t n t (str_ne ht) (by cases t; exact absurd rfl ht; rfl) w
  · rw [if_neg (by decide), if_neg (by decide), if_pos rfl]
    by_cases ht : t = []
    · subst ht; rw [if_pos rfl]; exact rchk_2_n n w
    · rw [if_neg ht]; exact rchk_2_t n t (str_ne ht) (by cases t; exact absurd rfl ht; rfl) w
  · rw [if_neg (by decide), if_neg (by decide), if_neg (by decide)]
    by_cases hn0 : n = 0
    · subst hn0; rw [if_pos rfl]; exact rchk_3_0 t w
    · rw [if_neg hn0]; exact rchk_3_n n t (by simpa using hn0) w
  · rw [if_neg (by decide), if_neg (by decide), if_neg (by decide)]
    by_cases hn0 : n = 0
    · subst hn0; rw [if_pos rfl]; exact rchk_4_0 t w
    · rw [if_neg hn0]; exact rchk_4_n n t (by simpa using hn0) w
set_option maxRecDepth 100000 in
set_option maxHeartbeats 6400000 in
/-- quarrylaw16.RightRow. -/
theorem row_calls (vs : List Vl) (hn : vs.length ≤ 1048576) (A : Option Addr) (c : Nat) (w : World) (hv : ValSl w A vs) :
    Calls Try.prog 6 #[.slice A vs.length c] w fun e w' => e = .returned (.bool (vs.all fun v => chkV v == 0)) ∧ Below w.heap.size w w' := by
  have HV := Asd.mk hv
  generalize hm : vs.length = m at hn ⊢
  have HM := Asd.mk hm
  clear hv hm
  go_enter Try.func6, Try.ntmps6
  go_wp2
  go_loopw [3] (fun i wr => ∃ k : Nat, k ≤ m ∧ i = .int .i64 (k : Int) ∧ Asd (Below w.heap.size w wr) ∧ Asd ((vs.all fun v => chkV v == 0) = ((vs.drop k).all fun v => chkV v == 0))) (fun i _ => m - (intOf i).toNat)
  case atStart => exact ⟨0, by omega, rfl, ⟨Below.refl _ _⟩, ⟨rfl⟩⟩
  case round =>
    obtain ⟨k, hk, rfl, HB, HQ⟩ := hrel
    by_cases hlt : k < m
    · have hkv : k < vs.length := by rw [HM.out]; exact hlt
      obtain ⟨g, o, rfl, hv⟩ := (HV.out.below HB.out) (by omega)
      obtain ⟨x0, x1, x2⟩ := hv k hkv
      have HD : Asd (vs.drop k = vs[k] :: vs.drop (k + 1)) := Asd.mk (List.drop_eq_getElem_cons hkv)
      rw [HD.out, List.all_cons] at HQ
      generalize vs[k] = v at x0 x1 x2 HQ
      have HC := Asd.mk (rchk_calls v)
      clear HD hv hkv
      have hgl := World.block_lt_of_cell? wr _ x0
      have hk0 : (0 : Int) ≤ (k : Int) := by omega
      go_wp2_with fail
      refine (HC.out _).mono ?_
      rintro e w2 ⟨rfl, hb2⟩
      have HB2 : Asd (Below w.heap.size w w2) := Asd.mk (HB.out.trans (hb2.mono HB.out.size))
      clear x0 x1 x2 hb2
      cases hc : (chkV v == 0) with
      | true =>
        have hcn : (chkV v != 0) = false := by rw [beq_iff_eq] at hc; rw [hc]; rfl
        have HQ2 : Asd ((vs.all fun v => chkV v == 0) = ((vs.drop (k + 1)).all fun v => chkV v == 0)) := Asd.mk (by rw [HQ.out, hc, Bool.true_and])
        clear hc
        generalize chkV v = q at hcn ⊢
        go_wp2
        go_roundw
        case rel => exact ⟨k + 1, by omega, by go_num, HB2, HQ2⟩
        case measure => simp [intOf]; omega
      | false =>
        have hcn : (chkV v != 0) = true := by rw [beq_eq_false_iff_ne] at hc; rw [bne_iff_ne]; exact hc
        have HQ2 : Asd ((vs.all fun v => chkV v == 0) = false) := Asd.mk (by rw [HQ.out, hc]; rfl)
        clear hc
        generalize chkV v = q at hcn ⊢
        go_wp2
        go_ret
        exact ⟨ret_eq (by rw [HQ2.out]; rfl), HB2.out⟩
    · have HS : Asd ((vs.all fun v => chkV v == 0) = true) := Asd.mk (by rw [HQ.out, List.drop_of_length_le (by rw [HM.out]; omega)]; rfl)
      clear HQ
      go_wp2
      go_ret
      exact ⟨ret_eq (by rw [HS.out]; rfl), HB.out⟩
mutual
/-- Are all values within right? -/
def rightX : Ex → Bool
  | .mk _ _ v _ _ _ _ a => chkV v == 0 && rightL a
def rightL : List Ex → Bool
  | [] => true
  | x :: xs => rightX x && rightL xs
end
mutual
/-- How many expressions there are within. -/
def sizeX : Ex → Nat
  | .mk _ _ _ _ _ _ _ a => 1 + sizeL a
def sizeL : List Ex → Nat
  | [] => 0
  | x :: xs => sizeX x + sizeL xs
end
theorem rightX_eq (x : Ex) : rightX x = (chkV x.v == 0 && rightL x.args) := by cases x; rw [rightX]; rfl
theorem sizeX_eq (x : Ex) : sizeX x = 1 + sizeL x.args := by cases x; rw [sizeX]; rfl
mutual
theorem sizeX_le : ∀ x : Ex, sizeX x ≤ bulkX x
  | .mk k o v t n c ty a => by rw [sizeX, bulkX]; have := sizeL_le a; omega
theorem sizeL_le : ∀ l : List Ex, sizeL l ≤ bulkXL l
  | [] => by rw [sizeL, bulkXL]; omega
  | x :: xs => by rw [sizeL, bulkXL]; exact Nat.add_le_add (sizeX_le x) (sizeL_le xs)
end
mutual
theorem rvX_of : ∀ x : Ex, rightX x = true → rngX x → bulkX x ≤ 1048576 → rvX x
  | .mk k o v t n c ty a, h, hr, hb => by
    rw [rightX, Bool.and_eq_true, beq_iff_eq] at h
    rw [rngX] at hr
    rw [bulkX] at hb
    rw [rvX]
    exact ⟨rv_of h.1 hr.1 (by have : reachBytes = 140737488351232 := rfl; omega), rvXL_of a h.2 hr.2 (by omega)⟩
theorem rvXL_of : ∀ l : List Ex, rightL l = true → rngXL l → bulkXL l ≤ 1048576 → rvXL l
  | [], _, _, _ => by rw [rvXL]; trivial
  | x :: xs, h, hr, hb => by
    rw [rightL, Bool.and_eq_true] at h
    rw [rngXL] at hr
    rw [bulkXL] at hb
    rw [rvXL]
    exact ⟨rvX_of x h.1 hr.1 (by omega), rvXL_of xs h.2 hr.2 (by omega)⟩
end
theorem rightL_drop {l : List Ex} {k : Nat} (h : k < l.length) : rightL (l.drop k) = (rightX l[k] && rightL (l.drop (k + 1))) := by rw [List.drop_eq_getElem_cons h, rightL]
theorem sizeL_drop {l : List Ex} {k : Nat} (h : k < l.length) : sizeL (l.drop k) = sizeX l[k] + sizeL (l.drop (k + 1)) := by rw [List.drop_eq_getElem_cons h, sizeL]
def RightsOK (x : Ex) : Prop := ∀ (Q : Nat → Prop) (A : Option Addr) (c : Nat) (w : World), Held Q w x.args (.slice A x.args.length c) → Calls Try.prog 5 #[exV x (.slice A x.args.length c)] w fun e w' => e = .returned (.bool (rightX x)) ∧ Below w.heap.size w w'
set_option maxRecDepth 100000 in
set_option maxHeartbeats 12800000 in
theorem rights_step (x : Ex) (hn : x.args.length ≤ 1048576) (hsub : ∀ i (h : i < x.args.length), RightsOK x.args[i]) : RightsOK x := by
  intro Q A c w hheld
  have HH := Asd.mk hheld
  have HSUB := Asd.mk hsub
  have HE := Asd.mk (rightX_eq x)
  have HC := Asd.mk (rchk_calls x.v)
  have HX := Asd.mk (blk_new w (xK x (.slice A x.args.length c)))
  have HB : Asd (Below w.heap.size w (w.alloc (xK x (.slice A x.args.length c)))) := Asd.mk (below_alloc (Below.refl _ _) _)
  clear hheld hsub
  generalize hm : x.args.length = m at hn HX HB HH ⊢
  have HM := Asd.mk hm
  clear hm
  unfold exV
  go_enter Try.func5, Try.ntmps5
  go_upto_region 1 with fail
  generalize w.alloc _ = w1 at HX HB ⊢
  obtain ⟨e0, e1, e2, e3, e4, e5, e6, e7, e8, e9⟩ := ex_cells (x := x) HX.out
  go_wp2_with fail
  refine (HC.out _).mono ?_
  rintro e w2 ⟨rfl, hb2⟩
  have HB2 : Asd (Below w.heap.size w w2) := Asd.mk (HB.out.trans (hb2.mono HB.out.size))
  have HX2 := Asd.mk (blk_below hb2 HX.out)
  clear e0 e1 e2 e3 e4 e5 e6 e7 e8 e9 hb2 HC
  have e9 : w2.cell? ⟨w.heap.size, 9, none⟩ = some (.slice A m c) := (blk_cell HX2.out 9).trans rfl
  cases hc : (chkV x.v == 0) with
  | false =>
    have hcn : (chkV x.v != 0) = true := by rw [beq_eq_false_iff_ne] at hc; rw [bne_iff_ne]; exact hc
    have HF : Asd (rightX x = false) := Asd.mk (by rw [HE.out, hc]; rfl)
    clear hc
    generalize chkV x.v = q at hcn ⊢
    go_wp2
    go_ret
    exact ⟨ret_eq (by rw [HF.out]; rfl), HB2.out⟩
  | true =>
    have hcn : (chkV x.v != 0) = false := by rw [beq_iff_eq] at hc; rw [hc]; rfl
    rw [hc, Bool.true_and] at HE
    clear hc
    generalize chkV x.v = q at hcn ⊢
    have HB0 := HB2
    go_wp2
    go_loopw [3] (fun i wr => ∃ k : Nat, k ≤ m ∧ i = .int .i64 (k : Int) ∧ Asd (Below w.heap.size w wr) ∧ Asd (Below w2.heap.size w2 wr) ∧ Asd (rightX x = rightL (x.args.drop k))) (fun i _ => m - (intOf i).toNat)
    case atStart => exact ⟨0, by omega, rfl, ⟨HB0.out⟩, ⟨Below.refl _ _⟩, ⟨HE.out⟩⟩
    case round =>
      obtain ⟨k, hk, rfl, HBR, HBR2, HQ⟩ := hrel
      clear e9
      have e9 : wr.cell? ⟨w.heap.size, 9, none⟩ = some (.slice A m c) := (blk_cell (blk_below HBR2.out HX2.out) 9).trans rfl
      by_cases hlt : k < m
      · have hkx : k < x.args.length := by rw [HM.out]; exact hlt
        obtain ⟨g, o, A1, n1, c1, he1, hr1, hh1⟩ := held_at (held_below HH.out HBR.out) k hkx
        subst he1
        obtain ⟨A1', c1', he2⟩ := held_len hh1
        have hn1 : n1 = x.args[k].args.length := by
          injection he2
        subst hn1
        clear he2
        have HSK := Asd.mk (HSUB.out k hkx)
        rw [rightL_drop hkx] at HQ
        generalize x.args[k] = a at hr1 hh1 HSK HQ
        have HHA := Asd.mk hh1
        clear hkx
        have hgl := World.block_lt_of_cell? wr _ (hr1 0 (by omega))
        have hk0 : (0 : Int) ≤ (k : Int) := by omega
        have x0 : wr.cell? ⟨g, o + k * 10, none⟩ = some (.int .i64 a.kind) := hr1 0 (by omega)
        have x1 : wr.cell? ⟨g, o + k * 10 + 1, none⟩ = some (.int .i64 a.op) := hr1 1 (by omega)
        have x2 : wr.cell? ⟨g, o + k * 10 + 2, none⟩ = some (.int .i64 a.v.kind) := hr1 2 (by omega)
        have x3 : wr.cell? ⟨g, o + k * 10 + 3, none⟩ = some (.int .i64 a.v.int) := hr1 3 (by omega)
        have x4 : wr.cell? ⟨g, o + k * 10 + 4, none⟩ = some (.string ⟨a.v.text.toArray⟩) := hr1 4 (by omega)
        have x5 : wr.cell? ⟨g, o + k * 10 + 5, none⟩ = some (.string ⟨a.table.toArray⟩) := hr1 5 (by omega)
        have x6 : wr.cell? ⟨g, o + k * 10 + 6, none⟩ = some (.string ⟨a.name.toArray⟩) := hr1 6 (by omega)
        have x7 : wr.cell? ⟨g, o + k * 10 + 7, none⟩ = some (.int .i64 a.col) := hr1 7 (by omega)
        have x8 : wr.cell? ⟨g, o + k * 10 + 8, none⟩ = some (.int .i64 a.ty) := hr1 8 (by omega)
        have x9 : wr.cell? ⟨g, o + k * 10 + 9, none⟩ = some (.slice A1 a.args.length c1) := hr1 9 (by omega)
        clear hr1 hh1
        go_wp2_with fail
        refine (HSK.out Q A1 c1 wr HHA.out).mono ?_
        rintro e w5 ⟨rfl, hb5⟩
        have HB5 : Asd (Below w.heap.size w w5) := Asd.mk (HBR.out.trans (hb5.mono HBR.out.size))
        have HB52 : Asd (Below w2.heap.size w2 w5) := Asd.mk (HBR2.out.trans (hb5.mono HBR2.out.size))
        clear x0 x1 x2 x3 x4 x5 x6 x7 x8 x9 e9 hb5
        cases hr : rightX a with
        | true =>
          have HQ2 : Asd (rightX x = rightL (x.args.drop (k + 1))) := Asd.mk (by rw [HQ.out, hr, Bool.true_and])
          clear hr
          go_wp2
          go_roundw
          case rel => exact ⟨k + 1, by omega, by go_num, HB5, HB52, HQ2⟩
          case measure => simp [intOf]; omega
        | false =>
          have HQ2 : Asd (rightX x = false) := Asd.mk (by rw [HQ.out, hr]; rfl)
          clear hr
          go_wp2
          go_ret
          exact ⟨ret_eq (by rw [HQ2.out]; rfl), HB5.out⟩
      · have HS : Asd (rightX x = true) := Asd.mk (by rw [HQ.out, List.drop_of_length_le (by rw [HM.out]; omega)]; rfl)
        clear HQ
        go_wp2
        go_ret
        exact ⟨ret_eq (by rw [HS.out]; rfl), HBR.out⟩
/-- quarrylaw16.Rights. -/
theorem rights_ok (x : Ex) (hf : fewE x) : RightsOK x :=
  rights_step x (fewE_args hf).1 fun i h => rights_ok x.args[i] (fewL_mem (fewE_args hf).2 _ (List.getElem_mem h))
termination_by SizeOf.sizeOf x
decreasing_by exact args_lt x i h
end Go.Proofs.Ytinflndbfdbnhaa.Exp
