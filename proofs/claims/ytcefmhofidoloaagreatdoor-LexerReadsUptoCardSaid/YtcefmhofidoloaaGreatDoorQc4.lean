/- Texts put together: Rw1, Rw2, Rw3, Rw4, Rw5, Rw6, Rwa. -/
import Derived.Test.YtcefmhofidoloaaGreatDoorQc3
import Derived.Test.YtcefmhofidoloaaGreatDoorPsmallx1
import Derived.Test.YtcefmhofidoloaaGreatDoorPnumberx1
import Derived.Test.YtcefmhofidoloaaGreatDoorPquotedx1
import Derived.Test.YtcefmhofidoloaaGreatDoorPhexx1
import Derived.Test.YtcefmhofidoloaaGreatDoorPletterx1
import Derived.Test.YtcefmhofidoloaaGreatDoorPsymbolx1
import Derived.Deep.QuietTactic
import Derived.BigQuiet
/- What the printed functions of the reference's lexer answer: plain laws, part one. -/
set_option linter.unusedVariables false
set_option linter.unusedSimpArgs false
namespace Go.Proofs.YtcefmhofidoloaaGreatDoor.Lex
open Go.RowKit Go.Proofs.YtcefmhofidoloaaGreatDoor.Base Go.Proofs.YtcefmhofidoloaaGreatDoorW.PrintWords Go.Proofs.YtcefmhofidoloaaGreatDoor.Psmall Go.Proofs.YtcefmhofidoloaaGreatDoor.Pnumber Go.Proofs.YtcefmhofidoloaaGreatDoor.Pquoted

/-- Bytes as numbers. -/
def NM (l : List UInt8) : List Int := l.map fun c => (c.toNat : Int)
theorem NM_snoc (l : List UInt8) (c : UInt8) : NM l ++ [(c.toNat : Int)] = NM (l ++ [c]) := by simp [NM]
theorem NM_len (l : List UInt8) : (NM l).length = l.length := by simp [NM]
theorem sn (l : List UInt8) : strOfNums (NM l) = ⟨l.toArray⟩ := by
  unfold strOfNums NM
  rw [List.map_map]
  congr 2
  refine (List.map_congr_left fun c _ => ?_).trans (List.map_id l)
  simp
theorem bt_drop {s : ByteArray} {k : Nat} {c : UInt8} {r : List UInt8} (h : s.data.toList.drop k = c :: r) : bt s (k : Int) = (c.toNat : Int) ∧ k < s.size ∧ s.data.toList.drop (k + 1) = r := by
  obtain ⟨h1, h2, _⟩ := drop_len h
  have hk : k < s.size := h1
  refine ⟨?_, hk, h2.symm⟩
  have hd := drop_cons s k hk
  rw [h] at hd
  injection hd with hc _
  unfold bt
  rw [Int.toNat_natCast, dif_pos hk, hc]
theorem drop_end {s : ByteArray} {k : Nat} (h : s.data.toList.drop k = []) : s.size ≤ k := by
  rw [List.drop_eq_nil_iff] at h
  exact h
theorem w1 {k : Nat} (h : k ≤ 1099511627776) : wrap64 ((k : Int) + 1) = ((k + 1 : Nat) : Int) := by unfold wrap64; omega
theorem w2 {k : Nat} (h : k ≤ 1099511627776) : wrap64 ((k : Int) + 2) = ((k + 2 : Nat) : Int) := by unfold wrap64; omega
theorem lowR_up {c : UInt8} (h1 : 65 ≤ c.toNat) (h2 : c.toNat ≤ 90) : ((c.toNat : Int) + 32) % 256 = ((lowB c).toNat : Int) := by
  unfold lowB
  rw [if_pos ⟨h1, h2⟩, UInt8.toNat_ofNat']
  omega
theorem lowR_no {c : UInt8} (h : ¬ (65 ≤ c.toNat ∧ c.toNat ≤ 90)) : lowB c = c := by unfold lowB; rw [if_neg h]
theorem small_f (s : ByteArray) (hs : s.size ≤ 16384) : ∀ (r : List UInt8) (i : Nat) (acc : List UInt8) (k : Nat), s.data.toList.drop i = r → acc.length ≤ 32768 - r.length → r.length ≤ 16384 → r.length < k → quarryref12_small.l0 k s (NM acc) (i : Int) = some ⟨(acc ++ r.map lowB).toArray⟩
  | r, i, acc, 0, h, ha, hr, hk => by omega
  | [], i, acc, k + 1, h, ha, hr, hk => by
    have := drop_end h
    rw [quarryref12_small.l0, if_neg (by omega), sn, List.map_nil, List.append_nil]
  | c :: r, i, acc, k + 1, h, ha, hr, hk => by
    obtain ⟨hb, hi, hd⟩ := bt_drop h
    simp only [List.length_cons] at ha hr hk
    have ih := small_f s hs r (i + 1) (acc ++ [lowB c]) k hd (by simp; omega) (by omega) (by omega)
    have e : (acc ++ [lowB c]) ++ r.map lowB = acc ++ (c :: r).map lowB := by simp
    rw [e, ← NM_snoc] at ih
    have hl : ((NM acc).length : Nat) < 140737488355328 := by rw [NM_len]; omega
    rw [quarryref12_small.l0, if_pos (by omega), if_pos (by omega), hb, w1 (by omega)]
    by_cases h1 : 65 ≤ c.toNat
    · rw [if_pos (by omega)]
      by_cases h2 : c.toNat ≤ 90
      · rw [if_pos (by omega), if_pos hl, lowR_up h1 h2]; exact ih
      · rw [lowR_no (by omega)] at ih
        rw [if_neg (by omega), if_pos hl]; exact ih
    · rw [lowR_no (by omega)] at ih
      rw [if_neg (by omega), if_pos hl]; exact ih
theorem u64_small {n : Int} (h0 : 0 ≤ n) (h1 : n < 18446744073709551616) : IntKind.u64.wrap n = n := by
  simp [IntKind.wrap, IntKind.signed, IntKind.bits]
  omega
theorem dec_cons (a : Nat) (c : UInt8) (l : List UInt8) : decV a (c :: l) = decV (a * 10 + (c.toNat - 48)) l := decV_cons a c l
theorem number_f (s : ByteArray) (hs : s.size ≤ 16384) : ∀ (r : List UInt8) (i a : Nat) (k : Nat), s.data.toList.drop i = r → (∀ c ∈ r, isDig c = true) → a < 9223372036854775808 → r.length < k →
    quarryref12_number.l0 k s (a : Int) (i : Int) = if decV a r < 9223372036854775808 then some (((decV a r : Nat) : Int), true) else some (0, false)
  | r, i, a, 0, h, hd, ha, hk => by omega
  | [], i, a, k + 1, h, hd, ha, hk => by
    have := drop_end h
    rw [quarryref12_number.l0, if_neg (by omega)]
    rw [show decV a [] = a from rfl, if_pos ha, show wrap64 (a : Int) = (a : Int) by unfold wrap64; omega]
  | c :: r, i, a, k + 1, h, hd, ha, hk => by
    obtain ⟨hb, hi, hdr⟩ := bt_drop h
    simp only [List.length_cons] at hk
    have hc := (isDig_iff c).mp (hd c (by simp))
    rw [quarryref12_number.l0, if_pos (by omega), if_pos (by omega), hb, w1 (by omega), dec_cons]
    have e : ((c.toNat : Int) - 48) % 256 = ((c.toNat - 48 : Nat) : Int) := by omega
    rw [e]
    generalize hq : c.toNat - 48 = d
    have hd9 : d ≤ 9 := by omega
    by_cases hbig : (a : Int) > (9223372036854775807 - (d : Int)) / 10
    · rw [if_pos hbig]
      have h1 : 9223372036854775808 ≤ a * 10 + d := by omega
      have h2 := decV_ge r (a * 10 + d)
      rw [if_neg (by omega)]
    · rw [if_neg hbig]
      have h1 : a * 10 + d < 9223372036854775808 := by omega
      have e2 : IntKind.u64.wrap (IntKind.u64.wrap (10 * (a : Int)) + (d : Int)) = ((a * 10 + d : Nat) : Int) := by
        rw [u64_small (n := 10 * (a : Int)) (by omega) (by omega), u64_small (by omega) (by omega)]
        omega
      rw [e2]
      exact number_f s hs r (i + 1) (a * 10 + d) k hdr (fun x hx => hd x (by simp [hx])) h1 (by omega)
/-- How quoted ends. -/
def quoR (acc : List UInt8) (i : Nat) : Option (List UInt8 × Nat) → Option (ByteArray × Int × Bool)
  | some x => some (⟨(acc ++ x.1).toArray⟩, ((i + x.2 : Nat) : Int), true)
  | none => some (⟨#[]⟩, 0, false)
theorem c39 (c : UInt8) : ((c.toNat : Int) = 39) ↔ c = 39 := by
  constructor
  · intro h
    have : c.toNat = 39 := by omega
    exact UInt8.toNat_inj.mp this
  · rintro rfl; rfl
theorem quoted_f (s : ByteArray) (hs : s.size ≤ 16384) : ∀ (n : Nat) (r : List UInt8), r.length ≤ n → ∀ (i : Nat) (acc : List UInt8) (k : Nat), s.data.toList.drop i = r → acc.length ≤ 32768 - r.length → r.length ≤ 16384 → r.length < k → quarryref12_quoted.l0 k s (NM acc) (i : Int) = quoR acc i (textP r)
  | _, r, hn, i, acc, 0, h, ha, hr, hk => by omega
  | _, [], hn, i, acc, k + 1, h, ha, hr, hk => by
    have := drop_end h
    rw [quarryref12_quoted.l0, if_neg (by omega), textP_nil]
    rfl
  | 0, c :: r, hn, i, acc, k + 1, h, ha, hr, hk => by simp at hn
  | n + 1, c :: r, hn, i, acc, k + 1, h, ha, hr, hk => by
    obtain ⟨hb, hi, hdr⟩ := bt_drop h
    simp only [List.length_cons] at ha hr hk hn
    have hl : ((NM acc).length : Nat) < 140737488355328 := by rw [NM_len]; omega
    rw [quarryref12_quoted.l0, if_pos (by omega), if_pos (by omega), hb, w1 (by omega)]
    by_cases hc : c = 39
    · subst hc
      rw [if_pos (by rfl)]
      match r, hdr, hk, hr, ha, hn with
      | [], hdr, _, _, _, _ =>
        have := drop_end hdr
        rw [if_neg (by omega), textP_q0, sn]
        simp [quoR]
      | d :: r', hdr, hk, hr, ha, hn =>
        obtain ⟨hb2, hi2, hdr2⟩ := bt_drop hdr
        simp only [List.length_cons] at ha hr hk hn
        rw [if_pos (by omega), if_pos (by omega), hb2]
        by_cases hd : d = 39
        · subst hd
          rw [if_pos (by rfl), if_pos hl, w1 (by omega), textP_q2]
          have ih := quoted_f s hs n r' (by omega) (i + 2) (acc ++ [39]) k hdr2 (by simp; omega) (by omega) (by omega)
          have e : NM acc ++ [39] = NM (acc ++ [39]) := NM_snoc acc 39
          rw [e, show i + 1 + 1 = i + 2 by omega, ih]
          cases textP r' with
          | none => rfl
          | some x =>
            simp only [quoR, Option.map_some, List.append_assoc, List.singleton_append]
            rw [show i + 2 + x.2 = i + (x.2 + 2) by omega]
        · rw [if_neg (by rw [c39]; exact hd), textP_q1 hd, sn]
          simp [quoR]
    · rw [if_neg (by rw [c39]; exact hc), if_pos hl, textP_c hc, NM_snoc]
      have ih := quoted_f s hs n r (by omega) (i + 1) (acc ++ [c]) k hdr (by simp; omega) (by omega) (by omega)
      rw [ih]
      cases textP r with
      | none => rfl
      | some x =>
        simp only [quoR, Option.map_some, List.append_assoc, List.singleton_append]
        rw [show i + 1 + x.2 = i + (x.2 + 1) by omega]
end Go.Proofs.YtcefmhofidoloaaGreatDoor.Lex

/- What the printed functions of the reference's lexer answer: plain laws, part two: hex, blob, symbol. -/
set_option linter.unusedVariables false
set_option linter.unusedSimpArgs false
namespace Go.Proofs.YtcefmhofidoloaaGreatDoor.Lex
open Go.RowKit Go.Proofs.YtcefmhofidoloaaGreatDoor.Base Go.Proofs.YtcefmhofidoloaaGreatDoorW.PrintWords Go.Proofs.YtcefmhofidoloaaGreatDoor.Phex Go.Proofs.YtcefmhofidoloaaGreatDoor.Pletter

theorem digit_f (c : UInt8) : quarryref12_digit.f (c.toNat : Int) = some (isDig c) := by
  unfold quarryref12_digit.f isDig digN
  by_cases h : 48 ≤ c.toNat
  · rw [if_pos (by omega)]
    congr 1
    by_cases h2 : c.toNat ≤ 57
    · rw [decide_eq_true (by omega), decide_eq_true ⟨h, h2⟩]
    · rw [decide_eq_false (by omega), decide_eq_false (by omega)]
  · rw [if_neg (by omega), decide_eq_false (by omega)]
theorem letter_f (c : UInt8) : quarryref12_letter.f (c.toNat : Int) = some (isLet c) := by
  unfold quarryref12_letter.f isLet letN
  have e95 : ((c.toNat : Int) == 95) = decide (c.toNat = 95) := by
    by_cases h : c.toNat = 95
    · rw [decide_eq_true h, beq_iff_eq]; omega
    · rw [decide_eq_false h, beq_eq_false_iff_ne]; omega
  rw [e95]
  by_cases h1 : 97 ≤ c.toNat
  · rw [if_pos (by omega)]
    by_cases h2 : c.toNat ≤ 122
    · rw [if_pos (by omega), decide_eq_true ⟨h1, h2⟩]; simp
    · rw [if_neg (by omega), if_pos (by omega), if_neg (by omega), decide_eq_false (p := 97 ≤ c.toNat ∧ c.toNat ≤ 122) (by omega), decide_eq_false (p := 65 ≤ c.toNat ∧ c.toNat ≤ 90) (by omega)]; simp
  · rw [if_neg (by omega), decide_eq_false (p := 97 ≤ c.toNat ∧ c.toNat ≤ 122) (by omega)]
    by_cases h3 : 65 ≤ c.toNat
    · rw [if_pos (by omega)]
      by_cases h4 : c.toNat ≤ 90
      · rw [if_pos (by omega), decide_eq_true ⟨h3, h4⟩]; simp
      · rw [if_neg (by omega), decide_eq_false (p := 65 ≤ c.toNat ∧ c.toNat ≤ 90) (by omega)]; simp
    · rw [if_neg (by omega), decide_eq_false (p := 65 ≤ c.toNat ∧ c.toNat ≤ 90) (by omega)]; simp
/-- A digit's value, or -1. -/
def hexI (c : UInt8) : Int := match hexV c with
  | some v => (v : Int)
  | none => -1
theorem hex_f (k : Nat) (c : UInt8) : quarryref12_hex.f (k + 1) (c.toNat : Int) = some (hexI c) := by
  have hlt := c.toNat_lt
  unfold quarryref12_hex.f hexI hexV
  rw [digit_f]
  simp only [Option.bind_some]
  unfold isDig
  by_cases hd : digN c.toNat = true
  · have h48 : 48 ≤ c.toNat ∧ c.toNat ≤ 57 := by simpa [digN] using hd
    rw [if_pos hd, if_pos hd]
    simp only
    congr 1
    omega
  · have h48 : ¬ (48 ≤ c.toNat ∧ c.toNat ≤ 57) := by simpa [digN] using hd
    rw [if_neg hd, if_neg hd]
    by_cases h1 : 97 ≤ c.toNat
    · rw [if_pos (by omega), quarryref12_hex.j0]
      by_cases h2 : c.toNat ≤ 102
      · rw [decide_eq_true (by omega), if_pos rfl, if_pos ⟨h1, h2⟩]
        simp only
        congr 1
        omega
      · rw [decide_eq_false (by omega), if_neg (by decide), if_pos (by omega), if_neg (by omega), if_neg (by omega), if_neg (by omega)]
    · rw [if_neg (by omega), quarryref12_hex.j0, if_neg (by decide)]
      by_cases h3 : 65 ≤ c.toNat
      · rw [if_pos (by omega)]
        by_cases h4 : c.toNat ≤ 70
        · rw [if_pos (by omega), if_neg (by omega), if_pos ⟨h3, h4⟩]
          simp only
          congr 1
          omega
        · rw [if_neg (by omega), if_neg (by omega), if_neg (by omega)]
      · rw [if_neg (by omega), if_neg (by omega), if_neg (by omega)]
theorem hexI_some {c : UInt8} {v : Nat} (h : hexV c = some v) : hexI c = (v : Int) := by unfold hexI; rw [h]
theorem hexI_none {c : UInt8} (h : hexV c = none) : hexI c = -1 := by unfold hexI; rw [h]
theorem wr_small {n : Int} (h0 : 0 ≤ n) (h1 : n ≤ 1099511627776) : wrap64 n = n := by unfold wrap64; omega
/-- The pairs of digits at the front: their bytes, how many digits. -/
def pairsP : List UInt8 → List UInt8 × Nat
  | [] => ([], 0)
  | [_] => ([], 0)
  | a :: b :: r => match hexPair a b with
    | some v => (UInt8.ofNat v :: (pairsP r).1, (pairsP r).2 + 2)
    | none => ([], 0)
theorem pairsP_yes {a b : UInt8} {r : List UInt8} {v : Nat} (h : hexPair a b = some v) : pairsP (a :: b :: r) = (UInt8.ofNat v :: (pairsP r).1, (pairsP r).2 + 2) := by rw [pairsP, h]
theorem pairsP_no {a b : UInt8} {r : List UInt8} (h : hexPair a b = none) : pairsP (a :: b :: r) = ([], 0) := by rw [pairsP, h]
theorem q39 : hexV 39 = none := by decide
/-- A blob behind its first quote: the pairs, and a quote behind them. -/
theorem blobP_pairs : ∀ (n : Nat) (D : List UInt8), D.length ≤ n → blobP D = if (D.drop (pairsP D).2).head? = some 39 then some ((pairsP D).1, (pairsP D).2 + 2) else none
  | _, [], _ => rfl
  | _, [a], _ => by
    unfold blobP
    by_cases ha : a = 39
    · subst ha; rfl
    · rw [if_neg (by simpa using fun e => ha e.symm)]
      simp [pairsP, ha]
  | 0, a :: b :: r, hn => by simp at hn
  | n + 1, a :: b :: r, hn => by
    simp only [List.length_cons] at hn
    by_cases ha : a = 39
    · subst ha
      have hp : hexPair 39 b = none := by unfold hexPair; rw [q39]; rfl
      rw [pairsP_no hp]
      simp [blobP, unhex]
    · by_cases hb : b = 39
      · subst hb
        have hp : hexPair a 39 = none := by unfold hexPair; rw [q39]; cases hexV a <;> rfl
        rw [pairsP_no hp]
        simp [blobP, unhex, ha]
      · have ht : (a :: b :: r).takeWhile (· != 39) = a :: b :: r.takeWhile (· != 39) := by simp [ha, hb]
        have hm : (39 ∈ a :: b :: r) ↔ 39 ∈ r := by
          simp only [List.mem_cons]
          constructor
          · rintro (h | h | h)
            · exact absurd h.symm ha
            · exact absurd h.symm hb
            · exact h
          · intro h; exact .inr (.inr h)
        have ih := blobP_pairs n r (by omega)
        cases hp : hexPair a b with
        | none =>
          rw [pairsP_no hp]
          unfold blobP
          rw [ht, unhex_cons, hp]
          simp [ha]
        | some v =>
          rw [pairsP_yes hp]
          have e : (a :: b :: r).drop ((pairsP r).2 + 2) = r.drop (pairsP r).2 := by simp
          simp only [e]
          unfold blobP at ih ⊢
          rw [ht, unhex_cons, hp]
          by_cases h39 : 39 ∈ r
          · rw [if_pos (hm.mpr h39)]
            rw [if_pos h39] at ih
            simp only [Option.bind_some, Option.map_map, List.length_cons]
            cases hu : unhex (r.takeWhile (· != 39)) with
            | none =>
              rw [hu] at ih
              by_cases hq : (r.drop (pairsP r).2).head? = some 39
              · rw [if_pos hq] at ih; cases ih
              · rw [if_neg hq]; rfl
            | some x =>
              rw [hu] at ih
              by_cases hq : (r.drop (pairsP r).2).head? = some 39
              · rw [if_pos hq] at ih
                rw [if_pos hq]
                simp only [Option.map_some, Option.some.injEq, Prod.mk.injEq] at ih
                simp only [Option.map_some, Function.comp_apply, Option.some.injEq, Prod.mk.injEq]
                exact ⟨by rw [ih.1], by omega⟩
              · rw [if_neg hq] at ih; cases ih
          · rw [if_neg (fun h => h39 (hm.mp h))]
            rw [if_neg h39] at ih
            by_cases hq : (r.drop (pairsP r).2).head? = some 39
            · rw [if_pos hq] at ih; cases ih
            · rw [if_neg hq]
end Go.Proofs.YtcefmhofidoloaaGreatDoor.Lex

/- What the printed functions of the reference's lexer answer: plain laws, part three: symbol, one. -/
set_option linter.unusedVariables false
set_option linter.unusedSimpArgs false
namespace Go.Proofs.YtcefmhofidoloaaGreatDoor.Lex
open Go.RowKit Go.Proofs.YtcefmhofidoloaaGreatDoor.Base Go.Proofs.YtcefmhofidoloaaGreatDoorW.PrintWords Go.Proofs.YtcefmhofidoloaaGreatDoor.Psymbol

theorem ext_eq (s : ByteArray) (a b : Nat) : s.extract a b = ⟨((s.data.toList.take b).drop a).toArray⟩ := by
  rw [← ext_list, Lib.mk_data]
def symL : List UInt8 := [40, 41, 44, 46, 42, 61, 60, 62, 43, 45, 47, 37, 59]
set_option maxHeartbeats 3200000 in
theorem symj_f (k : Nat) (s : ByteArray) {c : UInt8} {r : List UInt8} (h : s.data.toList = c :: r) : quarryref12_symbol.j0 (k + 1) s = some ⟨(if c ∈ symL then [c] else []).toArray⟩ := by
  obtain ⟨hb, hlt, _⟩ := bt_drop (s := s) (k := 0) (by rw [List.drop_zero]; exact h)
  have hb : bt s 0 = (c.toNat : Int) := hb
  have e1 : s.extract 0 1 = ⟨[c].toArray⟩ := by rw [ext_eq, h]; rfl
  have s0 : (0 : Int) < (s.size : Int) := by omega
  have s1 : (1 : Int) ≤ (s.size : Int) := by omega
  have ne : ∀ x : UInt8, ¬ c = x → ¬ ((c.toNat : Int) = (x.toNat : Int)) := fun x hx h => hx (UInt8.toNat_inj.mp (by omega))
  rw [quarryref12_symbol.j0, if_pos s0, hb, e1]
  clear hb e1 h hlt
  by_cases h40 : c = 40
  · subst h40
    rw [if_pos (by decide)]
    simp [s1, symL]
  rw [if_neg (show ¬ ((c.toNat : Int) = 40) from ne 40 h40)]
  by_cases h41 : c = 41
  · subst h41
    rw [if_pos (by decide)]
    simp [s1, symL]
  rw [if_neg (show ¬ ((c.toNat : Int) = 41) from ne 41 h41)]
  by_cases h44 : c = 44
  · subst h44
    rw [if_pos (by decide)]
    simp [s1, symL]
  rw [if_neg (show ¬ ((c.toNat : Int) = 44) from ne 44 h44)]
  by_cases h46 : c = 46
  · subst h46
    rw [if_pos (by decide)]
    simp [s1, symL]
  rw [if_neg (show ¬ ((c.toNat : Int) = 46) from ne 46 h46)]
  by_cases h42 : c = 42
  · subst h42
    rw [if_pos (by decide)]
    simp [s1, symL]
  rw [if_neg (show ¬ ((c.toNat : Int) = 42) from ne 42 h42)]
  by_cases h61 : c = 61
  · subst h61
    rw [if_pos (by decide)]
    simp [s1, symL]
  rw [if_neg (show ¬ ((c.toNat : Int) = 61) from ne 61 h61)]
  by_cases h60 : c = 60
  · subst h60
    rw [if_pos (by decide)]
    simp [s1, symL]
  rw [if_neg (show ¬ ((c.toNat : Int) = 60) from ne 60 h60)]
  by_cases h62 : c = 62
  · subst h62
    rw [if_pos (by decide)]
    simp [s1, symL]
  rw [if_neg (show ¬ ((c.toNat : Int) = 62) from ne 62 h62)]
  by_cases h43 : c = 43
  · subst h43
    rw [if_pos (by decide)]
    simp [s1, symL]
  rw [if_neg (show ¬ ((c.toNat : Int) = 43) from ne 43 h43)]
  by_cases h45 : c = 45
  · subst h45
    rw [if_pos (by decide)]
    simp [s1, symL]
  rw [if_neg (show ¬ ((c.toNat : Int) = 45) from ne 45 h45)]
  by_cases h47 : c = 47
  · subst h47
    rw [if_pos (by decide)]
    simp [s1, symL]
  rw [if_neg (show ¬ ((c.toNat : Int) = 47) from ne 47 h47)]
  by_cases h37 : c = 37
  · subst h37
    rw [if_pos (by decide)]
    simp [s1, symL]
  rw [if_neg (show ¬ ((c.toNat : Int) = 37) from ne 37 h37)]
  by_cases h59 : c = 59
  · subst h59
    rw [if_pos (by decide)]
    simp [s1, symL]
  rw [if_neg (show ¬ ((c.toNat : Int) = 59) from ne 59 h59)]
  rw [if_neg (by simp only [symL, List.mem_cons, List.not_mem_nil, or_false, not_or]; exact ⟨h40, h41, h44, h46, h42, h61, h60, h62, h43, h45, h47, h37, h59⟩)]
theorem symbol_f (k : Nat) (s : ByteArray) {c : UInt8} {r : List UInt8} (h : s.data.toList = c :: r) : quarryref12_symbol.f (k + 1) s = some ⟨((c :: r).take (symP (c :: r))).toArray⟩ := by
  have hj := symj_f k s h
  have one : symP (c :: r) = (if c ∈ symL then 1 else 0) → quarryref12_symbol.j0 (k + 1) s = some ⟨((c :: r).take (symP (c :: r))).toArray⟩ := fun he => by
    rw [hj, he]
    by_cases hm : c ∈ symL
    · rw [if_pos hm, if_pos hm]; rfl
    · rw [if_neg hm, if_neg hm]; rfl
  have hsz : s.size = (c :: r).length := by rw [← h]; rfl
  unfold quarryref12_symbol.f
  cases r with
  | nil =>
    rw [if_neg (by rw [hsz]; simp)]
    exact one (by rw [symP, if_neg (by simp)]; rfl)
  | cons d r =>
    have e2 : s.extract 0 2 = ⟨[c, d].toArray⟩ := by rw [ext_eq, h]; rfl
    rw [if_pos (by rw [hsz]; simp only [List.length_cons]; omega), if_pos (by decide), if_pos (by rw [hsz]; simp only [List.length_cons]; omega), e2, Lib.toList_data]
    have two : (c = 60 ∧ (d :: r).head? = some 62) ∨ (c = 60 ∧ (d :: r).head? = some 61) ∨ (c = 62 ∧ (d :: r).head? = some 61) ∨ (c = 124 ∧ (d :: r).head? = some 124) → some (⟨[c, d].toArray⟩ : ByteArray) = some ⟨((c :: d :: r).take (symP (c :: d :: r))).toArray⟩ := fun h => by
      rw [symP, if_pos h]; rfl
    simp only [List.head?_cons, Option.some.injEq] at two
    show (if [c, d] = [60, 62] then _ else _) = _
    by_cases h1 : [c, d] = [60, 62]
    · rw [if_pos h1]; exact congrArg some (two (.inl (by simpa using h1)))
    rw [if_neg h1]
    by_cases h2 : [c, d] = [60, 61]
    · rw [if_pos h2]; exact congrArg some (two (.inr (.inl (by simpa using h2))))
    rw [if_neg h2]
    by_cases h3 : [c, d] = [62, 61]
    · rw [if_pos h3]; exact congrArg some (two (.inr (.inr (.inl (by simpa using h3)))))
    rw [if_neg h3]
    by_cases h4 : [c, d] = [124, 124]
    · rw [if_pos h4]; exact congrArg some (two (.inr (.inr (.inr (by simpa using h4)))))
    rw [if_neg h4]
    refine one ?_
    rw [symP, if_neg (by
      simp only [List.head?_cons, Option.some.injEq]
      rintro (⟨rfl, rfl⟩ | ⟨rfl, rfl⟩ | ⟨rfl, rfl⟩ | ⟨rfl, rfl⟩)
      · exact h1 rfl
      · exact h2 rfl
      · exact h3 rfl
      · exact h4 rfl)]
    rfl
end Go.Proofs.YtcefmhofidoloaaGreatDoor.Lex

/- The small functions of the reference's lexer, as contracts. -/
set_option linter.unusedVariables false
set_option linter.unusedSimpArgs false
namespace Go.Proofs.YtcefmhofidoloaaGreatDoor.Lex
open Go.RowKit Go.Proofs.YtcefmhofidoloaaGreatDoor.Base
open Go.Proofs.YtcefmhofidoloaaGreatDoorW.PrintWords Go.Proofs.YtcefmhofidoloaaGreatDoor.Psmall Go.Proofs.YtcefmhofidoloaaGreatDoor.Pnumber Go.Proofs.YtcefmhofidoloaaGreatDoor.Pquoted Go.Proofs.YtcefmhofidoloaaGreatDoor.Phex Go.Proofs.YtcefmhofidoloaaGreatDoor.Pletter Go.Proofs.YtcefmhofidoloaaGreatDoor.Psymbol

theorem rletter_calls (c : UInt8) (w : World) : Calls Tryz.prog 116 #[.int .u8 (c.toNat : Int)] w fun e w' => e = .returned (.bool (isLet c)) ∧ Below w.heap.size w w' := by
  refine (quarryref12_letter.calls _ _ w (letter_f c)).mono ?_
  rintro e w' ⟨rfl, hd⟩
  exact ⟨rfl, hd.below⟩
theorem rdigit_calls (c : UInt8) (w : World) : Calls Tryz.prog 117 #[.int .u8 (c.toNat : Int)] w fun e w' => e = .returned (.bool (isDig c)) ∧ Below w.heap.size w w' := by
  refine (quarryref12_digit.calls _ _ w (digit_f c)).mono ?_
  rintro e w' ⟨rfl, hd⟩
  exact ⟨rfl, hd.below⟩
theorem rhex_calls (c : UInt8) (w : World) : Calls Tryz.prog 177 #[.int .u8 (c.toNat : Int)] w fun e w' => e = .returned (.int .i64 (hexI c)) ∧ Below w.heap.size w w' := by
  refine (quarryref12_hex.calls 1 _ _ w (hex_f 0 c)).mono ?_
  rintro e w' ⟨rfl, hd⟩
  exact ⟨rfl, hd.below⟩
theorem rsmall_calls (s : ByteArray) (hs : s.size ≤ 16384) (w : World) : Calls Tryz.prog 118 #[.string s] w fun e w' => e = .returned (.string ⟨(s.data.toList.map lowB).toArray⟩) ∧ Below w.heap.size w w' := by
  have hl : s.data.toList.length = s.size := rfl
  have h := small_f s hs s.data.toList 0 [] (s.size + 1) (by simp) (by simp) (by omega) (by omega)
  exact quarryref12_small.calls (s.size + 1) s _ w h
theorem rnumber_calls (s : ByteArray) (hs : s.size ≤ 16384) (hne : s.data.toList ≠ []) (hd : ∀ c ∈ s.data.toList, isDig c = true) (w : World) : Calls Tryz.prog 119 #[.string s] w fun e w' =>
    (e = .returned (.tuple #[.int .i64 ((numP s.data.toList).getD 0), .bool (numP s.data.toList).isSome])) ∧ Below w.heap.size w w' := by
  have hl : s.data.toList.length = s.size := rfl
  have h := number_f s hs s.data.toList 0 0 (s.size + 1) (by simp) hd (by omega) (by omega)
  rw [numP_digits hne hd]
  by_cases hv : decV 0 s.data.toList < 9223372036854775808
  · rw [if_pos hv] at h
    rw [if_pos hv]
    refine (quarryref12_number.calls (s.size + 1) s _ _ w h).mono ?_
    rintro e w' ⟨rfl, hd⟩
    exact ⟨rfl, hd.below⟩
  · rw [if_neg hv] at h
    rw [if_neg hv]
    refine (quarryref12_number.calls (s.size + 1) s _ _ w h).mono ?_
    rintro e w' ⟨rfl, hd⟩
    exact ⟨rfl, hd.below⟩
/-- What quoted answers at a place. -/
def quoE (i : Nat) : Option (List UInt8 × Nat) → Ending
  | some x => .returned (.tuple #[.string ⟨x.1.toArray⟩, .int .i64 ((i + 1 + x.2 : Nat) : Int), .bool true])
  | none => .returned (.tuple #[.string ⟨#[]⟩, .int .i64 0, .bool false])
theorem rquoted_calls (s : ByteArray) (hs : s.size ≤ 16384) (i : Nat) (hi : i < s.size) (w : World) : Calls Tryz.prog 120 #[.string s, .int .i64 (i : Int)] w fun e w' =>
    e = quoE i (textP (s.data.toList.drop (i + 1))) ∧ Below w.heap.size w w' := by
  have hl : s.data.toList.length = s.size := rfl
  have hr : (s.data.toList.drop (i + 1)).length = s.size - (i + 1) := by rw [List.length_drop, hl]
  have h := quoted_f s hs (s.data.toList.drop (i + 1)).length _ (Nat.le_refl _) (i + 1) [] (s.size + 1) rfl (by simp) (by omega) (by omega)
  have hw : wrap64 ((i : Int) + 1) = ((i + 1 : Nat) : Int) := w1 (by omega)
  cases ht : textP (s.data.toList.drop (i + 1)) with
  | none =>
    rw [ht] at h
    exact quarryref12_quoted.calls (s.size + 1) s (i : Int) ⟨#[]⟩ 0 false w (by unfold quarryref12_quoted.f; rw [hw]; exact h)
  | some x =>
    rw [ht] at h
    exact quarryref12_quoted.calls (s.size + 1) s (i : Int) ⟨x.1.toArray⟩ ((i + 1 + x.2 : Nat) : Int) true w (by unfold quarryref12_quoted.f; rw [hw]; exact h)
theorem rsymbol_calls (s : ByteArray) (hs : 1 ≤ s.size) (w : World) : Calls Tryz.prog 121 #[.string s] w fun e w' =>
    e = .returned (.string ⟨(s.data.toList.take (symP s.data.toList)).toArray⟩) ∧ Below w.heap.size w w' := by
  have hl : s.data.toList.length = s.size := rfl
  cases h : s.data.toList with
  | nil => rw [h] at hl; simp at hl; omega
  | cons c r =>
    refine (quarryref12_symbol.calls 1 s _ w (symbol_f 0 s h)).mono ?_
    rintro e w' ⟨rfl, hd⟩
    exact ⟨rfl, hd.below⟩
end Go.Proofs.YtcefmhofidoloaaGreatDoor.Lex

/- quarryref12.blob: the walk, by hand. -/
set_option linter.unusedVariables false
set_option linter.unusedSimpArgs false
namespace Go.Proofs.YtcefmhofidoloaaGreatDoor.Lex
open Go.RowKit Go.Proofs.YtcefmhofidoloaaGreatDoor.Base Go.Proofs.YtcefmhofidoloaaGreatDoor.App Go.Proofs.YtcefmhofidoloaaGreatDoor.Byt

/-- What blob answers at a place. -/
def blE (s : ByteArray) (a : Nat) : Ending :=
  .returned (.tuple #[.string ⟨(pairsP (s.data.toList.drop (a + 1))).1.toArray⟩, .int .i64 ((a + 1 + (pairsP (s.data.toList.drop (a + 1))).2 + 1 : Nat) : Int), .bool (decide (((s.data.toList.drop (a + 1)).drop (pairsP (s.data.toList.drop (a + 1))).2).head? = some 39))])
theorem blE_stop (s : ByteArray) (a k : Nat) (l : List UInt8) (hk : a + 1 ≤ k) (hp : pairsP (s.data.toList.drop (a + 1)) = (l ++ (pairsP (s.data.toList.drop k)).1, k - (a + 1) + (pairsP (s.data.toList.drop k)).2)) (h0 : pairsP (s.data.toList.drop k) = ([], 0)) :
    Ending.returned (.tuple #[.string ⟨l.toArray⟩, .int .i64 ((k : Int) + 1), .bool (decide ((s.data.toList.drop k).head? = some 39))]) = blE s a := by
  rw [h0] at hp
  unfold blE
  rw [hp]
  simp only [List.append_nil, Nat.add_zero, List.drop_drop]
  rw [show a + 1 + (k - (a + 1)) = k by omega]
  simp
theorem isb_below {w w' : World} {A : Option Addr} {n : Nat} {xs : List UInt8} (h : IsBytes w A n xs) (hb : Below w.heap.size w w') : IsBytes w' A n xs := by
  refine ⟨h.1, h.2.1, fun h0 => ?_⟩
  obtain ⟨g, o, e, hc⟩ := h.2.2 h0
  exact ⟨g, o, e, fun j hj => (hb.cell (World.block_lt_of_cell? w _ (hc j hj))).trans (hc j hj)⟩

set_option maxRecDepth 100000 in
set_option maxHeartbeats 12800000 in
theorem rblob_calls (s : ByteArray) (a : Nat) (ha : a < s.size) (hs : s.size ≤ 16384) (w : World) :
    Calls Tryz.prog 115 #[.string s, .int .i64 (a : Int)] w fun e w' => e = blE s a ∧ Below w.heap.size w w' := by
  have HLN : Asd (s.data.toList.length = s.size) := Asd.mk rfl
  go_enter Tryz.func115, Tryz.ntmps115
  go_wp2
  go_loopw [7, 8] (fun v7 v8 wr => ∃ (k : Nat) (l : List UInt8) (A : Option Addr) (m c : Nat), k ≤ s.size ∧ v7 = .slice A m c ∧ v8 = .int .i64 (k : Int) ∧ Asd (m = l.length) ∧ Asd (l.length ≤ k) ∧ Asd (a + 1 ≤ k) ∧ Asd (pairsP (s.data.toList.drop (a + 1)) = (l ++ (pairsP (s.data.toList.drop k)).1, k - (a + 1) + (pairsP (s.data.toList.drop k)).2)) ∧ Asd (wr.ownsRow w.heap.size 5 1 (.slice A m c) m (bcells l)) ∧ Asd (Below w.heap.size w wr)) (fun _ v8 _ => s.size - (intOf v8).toNat)
  case atStart => exact ⟨a + 1, [], none, 0, 0, by omega, rfl, by go_num, ⟨rfl⟩, ⟨Nat.zero_le _⟩, ⟨Nat.le_refl _⟩, ⟨by simp⟩, ⟨World.ownsRow_nil _ _ _ _⟩, ⟨Below.refl _ _⟩⟩
  case round =>
    obtain ⟨k, l, A, m, c, hk, rfl, rfl, HM, HLK, HAK, HP, HO, HB⟩ := hrel
    have hmm : m ≤ 16384 := by have := HM.out; have := HLK.out; omega
    by_cases hlt : k + 1 < s.size
    · have hkl : k < s.size := by omega
      have HD := Asd.mk (drop_cons s k hkl)
      have HD2 := Asd.mk (drop_cons s (k + 1) hlt)
      have hc1 := s[k].toNat_lt
      have hc2 := s[k + 1].toNat_lt
      cases hv1 : hexV s[k] with
      | none =>
        have HH1 := Asd.mk (hexI_none hv1)
        have HN : Asd (pairsP (s.data.toList.drop k) = ([], 0)) := Asd.mk (by rw [HD.out, HD2.out]; exact pairsP_no (by unfold hexPair; rw [hv1]; rfl))
        clear HD2 hv1
  
        go_wp2_with fail
        refine (rhex_calls s[k] _).mono ?_
        rintro e w1 ⟨rfl, hb1⟩
        rw [HH1.out]
        have HB1 : Asd (Below w.heap.size w w1) := Asd.mk (HB.out.trans (hb1.mono HB.out.size))
        have HO1 := Asd.mk (own_below HO.out hb1)
        clear hb1
        by_cases h39 : s[k] = 39
        · have HE := Asd.mk (blE_stop s a k l HAK.out HP.out (HN.out))
          have HQ : Asd (decide ((s.data.toList.drop k).head? = some 39) = true) := Asd.mk (by rw [HD.out]; rw [h39]; rfl)
          have hcc : s[k].toNat = 39 := by rw [h39]; rfl
          rw [HQ.out] at HE
          obtain ⟨A', c', e', hib, _⟩ := of_own HO1.out (by omega)
          injection e' with e1 e2 e3
          subst e1 e3
          have HIB := Asd.mk hib
          clear hib HP HO1 HD
          go_upto_region 6 with fail
          have hcv := run_string (P := Tryz.prog) 120 9 5 Tryz.underlying120 Tryz.underlying5 Tryz.underlying9 c (isb_below HIB.out (Below.refl _ w1).drew)
          refine wp_region_held_drew (S := fun w' => (convert 120 9 (.slice A m c)).run Tryz.prog w' = .ok (.string ⟨l.toArray⟩) w' ∧ Below w1.heap.size w1 w') (by kernel_rfl) ⟨hcv, (Below.refl _ _).drew⟩ (fun hHeld => ?_)
          refine wpAnyH_take (i := 0) (oi := ({ dst := some 48, op := Op.move (Operand.tmp 7), type := 120, pos := "ref.go:84", after := #[], guard := none } : Oper)) (v := ?ve10) rfl (by kernel_rfl) (by kernel_rfl) (by kernel_rfl) (fun _ _ _ h => h) (Or.inl ⟨by rfl, ?he10⟩) (by assumption) ?re10
          case he10 => (intro w hSw; (try dsimp only at hSw); go_simp; try (with_reducible rfl))
          try simp only [Act.put, List.setIfInBounds_toArray, List.set_cons_zero, List.set_cons_succ]
          refine wpAnyH_take (i := 1) (oi := ({ dst := some 49, op := Op.convert 120 9 (Operand.tmp 48), type := 9, pos := "ref.go:84", after := #[{ on := 0, ground := Ground.data }], guard := none } : Oper)) (v := ?ve11) rfl (by kernel_rfl) (by kernel_rfl) (by kernel_rfl) (fun _ _ _ h => h) (Or.inl ⟨by rfl, ?he11⟩) (by assumption) ?re11
          case he11 => (intro w hSw; (try dsimp only at hSw); go_simp; try (with_reducible rfl))
          try simp only [Act.put, List.setIfInBounds_toArray, List.set_cons_zero, List.set_cons_succ]
          refine wpAnyH_take (i := 2) (oi := ({ dst := some 50, op := Op.move (Operand.tmp 8), type := 3, pos := "ref.go:84", after := #[{ on := 14, ground := Ground.gcOnly Departure.lateStores }], guard := none } : Oper)) (v := ?ve12) rfl (by kernel_rfl) (by kernel_rfl) (by kernel_rfl) (fun _ _ _ h => h) (Or.inl ⟨by rfl, ?he12⟩) (by assumption) ?re12
          case he12 => (intro w hSw; (try dsimp only at hSw); go_simp; try (with_reducible rfl))
          try simp only [Act.put, List.setIfInBounds_toArray, List.set_cons_zero, List.set_cons_succ]
          refine wpAnyH_take (i := 3) (oi := ({ dst := some 51, op := Op.binOp BinOp.add 3 (Operand.tmp 50) (Operand.const (Value.int IntKind.i64 1)) 3, type := 3, pos := "ref.go:84", after := #[{ on := 2, ground := Ground.data }, { on := 14, ground := Ground.gcOnly Departure.lateStores }], guard := none } : Oper)) (v := ?ve13) rfl (by kernel_rfl) (by kernel_rfl) (by kernel_rfl) (fun _ _ _ h => h) (Or.inl ⟨by rfl, ?he13⟩) (by assumption) ?re13
          case he13 => (intro w hSw; (try dsimp only at hSw); go_simp; try (with_reducible rfl))
          try simp only [Act.put, List.setIfInBounds_toArray, List.set_cons_zero, List.set_cons_succ]
          refine wpAnyH_take (i := 4) (oi := ({ dst := some 52, op := Op.move (Operand.tmp 8), type := 3, pos := "ref.go:84", after := #[], guard := none } : Oper)) (v := ?ve14) rfl (by kernel_rfl) (by kernel_rfl) (by kernel_rfl) (fun _ _ _ h => h) (Or.inl ⟨by rfl, ?he14⟩) (by assumption) ?re14
          case he14 => (intro w hSw; (try dsimp only at hSw); go_simp; try (with_reducible rfl))
          try simp only [Act.put, List.setIfInBounds_toArray, List.set_cons_zero, List.set_cons_succ]
          refine wpAnyH_take (i := 5) (oi := ({ dst := some 53, op := Op.move (Operand.tmp 0), type := 9, pos := "ref.go:84", after := #[], guard := none } : Oper)) (v := ?ve15) rfl (by kernel_rfl) (by kernel_rfl) (by kernel_rfl) (fun _ _ _ h => h) (Or.inl ⟨by rfl, ?he15⟩) (by assumption) ?re15
          case he15 => (intro w hSw; (try dsimp only at hSw); go_simp; try (with_reducible rfl))
          try simp only [Act.put, List.setIfInBounds_toArray, List.set_cons_zero, List.set_cons_succ]
          refine wpAnyH_take (i := 6) (oi := ({ dst := some 54, op := Op.call { callee := Callee.builtin Builtin.len, args := #[Operand.tmp 53], argTypes := #[9] }, type := 3, pos := "ref.go:84", after := #[{ on := 5, ground := Ground.data }], guard := none } : Oper)) (v := ?ve16) rfl (by kernel_rfl) (by kernel_rfl) (by kernel_rfl) (fun _ _ _ h => h) (Or.inl ⟨by rfl, ?he16⟩) (by assumption) ?re16
          case he16 => (intro w hSw; (try dsimp only at hSw); go_simp; try (with_reducible rfl))
          try simp only [Act.put, List.setIfInBounds_toArray, List.set_cons_zero, List.set_cons_succ]
          refine wpAnyH_take (i := 7) (oi := ({ dst := some 55, op := Op.binOp BinOp.lss 3 (Operand.tmp 52) (Operand.tmp 54) 3, type := 4, pos := "ref.go:84", after := #[{ on := 4, ground := Ground.data }, { on := 6, ground := Ground.data }], guard := none } : Oper)) (v := ?ve17) rfl (by kernel_rfl) (by kernel_rfl) (by kernel_rfl) (fun _ _ _ h => h) (Or.inl ⟨by rfl, ?he17⟩) (by assumption) ?re17
          case he17 => (intro w hSw; (try dsimp only at hSw); go_simp; try (with_reducible rfl))
          try simp only [Act.put, List.setIfInBounds_toArray, List.set_cons_zero, List.set_cons_succ]
          refine wpAnyH_take (i := 8) (oi := ({ dst := some 56, op := Op.move (Operand.tmp 55), type := 4, pos := "ref.go:84", after := #[{ on := 7, ground := Ground.data }], guard := none } : Oper)) (v := ?ve18) rfl (by kernel_rfl) (by kernel_rfl) (by kernel_rfl) (fun _ _ _ h => h) (Or.inl ⟨by rfl, ?he18⟩) (by assumption) ?re18
          case he18 => (intro w hSw; (try dsimp only at hSw); go_simp; try (with_reducible rfl))
          try simp only [Act.put, List.setIfInBounds_toArray, List.set_cons_zero, List.set_cons_succ]
          refine wpAnyH_take (i := 9) (oi := ({ dst := some 57, op := Op.move (Operand.tmp 0), type := 9, pos := "ref.go:84", after := #[{ on := 8, ground := Ground.guard }, { on := 15, ground := Ground.gcOnly Departure.lateStores }], guard := some (8, true) } : Oper)) (v := ?ve19) rfl (by kernel_rfl) (by kernel_rfl) (by kernel_rfl) (fun _ _ _ h => h) (Or.inl ⟨by rfl, ?he19⟩) (by assumption) ?re19
          case he19 => (intro w hSw; (try dsimp only at hSw); go_simp; try (with_reducible rfl))
          try simp only [Act.put, List.setIfInBounds_toArray, List.set_cons_zero, List.set_cons_succ]
          refine wpAnyH_take (i := 10) (oi := ({ dst := some 58, op := Op.move (Operand.tmp 8), type := 3, pos := "ref.go:84", after := #[{ on := 8, ground := Ground.guard }, { on := 15, ground := Ground.gcOnly Departure.lateStores }], guard := some (8, true) } : Oper)) (v := ?ve110) rfl (by kernel_rfl) (by kernel_rfl) (by kernel_rfl) (fun _ _ _ h => h) (Or.inl ⟨by rfl, ?he110⟩) (by assumption) ?re110
          case he110 => (intro w hSw; (try dsimp only at hSw); go_simp; try (with_reducible rfl))
          try simp only [Act.put, List.setIfInBounds_toArray, List.set_cons_zero, List.set_cons_succ]
          refine wpAnyH_take (i := 11) (oi := ({ dst := some 59, op := Op.index 9 (Operand.tmp 57) (Operand.tmp 58), type := 5, pos := "ref.go:84", after := #[{ on := 9, ground := Ground.data }, { on := 10, ground := Ground.data }, { on := 8, ground := Ground.guard }, { on := 15, ground := Ground.gcOnly Departure.lateStores }], guard := some (8, true) } : Oper)) (v := ?ve111) rfl (by kernel_rfl) (by kernel_rfl) (by kernel_rfl) (fun _ _ _ h => h) (Or.inl ⟨by rfl, ?he111⟩) (by assumption) ?re111
          case he111 => (intro w hSw; (try dsimp only at hSw); go_simp; try (with_reducible rfl))
          try simp only [Act.put, List.setIfInBounds_toArray, List.set_cons_zero, List.set_cons_succ]
          refine wpAnyH_take (i := 12) (oi := ({ dst := some 60, op := Op.binOp BinOp.eql 5 (Operand.tmp 59) (Operand.const (Value.int IntKind.u8 39)) 5, type := 4, pos := "ref.go:84", after := #[{ on := 11, ground := Ground.data }, { on := 8, ground := Ground.guard }, { on := 15, ground := Ground.gcOnly Departure.lateStores }], guard := some (8, true) } : Oper)) (v := ?ve112) rfl (by kernel_rfl) (by kernel_rfl) (by kernel_rfl) (fun _ _ _ h => h) (Or.inl ⟨by rfl, ?he112⟩) (by assumption) ?re112
          case he112 => (intro w hSw; (try dsimp only at hSw); go_simp; try (with_reducible rfl))
          try simp only [Act.put, List.setIfInBounds_toArray, List.set_cons_zero, List.set_cons_succ]
          refine wpAnyH_take (i := 13) (oi := ({ dst := some 61, op := Op.pick (Operand.tmp 56) (Operand.tmp 60) (Operand.const (Value.bool false)), type := 4, pos := "ref.go:84", after := #[{ on := 8, ground := Ground.data }, { on := 12, ground := Ground.data }, { on := 15, ground := Ground.gcOnly Departure.lateStores }], guard := none } : Oper)) (v := ?ve113) rfl (by kernel_rfl) (by kernel_rfl) (by kernel_rfl) (fun _ _ _ h => h) (Or.inl ⟨by rfl, ?he113⟩) (by assumption) ?re113
          case he113 => (intro w hSw; (try dsimp only at hSw); go_simp; try (with_reducible rfl))
          try simp only [Act.put, List.setIfInBounds_toArray, List.set_cons_zero, List.set_cons_succ]
          refine wpAnyH_take (i := 14) (oi := ({ dst := some 4, op := Op.assign (Operand.tmp 49), type := 9, pos := "ref.go:84", after := #[{ on := 1, ground := Ground.data }, { on := 8, ground := Ground.chain }, { on := 0, ground := Ground.phase }, { on := 1, ground := Ground.phase }, { on := 2, ground := Ground.textOnly Departure.lateStores }, { on := 3, ground := Ground.textOnly Departure.lateStores }, { on := 4, ground := Ground.textOnly Departure.lateStores }, { on := 5, ground := Ground.textOnly Departure.lateStores }, { on := 6, ground := Ground.textOnly Departure.lateStoresUnsure }, { on := 7, ground := Ground.textOnly Departure.lateStores }, { on := 8, ground := Ground.textOnly Departure.lateStores }, { on := 9, ground := Ground.textOnly Departure.lateStores }, { on := 10, ground := Ground.textOnly Departure.lateStores }, { on := 11, ground := Ground.textOnly Departure.lateStores }, { on := 12, ground := Ground.textOnly Departure.lateStores }, { on := 13, ground := Ground.textOnly Departure.lateStores }], guard := none } : Oper)) (v := ?ve114) rfl (by kernel_rfl) (by kernel_rfl) (by kernel_rfl) (fun _ _ _ h => h) (Or.inl ⟨by rfl, ?he114⟩) (by assumption) ?re114
          case he114 => (intro w hSw; (try dsimp only at hSw); go_simp; try (with_reducible rfl))
          try simp only [Act.put, List.setIfInBounds_toArray, List.set_cons_zero, List.set_cons_succ]
          refine wpAnyH_take (i := 15) (oi := ({ dst := some 5, op := Op.assign (Operand.tmp 51), type := 3, pos := "ref.go:84", after := #[{ on := 3, ground := Ground.data }, { on := 14, ground := Ground.chain }, { on := 0, ground := Ground.phase }, { on := 1, ground := Ground.phase }, { on := 2, ground := Ground.phase }, { on := 3, ground := Ground.phase }, { on := 4, ground := Ground.textOnly Departure.lateStores }, { on := 5, ground := Ground.textOnly Departure.lateStores }, { on := 6, ground := Ground.textOnly Departure.lateStoresUnsure }, { on := 7, ground := Ground.textOnly Departure.lateStores }, { on := 8, ground := Ground.textOnly Departure.lateStores }, { on := 9, ground := Ground.textOnly Departure.lateStores }, { on := 10, ground := Ground.textOnly Departure.lateStores }, { on := 11, ground := Ground.textOnly Departure.lateStores }, { on := 12, ground := Ground.textOnly Departure.lateStores }, { on := 13, ground := Ground.textOnly Departure.lateStores }, { on := 14, ground := Ground.phase }], guard := none } : Oper)) (v := ?ve115) rfl (by kernel_rfl) (by kernel_rfl) (by kernel_rfl) (fun _ _ _ h => h) (Or.inl ⟨by rfl, ?he115⟩) (by assumption) ?re115
          case he115 => (intro w hSw; (try dsimp only at hSw); go_simp; try (with_reducible rfl))
          try simp only [Act.put, List.setIfInBounds_toArray, List.set_cons_zero, List.set_cons_succ]
          refine wpAnyH_take (i := 16) (oi := ({ dst := some 6, op := Op.assign (Operand.tmp 61), type := 4, pos := "ref.go:84", after := #[{ on := 13, ground := Ground.data }, { on := 15, ground := Ground.chain }, { on := 0, ground := Ground.phase }, { on := 1, ground := Ground.phase }, { on := 2, ground := Ground.phase }, { on := 3, ground := Ground.phase }, { on := 4, ground := Ground.phase }, { on := 5, ground := Ground.phase }, { on := 6, ground := Ground.phase }, { on := 7, ground := Ground.phase }, { on := 8, ground := Ground.phase }, { on := 9, ground := Ground.phase }, { on := 10, ground := Ground.phase }, { on := 11, ground := Ground.phase }, { on := 12, ground := Ground.phase }, { on := 13, ground := Ground.phase }, { on := 14, ground := Ground.phase }, { on := 15, ground := Ground.phase }], guard := none } : Oper)) (v := ?ve116) rfl (by kernel_rfl) (by kernel_rfl) (by kernel_rfl) (fun _ _ _ h => h) (Or.inl ⟨by rfl, ?he116⟩) (by assumption) ?re116
          case he116 => (intro w hSw; (try dsimp only at hSw); go_simp; try (with_reducible rfl))
          try simp only [Act.put, List.setIfInBounds_toArray, List.set_cons_zero, List.set_cons_succ]
          refine wpAnyH_done (by kernel_rfl) ?_ _
          have HBE := Asd.mk hHeld.2
          clear hcv hHeld
          go_wp2
          (try rw [Exit.noGoto_ret])
          refine bodyPost_ret (results_tmp3 rfl _ _ _) rfl ?_
          have hwk : IntKind.i64.wrap ((k : Int) + 1) = (k : Int) + 1 := by
            simp [IntKind.wrap, IntKind.signed, IntKind.bits]
            omega
          refine ⟨Eq.trans (ret_eq ?_) HE.out, HB1.out.trans (HBE.out.mono HB1.out.size)⟩
          show Value.tuple #[.string ⟨l.toArray⟩, .int .i64 (IntKind.i64.wrap ((k : Int) + 1)), .bool true] = _
          rw [hwk]
        · have HE := Asd.mk (blE_stop s a k l HAK.out HP.out (HN.out))
          have HQ : Asd (decide ((s.data.toList.drop k).head? = some 39) = false) := Asd.mk (by rw [HD.out]; exact decide_eq_false (fun h => h39 (by simpa using h)))
          have hcc : ¬ s[k].toNat = 39 := by intro h; exact h39 (UInt8.toNat_inj.mp h)
          rw [HQ.out] at HE
          obtain ⟨A', c', e', hib, _⟩ := of_own HO1.out (by omega)
          injection e' with e1 e2 e3
          subst e1 e3
          have HIB := Asd.mk hib
          clear hib HP HO1 HD
          go_upto_region 6 with fail
          have hcv := run_string (P := Tryz.prog) 120 9 5 Tryz.underlying120 Tryz.underlying5 Tryz.underlying9 c (isb_below HIB.out (Below.refl _ w1).drew)
          refine wp_region_held_drew (S := fun w' => (convert 120 9 (.slice A m c)).run Tryz.prog w' = .ok (.string ⟨l.toArray⟩) w' ∧ Below w1.heap.size w1 w') (by kernel_rfl) ⟨hcv, (Below.refl _ _).drew⟩ (fun hHeld => ?_)
          refine wpAnyH_take (i := 0) (oi := ({ dst := some 48, op := Op.move (Operand.tmp 7), type := 120, pos := "ref.go:84", after := #[], guard := none } : Oper)) (v := ?ve20) rfl (by kernel_rfl) (by kernel_rfl) (by kernel_rfl) (fun _ _ _ h => h) (Or.inl ⟨by rfl, ?he20⟩) (by assumption) ?re20
          case he20 => (intro w hSw; (try dsimp only at hSw); go_simp; try (with_reducible rfl))
          try simp only [Act.put, List.setIfInBounds_toArray, List.set_cons_zero, List.set_cons_succ]
          refine wpAnyH_take (i := 1) (oi := ({ dst := some 49, op := Op.convert 120 9 (Operand.tmp 48), type := 9, pos := "ref.go:84", after := #[{ on := 0, ground := Ground.data }], guard := none } : Oper)) (v := ?ve21) rfl (by kernel_rfl) (by kernel_rfl) (by kernel_rfl) (fun _ _ _ h => h) (Or.inl ⟨by rfl, ?he21⟩) (by assumption) ?re21
          case he21 => (intro w hSw; (try dsimp only at hSw); go_simp; try (with_reducible rfl))
          try simp only [Act.put, List.setIfInBounds_toArray, List.set_cons_zero, List.set_cons_succ]
          refine wpAnyH_take (i := 2) (oi := ({ dst := some 50, op := Op.move (Operand.tmp 8), type := 3, pos := "ref.go:84", after := #[{ on := 14, ground := Ground.gcOnly Departure.lateStores }], guard := none } : Oper)) (v := ?ve22) rfl (by kernel_rfl) (by kernel_rfl) (by kernel_rfl) (fun _ _ _ h => h) (Or.inl ⟨by rfl, ?he22⟩) (by assumption) ?re22
          case he22 => (intro w hSw; (try dsimp only at hSw); go_simp; try (with_reducible rfl))
          try simp only [Act.put, List.setIfInBounds_toArray, List.set_cons_zero, List.set_cons_succ]
          refine wpAnyH_take (i := 3) (oi := ({ dst := some 51, op := Op.binOp BinOp.add 3 (Operand.tmp 50) (Operand.const (Value.int IntKind.i64 1)) 3, type := 3, pos := "ref.go:84", after := #[{ on := 2, ground := Ground.data }, { on := 14, ground := Ground.gcOnly Departure.lateStores }], guard := none } : Oper)) (v := ?ve23) rfl (by kernel_rfl) (by kernel_rfl) (by kernel_rfl) (fun _ _ _ h => h) (Or.inl ⟨by rfl, ?he23⟩) (by assumption) ?re23
          case he23 => (intro w hSw; (try dsimp only at hSw); go_simp; try (with_reducible rfl))
          try simp only [Act.put, List.setIfInBounds_toArray, List.set_cons_zero, List.set_cons_succ]
          refine wpAnyH_take (i := 4) (oi := ({ dst := some 52, op := Op.move (Operand.tmp 8), type := 3, pos := "ref.go:84", after := #[], guard := none } : Oper)) (v := ?ve24) rfl (by kernel_rfl) (by kernel_rfl) (by kernel_rfl) (fun _ _ _ h => h) (Or.inl ⟨by rfl, ?he24⟩) (by assumption) ?re24
          case he24 => (intro w hSw; (try dsimp only at hSw); go_simp; try (with_reducible rfl))
          try simp only [Act.put, List.setIfInBounds_toArray, List.set_cons_zero, List.set_cons_succ]
          refine wpAnyH_take (i := 5) (oi := ({ dst := some 53, op := Op.move (Operand.tmp 0), type := 9, pos := "ref.go:84", after := #[], guard := none } : Oper)) (v := ?ve25) rfl (by kernel_rfl) (by kernel_rfl) (by kernel_rfl) (fun _ _ _ h => h) (Or.inl ⟨by rfl, ?he25⟩) (by assumption) ?re25
          case he25 => (intro w hSw; (try dsimp only at hSw); go_simp; try (with_reducible rfl))
          try simp only [Act.put, List.setIfInBounds_toArray, List.set_cons_zero, List.set_cons_succ]
          refine wpAnyH_take (i := 6) (oi := ({ dst := some 54, op := Op.call { callee := Callee.builtin Builtin.len, args := #[Operand.tmp 53], argTypes := #[9] }, type := 3, pos := "ref.go:84", after := #[{ on := 5, ground := Ground.data }], guard := none } : Oper)) (v := ?ve26) rfl (by kernel_rfl) (by kernel_rfl) (by kernel_rfl) (fun _ _ _ h => h) (Or.inl ⟨by rfl, ?he26⟩) (by assumption) ?re26
          case he26 => (intro w hSw; (try dsimp only at hSw); go_simp; try (with_reducible rfl))
          try simp only [Act.put, List.setIfInBounds_toArray, List.set_cons_zero, List.set_cons_succ]
          refine wpAnyH_take (i := 7) (oi := ({ dst := some 55, op := Op.binOp BinOp.lss 3 (Operand.tmp 52) (Operand.tmp 54) 3, type := 4, pos := "ref.go:84", after := #[{ on := 4, ground := Ground.data }, { on := 6, ground := Ground.data }], guard := none } : Oper)) (v := ?ve27) rfl (by kernel_rfl) (by kernel_rfl) (by kernel_rfl) (fun _ _ _ h => h) (Or.inl ⟨by rfl, ?he27⟩) (by assumption) ?re27
          case he27 => (intro w hSw; (try dsimp only at hSw); go_simp; try (with_reducible rfl))
          try simp only [Act.put, List.setIfInBounds_toArray, List.set_cons_zero, List.set_cons_succ]
          refine wpAnyH_take (i := 8) (oi := ({ dst := some 56, op := Op.move (Operand.tmp 55), type := 4, pos := "ref.go:84", after := #[{ on := 7, ground := Ground.data }], guard := none } : Oper)) (v := ?ve28) rfl (by kernel_rfl) (by kernel_rfl) (by kernel_rfl) (fun _ _ _ h => h) (Or.inl ⟨by rfl, ?he28⟩) (by assumption) ?re28
          case he28 => (intro w hSw; (try dsimp only at hSw); go_simp; try (with_reducible rfl))
          try simp only [Act.put, List.setIfInBounds_toArray, List.set_cons_zero, List.set_cons_succ]
          refine wpAnyH_take (i := 9) (oi := ({ dst := some 57, op := Op.move (Operand.tmp 0), type := 9, pos := "ref.go:84", after := #[{ on := 8, ground := Ground.guard }, { on := 15, ground := Ground.gcOnly Departure.lateStores }], guard := some (8, true) } : Oper)) (v := ?ve29) rfl (by kernel_rfl) (by kernel_rfl) (by kernel_rfl) (fun _ _ _ h => h) (Or.inl ⟨by rfl, ?he29⟩) (by assumption) ?re29
          case he29 => (intro w hSw; (try dsimp only at hSw); go_simp; try (with_reducible rfl))
          try simp only [Act.put, List.setIfInBounds_toArray, List.set_cons_zero, List.set_cons_succ]
          refine wpAnyH_take (i := 10) (oi := ({ dst := some 58, op := Op.move (Operand.tmp 8), type := 3, pos := "ref.go:84", after := #[{ on := 8, ground := Ground.guard }, { on := 15, ground := Ground.gcOnly Departure.lateStores }], guard := some (8, true) } : Oper)) (v := ?ve210) rfl (by kernel_rfl) (by kernel_rfl) (by kernel_rfl) (fun _ _ _ h => h) (Or.inl ⟨by rfl, ?he210⟩) (by assumption) ?re210
          case he210 => (intro w hSw; (try dsimp only at hSw); go_simp; try (with_reducible rfl))
          try simp only [Act.put, List.setIfInBounds_toArray, List.set_cons_zero, List.set_cons_succ]
          refine wpAnyH_take (i := 11) (oi := ({ dst := some 59, op := Op.index 9 (Operand.tmp 57) (Operand.tmp 58), type := 5, pos := "ref.go:84", after := #[{ on := 9, ground := Ground.data }, { on := 10, ground := Ground.data }, { on := 8, ground := Ground.guard }, { on := 15, ground := Ground.gcOnly Departure.lateStores }], guard := some (8, true) } : Oper)) (v := ?ve211) rfl (by kernel_rfl) (by kernel_rfl) (by kernel_rfl) (fun _ _ _ h => h) (Or.inl ⟨by rfl, ?he211⟩) (by assumption) ?re211
          case he211 => (intro w hSw; (try dsimp only at hSw); go_simp; try (with_reducible rfl))
          try simp only [Act.put, List.setIfInBounds_toArray, List.set_cons_zero, List.set_cons_succ]
          refine wpAnyH_take (i := 12) (oi := ({ dst := some 60, op := Op.binOp BinOp.eql 5 (Operand.tmp 59) (Operand.const (Value.int IntKind.u8 39)) 5, type := 4, pos := "ref.go:84", after := #[{ on := 11, ground := Ground.data }, { on := 8, ground := Ground.guard }, { on := 15, ground := Ground.gcOnly Departure.lateStores }], guard := some (8, true) } : Oper)) (v := ?ve212) rfl (by kernel_rfl) (by kernel_rfl) (by kernel_rfl) (fun _ _ _ h => h) (Or.inl ⟨by rfl, ?he212⟩) (by assumption) ?re212
          case he212 => (intro w hSw; (try dsimp only at hSw); go_simp; try (with_reducible rfl))
          try simp only [Act.put, List.setIfInBounds_toArray, List.set_cons_zero, List.set_cons_succ]
          refine wpAnyH_take (i := 13) (oi := ({ dst := some 61, op := Op.pick (Operand.tmp 56) (Operand.tmp 60) (Operand.const (Value.bool false)), type := 4, pos := "ref.go:84", after := #[{ on := 8, ground := Ground.data }, { on := 12, ground := Ground.data }, { on := 15, ground := Ground.gcOnly Departure.lateStores }], guard := none } : Oper)) (v := ?ve213) rfl (by kernel_rfl) (by kernel_rfl) (by kernel_rfl) (fun _ _ _ h => h) (Or.inl ⟨by rfl, ?he213⟩) (by assumption) ?re213
          case he213 => (intro w hSw; (try dsimp only at hSw); go_simp; try (with_reducible rfl))
          try simp only [Act.put, List.setIfInBounds_toArray, List.set_cons_zero, List.set_cons_succ]
          refine wpAnyH_take (i := 14) (oi := ({ dst := some 4, op := Op.assign (Operand.tmp 49), type := 9, pos := "ref.go:84", after := #[{ on := 1, ground := Ground.data }, { on := 8, ground := Ground.chain }, { on := 0, ground := Ground.phase }, { on := 1, ground := Ground.phase }, { on := 2, ground := Ground.textOnly Departure.lateStores }, { on := 3, ground := Ground.textOnly Departure.lateStores }, { on := 4, ground := Ground.textOnly Departure.lateStores }, { on := 5, ground := Ground.textOnly Departure.lateStores }, { on := 6, ground := Ground.textOnly Departure.lateStoresUnsure }, { on := 7, ground := Ground.textOnly Departure.lateStores }, { on := 8, ground := Ground.textOnly Departure.lateStores }, { on := 9, ground := Ground.textOnly Departure.lateStores }, { on := 10, ground := Ground.textOnly Departure.lateStores }, { on := 11, ground := Ground.textOnly Departure.lateStores }, { on := 12, ground := Ground.textOnly Departure.lateStores }, { on := 13, ground := Ground.textOnly Departure.lateStores }], guard := none } : Oper)) (v := ?ve214) rfl (by kernel_rfl) (by kernel_rfl) (by kernel_rfl) (fun _ _ _ h => h) (Or.inl ⟨by rfl, ?he214⟩) (by assumption) ?re214
          case he214 => (intro w hSw; (try dsimp only at hSw); go_simp; try (with_reducible rfl))
          try simp only [Act.put, List.setIfInBounds_toArray, List.set_cons_zero, List.set_cons_succ]
          refine wpAnyH_take (i := 15) (oi := ({ dst := some 5, op := Op.assign (Operand.tmp 51), type := 3, pos := "ref.go:84", after := #[{ on := 3, ground := Ground.data }, { on := 14, ground := Ground.chain }, { on := 0, ground := Ground.phase }, { on := 1, ground := Ground.phase }, { on := 2, ground := Ground.phase }, { on := 3, ground := Ground.phase }, { on := 4, ground := Ground.textOnly Departure.lateStores }, { on := 5, ground := Ground.textOnly Departure.lateStores }, { on := 6, ground := Ground.textOnly Departure.lateStoresUnsure }, { on := 7, ground := Ground.textOnly Departure.lateStores }, { on := 8, ground := Ground.textOnly Departure.lateStores }, { on := 9, ground := Ground.textOnly Departure.lateStores }, { on := 10, ground := Ground.textOnly Departure.lateStores }, { on := 11, ground := Ground.textOnly Departure.lateStores }, { on := 12, ground := Ground.textOnly Departure.lateStores }, { on := 13, ground := Ground.textOnly Departure.lateStores }, { on := 14, ground := Ground.phase }], guard := none } : Oper)) (v := ?ve215) rfl (by kernel_rfl) (by kernel_rfl) (by kernel_rfl) (fun _ _ _ h => h) (Or.inl ⟨by rfl, ?he215⟩) (by assumption) ?re215
          case he215 => (intro w hSw; (try dsimp only at hSw); go_simp; try (with_reducible rfl))
          try simp only [Act.put, List.setIfInBounds_toArray, List.set_cons_zero, List.set_cons_succ]
          refine wpAnyH_take (i := 16) (oi := ({ dst := some 6, op := Op.assign (Operand.tmp 61), type := 4, pos := "ref.go:84", after := #[{ on := 13, ground := Ground.data }, { on := 15, ground := Ground.chain }, { on := 0, ground := Ground.phase }, { on := 1, ground := Ground.phase }, { on := 2, ground := Ground.phase }, { on := 3, ground := Ground.phase }, { on := 4, ground := Ground.phase }, { on := 5, ground := Ground.phase }, { on := 6, ground := Ground.phase }, { on := 7, ground := Ground.phase }, { on := 8, ground := Ground.phase }, { on := 9, ground := Ground.phase }, { on := 10, ground := Ground.phase }, { on := 11, ground := Ground.phase }, { on := 12, ground := Ground.phase }, { on := 13, ground := Ground.phase }, { on := 14, ground := Ground.phase }, { on := 15, ground := Ground.phase }], guard := none } : Oper)) (v := ?ve216) rfl (by kernel_rfl) (by kernel_rfl) (by kernel_rfl) (fun _ _ _ h => h) (Or.inl ⟨by rfl, ?he216⟩) (by assumption) ?re216
          case he216 => (intro w hSw; (try dsimp only at hSw); go_simp; try (with_reducible rfl))
          try simp only [Act.put, List.setIfInBounds_toArray, List.set_cons_zero, List.set_cons_succ]
          refine wpAnyH_done (by kernel_rfl) ?_ _
          have HBE := Asd.mk hHeld.2
          clear hcv hHeld
          go_wp2
          (try rw [Exit.noGoto_ret])
          refine bodyPost_ret (results_tmp3 rfl _ _ _) rfl ?_
          have hwk : IntKind.i64.wrap ((k : Int) + 1) = (k : Int) + 1 := by
            simp [IntKind.wrap, IntKind.signed, IntKind.bits]
            omega
          have hbq : ((s[k].toNat : Int) == 39) = false := beq_eq_false_iff_ne.mpr (by omega)
          refine ⟨Eq.trans (ret_eq ?_) HE.out, HB1.out.trans (HBE.out.mono HB1.out.size)⟩
          show Value.tuple #[.string ⟨l.toArray⟩, .int .i64 (IntKind.i64.wrap ((k : Int) + 1)), .bool ((s[k].toNat : Int) == 39)] = _
          rw [hwk, hbq]
      | some v1 =>
        have HH1 := Asd.mk (hexI_some hv1)
        have hv16 := hexV_lt hv1
        have h39 : ¬ s[k] = 39 := by intro h; rw [h, q39] at hv1; cases hv1
        cases hv2 : hexV s[k + 1] with
        | none =>
          have HH2 := Asd.mk (hexI_none hv2)
          have HN : Asd (pairsP (s.data.toList.drop k) = ([], 0)) := Asd.mk (by rw [HD.out, HD2.out]; exact pairsP_no (by unfold hexPair; rw [hv1, hv2]; rfl))
          clear HD2 hv1 hv2
          go_wp2_with fail
          refine (rhex_calls s[k] _).mono ?_
          rintro e w1 ⟨rfl, hb1⟩
          rw [HH1.out]
          have HB1 : Asd (Below w.heap.size w w1) := Asd.mk (HB.out.trans (hb1.mono HB.out.size))
          have HO1 := Asd.mk (own_below HO.out hb1)
          clear hb1
          have hv0 : (0 : Int) ≤ (v1 : Int) := by omega
          go_wp2_with fail
          refine (rhex_calls s[k + 1] _).mono ?_
          rintro e w2 ⟨rfl, hb1⟩
          rw [HH2.out]
          have HB2 : Asd (Below w.heap.size w w2) := Asd.mk (HB1.out.trans (hb1.mono HB1.out.size))
          have HO2 := Asd.mk (own_below HO1.out hb1)
          clear hb1
          have HE := Asd.mk (blE_stop s a k l HAK.out HP.out (HN.out))
          have HQ : Asd (decide ((s.data.toList.drop k).head? = some 39) = false) := Asd.mk (by rw [HD.out]; exact decide_eq_false (fun h => h39 (by simpa using h)))
          have hcc : ¬ s[k].toNat = 39 := by intro h; exact h39 (UInt8.toNat_inj.mp h)
          rw [HQ.out] at HE
          obtain ⟨A', c', e', hib, _⟩ := of_own HO2.out (by omega)
          injection e' with e1 e2 e3
          subst e1 e3
          have HIB := Asd.mk hib
          clear hib HP HO2 HD
          go_upto_region 6 with fail
          have hcv := run_string (P := Tryz.prog) 120 9 5 Tryz.underlying120 Tryz.underlying5 Tryz.underlying9 c (isb_below HIB.out (Below.refl _ w2).drew)
          refine wp_region_held_drew (S := fun w' => (convert 120 9 (.slice A m c)).run Tryz.prog w' = .ok (.string ⟨l.toArray⟩) w' ∧ Below w2.heap.size w2 w') (by kernel_rfl) ⟨hcv, (Below.refl _ _).drew⟩ (fun hHeld => ?_)
          refine wpAnyH_take (i := 0) (oi := ({ dst := some 48, op := Op.move (Operand.tmp 7), type := 120, pos := "ref.go:84", after := #[], guard := none } : Oper)) (v := ?ve30) rfl (by kernel_rfl) (by kernel_rfl) (by kernel_rfl) (fun _ _ _ h => h) (Or.inl ⟨by rfl, ?he30⟩) (by assumption) ?re30
          case he30 => (intro w hSw; (try dsimp only at hSw); go_simp; try (with_reducible rfl))
          try simp only [Act.put, List.setIfInBounds_toArray, List.set_cons_zero, List.set_cons_succ]
          refine wpAnyH_take (i := 1) (oi := ({ dst := some 49, op := Op.convert 120 9 (Operand.tmp 48), type := 9, pos := "ref.go:84", after := #[{ on := 0, ground := Ground.data }], guard := none } : Oper)) (v := ?ve31) rfl (by kernel_rfl) (by kernel_rfl) (by kernel_rfl) (fun _ _ _ h => h) (Or.inl ⟨by rfl, ?he31⟩) (by assumption) ?re31
          case he31 => (intro w hSw; (try dsimp only at hSw); go_simp; try (with_reducible rfl))
          try simp only [Act.put, List.setIfInBounds_toArray, List.set_cons_zero, List.set_cons_succ]
          refine wpAnyH_take (i := 2) (oi := ({ dst := some 50, op := Op.move (Operand.tmp 8), type := 3, pos := "ref.go:84", after := #[{ on := 14, ground := Ground.gcOnly Departure.lateStores }], guard := none } : Oper)) (v := ?ve32) rfl (by kernel_rfl) (by kernel_rfl) (by kernel_rfl) (fun _ _ _ h => h) (Or.inl ⟨by rfl, ?he32⟩) (by assumption) ?re32
          case he32 => (intro w hSw; (try dsimp only at hSw); go_simp; try (with_reducible rfl))
          try simp only [Act.put, List.setIfInBounds_toArray, List.set_cons_zero, List.set_cons_succ]
          refine wpAnyH_take (i := 3) (oi := ({ dst := some 51, op := Op.binOp BinOp.add 3 (Operand.tmp 50) (Operand.const (Value.int IntKind.i64 1)) 3, type := 3, pos := "ref.go:84", after := #[{ on := 2, ground := Ground.data }, { on := 14, ground := Ground.gcOnly Departure.lateStores }], guard := none } : Oper)) (v := ?ve33) rfl (by kernel_rfl) (by kernel_rfl) (by kernel_rfl) (fun _ _ _ h => h) (Or.inl ⟨by rfl, ?he33⟩) (by assumption) ?re33
          case he33 => (intro w hSw; (try dsimp only at hSw); go_simp; try (with_reducible rfl))
          try simp only [Act.put, List.setIfInBounds_toArray, List.set_cons_zero, List.set_cons_succ]
          refine wpAnyH_take (i := 4) (oi := ({ dst := some 52, op := Op.move (Operand.tmp 8), type := 3, pos := "ref.go:84", after := #[], guard := none } : Oper)) (v := ?ve34) rfl (by kernel_rfl) (by kernel_rfl) (by kernel_rfl) (fun _ _ _ h => h) (Or.inl ⟨by rfl, ?he34⟩) (by assumption) ?re34
          case he34 => (intro w hSw; (try dsimp only at hSw); go_simp; try (with_reducible rfl))
          try simp only [Act.put, List.setIfInBounds_toArray, List.set_cons_zero, List.set_cons_succ]
          refine wpAnyH_take (i := 5) (oi := ({ dst := some 53, op := Op.move (Operand.tmp 0), type := 9, pos := "ref.go:84", after := #[], guard := none } : Oper)) (v := ?ve35) rfl (by kernel_rfl) (by kernel_rfl) (by kernel_rfl) (fun _ _ _ h => h) (Or.inl ⟨by rfl, ?he35⟩) (by assumption) ?re35
          case he35 => (intro w hSw; (try dsimp only at hSw); go_simp; try (with_reducible rfl))
          try simp only [Act.put, List.setIfInBounds_toArray, List.set_cons_zero, List.set_cons_succ]
          refine wpAnyH_take (i := 6) (oi := ({ dst := some 54, op := Op.call { callee := Callee.builtin Builtin.len, args := #[Operand.tmp 53], argTypes := #[9] }, type := 3, pos := "ref.go:84", after := #[{ on := 5, ground := Ground.data }], guard := none } : Oper)) (v := ?ve36) rfl (by kernel_rfl) (by kernel_rfl) (by kernel_rfl) (fun _ _ _ h => h) (Or.inl ⟨by rfl, ?he36⟩) (by assumption) ?re36
          case he36 => (intro w hSw; (try dsimp only at hSw); go_simp; try (with_reducible rfl))
          try simp only [Act.put, List.setIfInBounds_toArray, List.set_cons_zero, List.set_cons_succ]
          refine wpAnyH_take (i := 7) (oi := ({ dst := some 55, op := Op.binOp BinOp.lss 3 (Operand.tmp 52) (Operand.tmp 54) 3, type := 4, pos := "ref.go:84", after := #[{ on := 4, ground := Ground.data }, { on := 6, ground := Ground.data }], guard := none } : Oper)) (v := ?ve37) rfl (by kernel_rfl) (by kernel_rfl) (by kernel_rfl) (fun _ _ _ h => h) (Or.inl ⟨by rfl, ?he37⟩) (by assumption) ?re37
          case he37 => (intro w hSw; (try dsimp only at hSw); go_simp; try (with_reducible rfl))
          try simp only [Act.put, List.setIfInBounds_toArray, List.set_cons_zero, List.set_cons_succ]
          refine wpAnyH_take (i := 8) (oi := ({ dst := some 56, op := Op.move (Operand.tmp 55), type := 4, pos := "ref.go:84", after := #[{ on := 7, ground := Ground.data }], guard := none } : Oper)) (v := ?ve38) rfl (by kernel_rfl) (by kernel_rfl) (by kernel_rfl) (fun _ _ _ h => h) (Or.inl ⟨by rfl, ?he38⟩) (by assumption) ?re38
          case he38 => (intro w hSw; (try dsimp only at hSw); go_simp; try (with_reducible rfl))
          try simp only [Act.put, List.setIfInBounds_toArray, List.set_cons_zero, List.set_cons_succ]
          refine wpAnyH_take (i := 9) (oi := ({ dst := some 57, op := Op.move (Operand.tmp 0), type := 9, pos := "ref.go:84", after := #[{ on := 8, ground := Ground.guard }, { on := 15, ground := Ground.gcOnly Departure.lateStores }], guard := some (8, true) } : Oper)) (v := ?ve39) rfl (by kernel_rfl) (by kernel_rfl) (by kernel_rfl) (fun _ _ _ h => h) (Or.inl ⟨by rfl, ?he39⟩) (by assumption) ?re39
          case he39 => (intro w hSw; (try dsimp only at hSw); go_simp; try (with_reducible rfl))
          try simp only [Act.put, List.setIfInBounds_toArray, List.set_cons_zero, List.set_cons_succ]
          refine wpAnyH_take (i := 10) (oi := ({ dst := some 58, op := Op.move (Operand.tmp 8), type := 3, pos := "ref.go:84", after := #[{ on := 8, ground := Ground.guard }, { on := 15, ground := Ground.gcOnly Departure.lateStores }], guard := some (8, true) } : Oper)) (v := ?ve310) rfl (by kernel_rfl) (by kernel_rfl) (by kernel_rfl) (fun _ _ _ h => h) (Or.inl ⟨by rfl, ?he310⟩) (by assumption) ?re310
          case he310 => (intro w hSw; (try dsimp only at hSw); go_simp; try (with_reducible rfl))
          try simp only [Act.put, List.setIfInBounds_toArray, List.set_cons_zero, List.set_cons_succ]
          refine wpAnyH_take (i := 11) (oi := ({ dst := some 59, op := Op.index 9 (Operand.tmp 57) (Operand.tmp 58), type := 5, pos := "ref.go:84", after := #[{ on := 9, ground := Ground.data }, { on := 10, ground := Ground.data }, { on := 8, ground := Ground.guard }, { on := 15, ground := Ground.gcOnly Departure.lateStores }], guard := some (8, true) } : Oper)) (v := ?ve311) rfl (by kernel_rfl) (by kernel_rfl) (by kernel_rfl) (fun _ _ _ h => h) (Or.inl ⟨by rfl, ?he311⟩) (by assumption) ?re311
          case he311 => (intro w hSw; (try dsimp only at hSw); go_simp; try (with_reducible rfl))
          try simp only [Act.put, List.setIfInBounds_toArray, List.set_cons_zero, List.set_cons_succ]
          refine wpAnyH_take (i := 12) (oi := ({ dst := some 60, op := Op.binOp BinOp.eql 5 (Operand.tmp 59) (Operand.const (Value.int IntKind.u8 39)) 5, type := 4, pos := "ref.go:84", after := #[{ on := 11, ground := Ground.data }, { on := 8, ground := Ground.guard }, { on := 15, ground := Ground.gcOnly Departure.lateStores }], guard := some (8, true) } : Oper)) (v := ?ve312) rfl (by kernel_rfl) (by kernel_rfl) (by kernel_rfl) (fun _ _ _ h => h) (Or.inl ⟨by rfl, ?he312⟩) (by assumption) ?re312
          case he312 => (intro w hSw; (try dsimp only at hSw); go_simp; try (with_reducible rfl))
          try simp only [Act.put, List.setIfInBounds_toArray, List.set_cons_zero, List.set_cons_succ]
          refine wpAnyH_take (i := 13) (oi := ({ dst := some 61, op := Op.pick (Operand.tmp 56) (Operand.tmp 60) (Operand.const (Value.bool false)), type := 4, pos := "ref.go:84", after := #[{ on := 8, ground := Ground.data }, { on := 12, ground := Ground.data }, { on := 15, ground := Ground.gcOnly Departure.lateStores }], guard := none } : Oper)) (v := ?ve313) rfl (by kernel_rfl) (by kernel_rfl) (by kernel_rfl) (fun _ _ _ h => h) (Or.inl ⟨by rfl, ?he313⟩) (by assumption) ?re313
          case he313 => (intro w hSw; (try dsimp only at hSw); go_simp; try (with_reducible rfl))
          try simp only [Act.put, List.setIfInBounds_toArray, List.set_cons_zero, List.set_cons_succ]
          refine wpAnyH_take (i := 14) (oi := ({ dst := some 4, op := Op.assign (Operand.tmp 49), type := 9, pos := "ref.go:84", after := #[{ on := 1, ground := Ground.data }, { on := 8, ground := Ground.chain }, { on := 0, ground := Ground.phase }, { on := 1, ground := Ground.phase }, { on := 2, ground := Ground.textOnly Departure.lateStores }, { on := 3, ground := Ground.textOnly Departure.lateStores }, { on := 4, ground := Ground.textOnly Departure.lateStores }, { on := 5, ground := Ground.textOnly Departure.lateStores }, { on := 6, ground := Ground.textOnly Departure.lateStoresUnsure }, { on := 7, ground := Ground.textOnly Departure.lateStores }, { on := 8, ground := Ground.textOnly Departure.lateStores }, { on := 9, ground := Ground.textOnly Departure.lateStores }, { on := 10, ground := Ground.textOnly Departure.lateStores }, { on := 11, ground := Ground.textOnly Departure.lateStores }, { on := 12, ground := Ground.textOnly Departure.lateStores }, { on := 13, ground := Ground.textOnly Departure.lateStores }], guard := none } : Oper)) (v := ?ve314) rfl (by kernel_rfl) (by kernel_rfl) (by kernel_rfl) (fun _ _ _ h => h) (Or.inl ⟨by rfl, ?he314⟩) (by assumption) ?re314
          case he314 => (intro w hSw; (try dsimp only at hSw); go_simp; try (with_reducible rfl))
          try simp only [Act.put, List.setIfInBounds_toArray, List.set_cons_zero, List.set_cons_succ]
          refine wpAnyH_take (i := 15) (oi := ({ dst := some 5, op := Op.assign (Operand.tmp 51), type := 3, pos := "ref.go:84", after := #[{ on := 3, ground := Ground.data }, { on := 14, ground := Ground.chain }, { on := 0, ground := Ground.phase }, { on := 1, ground := Ground.phase }, { on := 2, ground := Ground.phase }, { on := 3, ground := Ground.phase }, { on := 4, ground := Ground.textOnly Departure.lateStores }, { on := 5, ground := Ground.textOnly Departure.lateStores }, { on := 6, ground := Ground.textOnly Departure.lateStoresUnsure }, { on := 7, ground := Ground.textOnly Departure.lateStores }, { on := 8, ground := Ground.textOnly Departure.lateStores }, { on := 9, ground := Ground.textOnly Departure.lateStores }, { on := 10, ground := Ground.textOnly Departure.lateStores }, { on := 11, ground := Ground.textOnly Departure.lateStores }, { on := 12, ground := Ground.textOnly Departure.lateStores }, { on := 13, ground := Ground.textOnly Departure.lateStores }, { on := 14, ground := Ground.phase }], guard := none } : Oper)) (v := ?ve315) rfl (by kernel_rfl) (by kernel_rfl) (by kernel_rfl) (fun _ _ _ h => h) (Or.inl ⟨by rfl, ?he315⟩) (by assumption) ?re315
          case he315 => (intro w hSw; (try dsimp only at hSw); go_simp; try (with_reducible rfl))
          try simp only [Act.put, List.setIfInBounds_toArray, List.set_cons_zero, List.set_cons_succ]
          refine wpAnyH_take (i := 16) (oi := ({ dst := some 6, op := Op.assign (Operand.tmp 61), type := 4, pos := "ref.go:84", after := #[{ on := 13, ground := Ground.data }, { on := 15, ground := Ground.chain }, { on := 0, ground := Ground.phase }, { on := 1, ground := Ground.phase }, { on := 2, ground := Ground.phase }, { on := 3, ground := Ground.phase }, { on := 4, ground := Ground.phase }, { on := 5, ground := Ground.phase }, { on := 6, ground := Ground.phase }, { on := 7, ground := Ground.phase }, { on := 8, ground := Ground.phase }, { on := 9, ground := Ground.phase }, { on := 10, ground := Ground.phase }, { on := 11, ground := Ground.phase }, { on := 12, ground := Ground.phase }, { on := 13, ground := Ground.phase }, { on := 14, ground := Ground.phase }, { on := 15, ground := Ground.phase }], guard := none } : Oper)) (v := ?ve316) rfl (by kernel_rfl) (by kernel_rfl) (by kernel_rfl) (fun _ _ _ h => h) (Or.inl ⟨by rfl, ?he316⟩) (by assumption) ?re316
          case he316 => (intro w hSw; (try dsimp only at hSw); go_simp; try (with_reducible rfl))
          try simp only [Act.put, List.setIfInBounds_toArray, List.set_cons_zero, List.set_cons_succ]
          refine wpAnyH_done (by kernel_rfl) ?_ _
          have HBE := Asd.mk hHeld.2
          clear hcv hHeld
          go_wp2
          (try rw [Exit.noGoto_ret])
          refine bodyPost_ret (results_tmp3 rfl _ _ _) rfl ?_
          have hwk : IntKind.i64.wrap ((k : Int) + 1) = (k : Int) + 1 := by
            simp [IntKind.wrap, IntKind.signed, IntKind.bits]
            omega
          have hbq : ((s[k].toNat : Int) == 39) = false := beq_eq_false_iff_ne.mpr (by omega)
          refine ⟨Eq.trans (ret_eq ?_) HE.out, HB2.out.trans (HBE.out.mono HB2.out.size)⟩
          show Value.tuple #[.string ⟨l.toArray⟩, .int .i64 (IntKind.i64.wrap ((k : Int) + 1)), .bool ((s[k].toNat : Int) == 39)] = _
          rw [hwk, hbq]
        | some v2 =>
          have HH2 := Asd.mk (hexI_some hv2)
          have hv216 := hexV_lt hv2
          have HP2 : Asd (pairsP (s.data.toList.drop (a + 1)) = ((l ++ [UInt8.ofNat (16 * v1 + v2)]) ++ (pairsP (s.data.toList.drop (k + 2))).1, k + 2 - (a + 1) + (pairsP (s.data.toList.drop (k + 2))).2)) := Asd.mk (by
            have hak := HAK.out
            rw [HP.out, HD.out, HD2.out, pairsP_yes (v := 16 * v1 + v2) (by unfold hexPair; rw [hv1, hv2]; rfl)]
            simp only [List.append_assoc, List.singleton_append]
            rw [show k + 1 + 1 = k + 2 by omega]
            congr 1
            omega)
          have HBY := Asd.mk (byte_of (n := 16 * v1 + v2) (by omega))
          have HNN : Asd (16 * v1 + v2 < 256) := Asd.mk (by omega)
          have HNE : Asd (∃ nn, nn = 16 * v1 + v2) := Asd.mk ⟨_, rfl⟩
          obtain ⟨nn, hnn⟩ := HNE.out
          rw [← hnn] at HP2 HBY HNN
          have hn8 := HNN.out
          have e2 : (16 : Int) * (v1 : Int) + (v2 : Int) = (nn : Int) := by omega
          have e3 : IntKind.u8.wrap (nn : Int) = (nn : Int) := by
            simp [IntKind.wrap, IntKind.signed, IntKind.bits]
            omega
          have e4 : IntKind.i64.wrap ((16 : Int) * (v1 : Int)) = (16 : Int) * (v1 : Int) := by
            simp [IntKind.wrap, IntKind.signed, IntKind.bits]
            omega
          have e5 : IntKind.i64.wrap (nn : Int) = (nn : Int) := by
            simp [IntKind.wrap, IntKind.signed, IntKind.bits]
            omega
          have HNX := Asd.mk hnn
          clear hnn HNE
          have e6 : IntKind.i64.wrap ((k : Int) + 1) = (k : Int) + 1 := by
            simp [IntKind.wrap, IntKind.signed, IntKind.bits]
            omega
          have e7 : (0 : Int) ≤ (k : Int) + 1 := by omega
          have e8 : (k : Int) + 1 < (s.size : Int) := by omega
          have hv0 : (0 : Int) ≤ (v1 : Int) := by omega
          have hv20 : (0 : Int) ≤ (v2 : Int) := by omega
          clear HD HD2 HP hv1 hv2 h39
          go_wp2_with fail
          refine (rhex_calls s[k] _).mono ?_
          rintro e w1 ⟨rfl, hb1⟩
          rw [HH1.out]
          have HB1 : Asd (Below w.heap.size w w1) := Asd.mk (HB.out.trans (hb1.mono HB.out.size))
          have HO1 := Asd.mk (own_below HO.out hb1)
          clear hb1
          go_wp2_with fail
          refine (rhex_calls s[k + 1] _).mono ?_
          rintro e w2 ⟨rfl, hb1⟩
          rw [HH2.out]
          have HB2 : Asd (Below w.heap.size w w2) := Asd.mk (HB1.out.trans (hb1.mono HB1.out.size))
          have HO2 := Asd.mk (own_below HO1.out hb1)
          clear hb1
          have HC1 : Asd (∀ W, Calls Tryz.prog 177 #[.int .u8 (s[k].toNat : Int)] W fun e w' => e = .returned (.int .i64 (v1 : Int)) ∧ Below W.heap.size W w') := Asd.mk (fun W => by have h := rhex_calls s[k] W; rw [HH1.out] at h; exact h)
          have HC2 : Asd (∀ W, Calls Tryz.prog 177 #[.int .u8 (s[k + 1].toNat : Int)] W fun e w' => e = .returned (.int .i64 (v2 : Int)) ∧ Below W.heap.size W w') := Asd.mk (fun W => by have h := rhex_calls s[k + 1] W; rw [HH2.out] at h; exact h)
          have HOD := Asd.mk (own_below HO2.out (Below.refl _ w2).drew)
          have HBD : Asd (Below w.heap.size w w2.drew) := Asd.mk (HB2.out.drew)
        
          go_upto_region 4 with fail
          refine wp_region_held_drew (S := fun w' => Below w.heap.size w w') (by kernel_rfl) HBD.out (fun hHeld => ?_)
          refine wpAnyH_take (i := 0) (oi := ({ dst := some 31, op := Op.move (Operand.tmp 7), type := 120, pos := "ref.go:81", after := #[], guard := none } : Oper)) (v := ?vb0) rfl (by kernel_rfl) (by kernel_rfl) (by kernel_rfl) (fun _ _ _ h => h) (Or.inl ⟨by rfl, ?hb0⟩) (by assumption) ?rb0
          case hb0 => (intro w hSw; (try dsimp only at hSw); go_simp; try (with_reducible rfl))
          try simp only [Act.put, List.setIfInBounds_toArray, List.set_cons_zero, List.set_cons_succ]
          refine wpAnyH_take (i := 1) (oi := ({ dst := some 32, op := Op.move (Operand.tmp 0), type := 9, pos := "ref.go:81", after := #[], guard := none } : Oper)) (v := ?vb1) rfl (by kernel_rfl) (by kernel_rfl) (by kernel_rfl) (fun _ _ _ h => h) (Or.inl ⟨by rfl, ?hb1⟩) (by assumption) ?rb1
          case hb1 => (intro w hSw; (try dsimp only at hSw); go_simp; try (with_reducible rfl))
          try simp only [Act.put, List.setIfInBounds_toArray, List.set_cons_zero, List.set_cons_succ]
          refine wpAnyH_take (i := 2) (oi := ({ dst := some 33, op := Op.move (Operand.tmp 8), type := 3, pos := "ref.go:81", after := #[], guard := none } : Oper)) (v := ?vb2) rfl (by kernel_rfl) (by kernel_rfl) (by kernel_rfl) (fun _ _ _ h => h) (Or.inl ⟨by rfl, ?hb2⟩) (by assumption) ?rb2
          case hb2 => (intro w hSw; (try dsimp only at hSw); go_simp; try (with_reducible rfl))
          try simp only [Act.put, List.setIfInBounds_toArray, List.set_cons_zero, List.set_cons_succ]
          refine wpAnyH_take (i := 3) (oi := ({ dst := some 34, op := Op.index 9 (Operand.tmp 32) (Operand.tmp 33), type := 5, pos := "ref.go:81", after := #[{ on := 1, ground := Ground.data }, { on := 2, ground := Ground.data }], guard := none } : Oper)) (v := ?vb3) rfl (by kernel_rfl) (by kernel_rfl) (by kernel_rfl) (fun _ _ _ h => h) (Or.inl ⟨by rfl, ?hb3⟩) (by assumption) ?rb3
          case hb3 => (intro w hSw; (try dsimp only at hSw); go_simp; try (with_reducible rfl))
          try simp only [Act.put, List.setIfInBounds_toArray, List.set_cons_zero, List.set_cons_succ]
          refine wpAnyH_take (i := 6) (oi := ({ dst := some 37, op := Op.move (Operand.tmp 0), type := 9, pos := "ref.go:81", after := #[], guard := none } : Oper)) (v := ?vb6) rfl (by kernel_rfl) (by kernel_rfl) (by kernel_rfl) (fun _ _ _ h => h) (Or.inl ⟨by rfl, ?hb6⟩) (by assumption) ?rb6
          case hb6 => (intro w hSw; (try dsimp only at hSw); go_simp; try (with_reducible rfl))
          try simp only [Act.put, List.setIfInBounds_toArray, List.set_cons_zero, List.set_cons_succ]
          refine wpAnyH_take (i := 7) (oi := ({ dst := some 38, op := Op.move (Operand.tmp 8), type := 3, pos := "ref.go:81", after := #[], guard := none } : Oper)) (v := ?vb7) rfl (by kernel_rfl) (by kernel_rfl) (by kernel_rfl) (fun _ _ _ h => h) (Or.inl ⟨by rfl, ?hb7⟩) (by assumption) ?rb7
          case hb7 => (intro w hSw; (try dsimp only at hSw); go_simp; try (with_reducible rfl))
          try simp only [Act.put, List.setIfInBounds_toArray, List.set_cons_zero, List.set_cons_succ]
          refine wpAnyH_take (i := 8) (oi := ({ dst := some 39, op := Op.binOp BinOp.add 3 (Operand.tmp 38) (Operand.const (Value.int IntKind.i64 1)) 3, type := 3, pos := "ref.go:81", after := #[{ on := 7, ground := Ground.data }], guard := none } : Oper)) (v := ?vb8) rfl (by kernel_rfl) (by kernel_rfl) (by kernel_rfl) (fun _ _ _ h => h) (Or.inl ⟨by rfl, ?hb8⟩) (by assumption) ?rb8
          case hb8 => (intro w hSw; (try dsimp only at hSw); go_simp; try (with_reducible rfl))
          try simp only [Act.put, List.setIfInBounds_toArray, List.set_cons_zero, List.set_cons_succ]
          refine wpAnyH_take (i := 9) (oi := ({ dst := some 40, op := Op.index 9 (Operand.tmp 37) (Operand.tmp 39), type := 5, pos := "ref.go:81", after := #[{ on := 6, ground := Ground.data }, { on := 8, ground := Ground.data }], guard := none } : Oper)) (v := ?vb9) rfl (by kernel_rfl) (by kernel_rfl) (by kernel_rfl) (fun _ _ _ h => h) (Or.inl ⟨by rfl, ?hb9⟩) (by assumption) ?rb9
          case hb9 => (intro w hSw; (try dsimp only at hSw); go_simp; try (with_reducible rfl))
          try simp only [Act.put, List.setIfInBounds_toArray, List.set_cons_zero, List.set_cons_succ]
          refine wpAnyH_ready (rs := [4]) (by kernel_rfl) (by simp) ?_
          refine AllReadyH.cons (o := ({ dst := some 35, op := Op.call { callee := Callee.value (Operand.func 177), args := #[Operand.tmp 34], argTypes := #[5] }, type := 3, pos := "ref.go:81", after := #[{ on := 3, ground := Ground.data }], guard := none } : Oper)) rfl (fun K hK => ?_) AllReadyH.nil
          go_simp
          refine (HC1.out _).mono ?_
          rintro e w3 ⟨rfl, hb3⟩
          have HB3 : Asd (Below w.heap.size w w3) := Asd.mk (HBD.out.trans (hb3.mono HBD.out.size))
          have HO3 := Asd.mk (own_below HOD.out hb3)
          clear hb3
          go_wp2_with fail
          refine hK.out _ _ (HB3.out) (fun hHeld => ?_)
          clear hK K
          try simp only [Act.put, List.setIfInBounds_toArray, List.set_cons_zero, List.set_cons_succ]
          refine wpAnyH_take (i := 5) (oi := ({ dst := some 36, op := Op.binOp BinOp.mul 3 (Operand.const (Value.int IntKind.i64 16)) (Operand.tmp 35) 3, type := 3, pos := "ref.go:81", after := #[{ on := 4, ground := Ground.data }], guard := none } : Oper)) (v := ?vb5) rfl (by kernel_rfl) (by kernel_rfl) (by kernel_rfl) (fun _ _ _ h => h) (Or.inl ⟨by rfl, ?hb5⟩) (by assumption) ?rb5
          case hb5 => (intro w hSw; (try dsimp only at hSw); go_simp; try (with_reducible rfl))
          try simp only [Act.put, List.setIfInBounds_toArray, List.set_cons_zero, List.set_cons_succ]
          refine wpAnyH_ready (rs := [10]) (by kernel_rfl) (by simp) ?_
          refine AllReadyH.cons (o := ({ dst := some 41, op := Op.call { callee := Callee.value (Operand.func 177), args := #[Operand.tmp 40], argTypes := #[5] }, type := 3, pos := "ref.go:81", after := #[{ on := 9, ground := Ground.data }, { on := 4, ground := Ground.chain }], guard := none } : Oper)) rfl (fun K hK => ?_) AllReadyH.nil
          go_simp
          refine (HC2.out _).mono ?_
          rintro e w4 ⟨rfl, hb4⟩
          have HB4 : Asd (Below w.heap.size w w4) := Asd.mk (HB3.out.trans (hb4.mono HB3.out.size))
          have HO4 := Asd.mk (own_below HO3.out hb4)
          have HBW4 : Asd (w.heap.size ≤ w4.heap.size) := Asd.mk HB4.out.size
          clear hb4
          go_wp2_with fail
          refine hK.out _ _ (HB4.out) (fun hHeld => ?_)
          clear hK K
          try simp only [Act.put, List.setIfInBounds_toArray, List.set_cons_zero, List.set_cons_succ]
          refine wpAnyH_take (i := 11) (oi := ({ dst := some 42, op := Op.binOp BinOp.add 3 (Operand.tmp 36) (Operand.tmp 41) 3, type := 3, pos := "ref.go:81", after := #[{ on := 5, ground := Ground.data }, { on := 10, ground := Ground.data }], guard := none } : Oper)) (v := ?vb11) rfl (by kernel_rfl) (by kernel_rfl) (by kernel_rfl) (fun _ _ _ h => h) (Or.inl ⟨by rfl, ?hb11⟩) (by assumption) ?rb11
          case hb11 => (intro w hSw; (try dsimp only at hSw); go_simp; try (with_reducible rfl))
          try simp only [Act.put, List.setIfInBounds_toArray, List.set_cons_zero, List.set_cons_succ]
          refine wpAnyH_take (i := 12) (oi := ({ dst := some 43, op := Op.convert 3 5 (Operand.tmp 42), type := 5, pos := "ref.go:81", after := #[{ on := 11, ground := Ground.data }], guard := none } : Oper)) (v := ?vb12) rfl (by kernel_rfl) (by kernel_rfl) (by kernel_rfl) (fun _ _ _ h => h) (Or.inl ⟨by rfl, ?hb12⟩) (by assumption) ?rb12
          case hb12 => (intro w hSw; (try dsimp only at hSw); go_simp; try (with_reducible rfl))
          try simp only [Act.put, List.setIfInBounds_toArray, List.set_cons_zero, List.set_cons_succ]
          refine wpAnyH_ready (rs := [13]) (by kernel_rfl) (by simp) ?_
          refine AllReadyH.cons (o := ({ dst := some 44, op := Op.buildSlice 120 1 #[(0, Operand.tmp 43)], type := 120, pos := "ref.go:81", after := #[{ on := 12, ground := Ground.data }], guard := none } : Oper)) rfl (fun K hK => ?_) AllReadyH.nil
          go_simp
          go_wp2_with fail
          refine hK.out _ _ (below_alloc HB4.out _) (fun hHeld => ?_)
          clear hK K
          try simp only [Act.put, List.setIfInBounds_toArray, List.set_cons_zero, List.set_cons_succ]
          refine wpAnyH_ready (rs := [14]) (by kernel_rfl) (by simp) ?_
          refine AllReadyH.cons (o := ({ dst := some 45, op := Op.call { callee := Callee.builtin Builtin.append, args := #[Operand.tmp 31, Operand.tmp 44], argTypes := #[120, 120] }, type := 120, pos := "ref.go:81", after := #[{ on := 0, ground := Ground.data }, { on := 13, ground := Ground.data }, { on := 10, ground := Ground.chain }], guard := none } : Oper)) rfl (fun K hK => ?_) AllReadyH.nil
          refine step_src (by rfl) _ _ _ (by rfl) rowB (.slice A m c) (by rfl) (n := m) (HO4.out.alloc _) (some ⟨w4.heap.size, 0, none⟩) 1 1 (by rfl) (Feeds.of_block (size := 1) (blk_new w4 _) rfl (by simp [Value.oneCell'])) (by unfold maxLen; omega) (by omega) (Nat.le_trans HBW4.out (by simp)) ?_
          intro A9 c9 w9 ho9 hg9
          have HB9 : Asd (Below w.heap.size w w9) := Asd.mk (below_own (below_alloc HB4.out _) (HO4.out.alloc _) hg9 (Nat.le_refl _))
          have HO9 : Asd (w9.ownsRow w.heap.size 5 1 (.slice A9 (m + 1) c9) (m + 1) (bcells (l ++ [UInt8.ofNat nn]))) := Asd.mk (by
            rw [HBY.out] at ho9
            simpa [bcells, bcell] using ho9)
          clear ho9 hg9
          refine hK.out _ _ (HB9.out) (fun hHeld => ?_)
          clear hK K
          try simp only [Act.put, List.setIfInBounds_toArray, List.set_cons_zero, List.set_cons_succ]
          refine wpAnyH_take (i := 15) (oi := ({ dst := some 7, op := Op.assign (Operand.tmp 45), type := 120, pos := "ref.go:81", after := #[{ on := 14, ground := Ground.data }, { on := 14, ground := Ground.chain }, { on := 0, ground := Ground.phase }, { on := 1, ground := Ground.phase }, { on := 2, ground := Ground.phase }, { on := 3, ground := Ground.phase }, { on := 4, ground := Ground.phase }, { on := 5, ground := Ground.phase }, { on := 6, ground := Ground.phase }, { on := 7, ground := Ground.phase }, { on := 8, ground := Ground.phase }, { on := 9, ground := Ground.phase }, { on := 10, ground := Ground.phase }, { on := 11, ground := Ground.phase }, { on := 12, ground := Ground.phase }, { on := 13, ground := Ground.phase }, { on := 14, ground := Ground.phase }], guard := none } : Oper)) (v := ?vb15) rfl (by kernel_rfl) (by kernel_rfl) (by kernel_rfl) (fun _ _ _ h => h) (Or.inl ⟨by rfl, ?hb15⟩) (by assumption) ?rb15
          case hb15 => (intro w hSw; (try dsimp only at hSw); go_simp; try (with_reducible rfl))
          try simp only [Act.put, List.setIfInBounds_toArray, List.set_cons_zero, List.set_cons_succ]
          refine wpAnyH_done (by kernel_rfl) ?_ _
          go_wp2
          go_roundw
          case rel => exact ⟨k + 2, _, A9, m + 1, c9, by omega, rfl, by go_num, ⟨by have := HM.out; simp; omega⟩, ⟨by have := HLK.out; simp; omega⟩, ⟨by have := HAK.out; omega⟩, HP2, HO9, HB9⟩
          case measure => simp [intOf]; omega
    · have HN : Asd (pairsP (s.data.toList.drop k) = ([], 0)) := Asd.mk (by
        have hl : (s.data.toList.drop k).length ≤ 1 := by rw [List.length_drop, HLN.out]; omega
        cases hd : s.data.toList.drop k with
        | nil => rfl
        | cons x r => cases r with
          | nil => rfl
          | cons y r => rw [hd] at hl; simp at hl)
      by_cases hkl : k < s.size
      · have HD := Asd.mk (drop_cons s k hkl)
        have hc1 := s[k].toNat_lt
        by_cases h39 : s[k] = 39
        · have HE := Asd.mk (blE_stop s a k l HAK.out HP.out (HN.out))
          have HQ : Asd (decide ((s.data.toList.drop k).head? = some 39) = true) := Asd.mk (by rw [HD.out]; rw [h39]; rfl)
          have hcc : s[k].toNat = 39 := by rw [h39]; rfl
          rw [HQ.out] at HE
          obtain ⟨A', c', e', hib, _⟩ := of_own HO.out (by omega)
          injection e' with e1 e2 e3
          subst e1 e3
          have HIB := Asd.mk hib
          clear hib HP HO HD
          go_upto_region 6 with fail
          have hcv := run_string (P := Tryz.prog) 120 9 5 Tryz.underlying120 Tryz.underlying5 Tryz.underlying9 c (isb_below HIB.out (Below.refl _ wr).drew)
          refine wp_region_held_drew (S := fun w' => (convert 120 9 (.slice A m c)).run Tryz.prog w' = .ok (.string ⟨l.toArray⟩) w' ∧ Below wr.heap.size wr w') (by kernel_rfl) ⟨hcv, (Below.refl _ _).drew⟩ (fun hHeld => ?_)
          refine wpAnyH_take (i := 0) (oi := ({ dst := some 48, op := Op.move (Operand.tmp 7), type := 120, pos := "ref.go:84", after := #[], guard := none } : Oper)) (v := ?ve40) rfl (by kernel_rfl) (by kernel_rfl) (by kernel_rfl) (fun _ _ _ h => h) (Or.inl ⟨by rfl, ?he40⟩) (by assumption) ?re40
          case he40 => (intro w hSw; (try dsimp only at hSw); go_simp; try (with_reducible rfl))
          try simp only [Act.put, List.setIfInBounds_toArray, List.set_cons_zero, List.set_cons_succ]
          refine wpAnyH_take (i := 1) (oi := ({ dst := some 49, op := Op.convert 120 9 (Operand.tmp 48), type := 9, pos := "ref.go:84", after := #[{ on := 0, ground := Ground.data }], guard := none } : Oper)) (v := ?ve41) rfl (by kernel_rfl) (by kernel_rfl) (by kernel_rfl) (fun _ _ _ h => h) (Or.inl ⟨by rfl, ?he41⟩) (by assumption) ?re41
          case he41 => (intro w hSw; (try dsimp only at hSw); go_simp; try (with_reducible rfl))
          try simp only [Act.put, List.setIfInBounds_toArray, List.set_cons_zero, List.set_cons_succ]
          refine wpAnyH_take (i := 2) (oi := ({ dst := some 50, op := Op.move (Operand.tmp 8), type := 3, pos := "ref.go:84", after := #[{ on := 14, ground := Ground.gcOnly Departure.lateStores }], guard := none } : Oper)) (v := ?ve42) rfl (by kernel_rfl) (by kernel_rfl) (by kernel_rfl) (fun _ _ _ h => h) (Or.inl ⟨by rfl, ?he42⟩) (by assumption) ?re42
          case he42 => (intro w hSw; (try dsimp only at hSw); go_simp; try (with_reducible rfl))
          try simp only [Act.put, List.setIfInBounds_toArray, List.set_cons_zero, List.set_cons_succ]
          refine wpAnyH_take (i := 3) (oi := ({ dst := some 51, op := Op.binOp BinOp.add 3 (Operand.tmp 50) (Operand.const (Value.int IntKind.i64 1)) 3, type := 3, pos := "ref.go:84", after := #[{ on := 2, ground := Ground.data }, { on := 14, ground := Ground.gcOnly Departure.lateStores }], guard := none } : Oper)) (v := ?ve43) rfl (by kernel_rfl) (by kernel_rfl) (by kernel_rfl) (fun _ _ _ h => h) (Or.inl ⟨by rfl, ?he43⟩) (by assumption) ?re43
          case he43 => (intro w hSw; (try dsimp only at hSw); go_simp; try (with_reducible rfl))
          try simp only [Act.put, List.setIfInBounds_toArray, List.set_cons_zero, List.set_cons_succ]
          refine wpAnyH_take (i := 4) (oi := ({ dst := some 52, op := Op.move (Operand.tmp 8), type := 3, pos := "ref.go:84", after := #[], guard := none } : Oper)) (v := ?ve44) rfl (by kernel_rfl) (by kernel_rfl) (by kernel_rfl) (fun _ _ _ h => h) (Or.inl ⟨by rfl, ?he44⟩) (by assumption) ?re44
          case he44 => (intro w hSw; (try dsimp only at hSw); go_simp; try (with_reducible rfl))
          try simp only [Act.put, List.setIfInBounds_toArray, List.set_cons_zero, List.set_cons_succ]
          refine wpAnyH_take (i := 5) (oi := ({ dst := some 53, op := Op.move (Operand.tmp 0), type := 9, pos := "ref.go:84", after := #[], guard := none } : Oper)) (v := ?ve45) rfl (by kernel_rfl) (by kernel_rfl) (by kernel_rfl) (fun _ _ _ h => h) (Or.inl ⟨by rfl, ?he45⟩) (by assumption) ?re45
          case he45 => (intro w hSw; (try dsimp only at hSw); go_simp; try (with_reducible rfl))
          try simp only [Act.put, List.setIfInBounds_toArray, List.set_cons_zero, List.set_cons_succ]
          refine wpAnyH_take (i := 6) (oi := ({ dst := some 54, op := Op.call { callee := Callee.builtin Builtin.len, args := #[Operand.tmp 53], argTypes := #[9] }, type := 3, pos := "ref.go:84", after := #[{ on := 5, ground := Ground.data }], guard := none } : Oper)) (v := ?ve46) rfl (by kernel_rfl) (by kernel_rfl) (by kernel_rfl) (fun _ _ _ h => h) (Or.inl ⟨by rfl, ?he46⟩) (by assumption) ?re46
          case he46 => (intro w hSw; (try dsimp only at hSw); go_simp; try (with_reducible rfl))
          try simp only [Act.put, List.setIfInBounds_toArray, List.set_cons_zero, List.set_cons_succ]
          refine wpAnyH_take (i := 7) (oi := ({ dst := some 55, op := Op.binOp BinOp.lss 3 (Operand.tmp 52) (Operand.tmp 54) 3, type := 4, pos := "ref.go:84", after := #[{ on := 4, ground := Ground.data }, { on := 6, ground := Ground.data }], guard := none } : Oper)) (v := ?ve47) rfl (by kernel_rfl) (by kernel_rfl) (by kernel_rfl) (fun _ _ _ h => h) (Or.inl ⟨by rfl, ?he47⟩) (by assumption) ?re47
          case he47 => (intro w hSw; (try dsimp only at hSw); go_simp; try (with_reducible rfl))
          try simp only [Act.put, List.setIfInBounds_toArray, List.set_cons_zero, List.set_cons_succ]
          refine wpAnyH_take (i := 8) (oi := ({ dst := some 56, op := Op.move (Operand.tmp 55), type := 4, pos := "ref.go:84", after := #[{ on := 7, ground := Ground.data }], guard := none } : Oper)) (v := ?ve48) rfl (by kernel_rfl) (by kernel_rfl) (by kernel_rfl) (fun _ _ _ h => h) (Or.inl ⟨by rfl, ?he48⟩) (by assumption) ?re48
          case he48 => (intro w hSw; (try dsimp only at hSw); go_simp; try (with_reducible rfl))
          try simp only [Act.put, List.setIfInBounds_toArray, List.set_cons_zero, List.set_cons_succ]
          refine wpAnyH_take (i := 9) (oi := ({ dst := some 57, op := Op.move (Operand.tmp 0), type := 9, pos := "ref.go:84", after := #[{ on := 8, ground := Ground.guard }, { on := 15, ground := Ground.gcOnly Departure.lateStores }], guard := some (8, true) } : Oper)) (v := ?ve49) rfl (by kernel_rfl) (by kernel_rfl) (by kernel_rfl) (fun _ _ _ h => h) (Or.inl ⟨by rfl, ?he49⟩) (by assumption) ?re49
          case he49 => (intro w hSw; (try dsimp only at hSw); go_simp; try (with_reducible rfl))
          try simp only [Act.put, List.setIfInBounds_toArray, List.set_cons_zero, List.set_cons_succ]
          refine wpAnyH_take (i := 10) (oi := ({ dst := some 58, op := Op.move (Operand.tmp 8), type := 3, pos := "ref.go:84", after := #[{ on := 8, ground := Ground.guard }, { on := 15, ground := Ground.gcOnly Departure.lateStores }], guard := some (8, true) } : Oper)) (v := ?ve410) rfl (by kernel_rfl) (by kernel_rfl) (by kernel_rfl) (fun _ _ _ h => h) (Or.inl ⟨by rfl, ?he410⟩) (by assumption) ?re410
          case he410 => (intro w hSw; (try dsimp only at hSw); go_simp; try (with_reducible rfl))
          try simp only [Act.put, List.setIfInBounds_toArray, List.set_cons_zero, List.set_cons_succ]
          refine wpAnyH_take (i := 11) (oi := ({ dst := some 59, op := Op.index 9 (Operand.tmp 57) (Operand.tmp 58), type := 5, pos := "ref.go:84", after := #[{ on := 9, ground := Ground.data }, { on := 10, ground := Ground.data }, { on := 8, ground := Ground.guard }, { on := 15, ground := Ground.gcOnly Departure.lateStores }], guard := some (8, true) } : Oper)) (v := ?ve411) rfl (by kernel_rfl) (by kernel_rfl) (by kernel_rfl) (fun _ _ _ h => h) (Or.inl ⟨by rfl, ?he411⟩) (by assumption) ?re411
          case he411 => (intro w hSw; (try dsimp only at hSw); go_simp; try (with_reducible rfl))
          try simp only [Act.put, List.setIfInBounds_toArray, List.set_cons_zero, List.set_cons_succ]
          refine wpAnyH_take (i := 12) (oi := ({ dst := some 60, op := Op.binOp BinOp.eql 5 (Operand.tmp 59) (Operand.const (Value.int IntKind.u8 39)) 5, type := 4, pos := "ref.go:84", after := #[{ on := 11, ground := Ground.data }, { on := 8, ground := Ground.guard }, { on := 15, ground := Ground.gcOnly Departure.lateStores }], guard := some (8, true) } : Oper)) (v := ?ve412) rfl (by kernel_rfl) (by kernel_rfl) (by kernel_rfl) (fun _ _ _ h => h) (Or.inl ⟨by rfl, ?he412⟩) (by assumption) ?re412
          case he412 => (intro w hSw; (try dsimp only at hSw); go_simp; try (with_reducible rfl))
          try simp only [Act.put, List.setIfInBounds_toArray, List.set_cons_zero, List.set_cons_succ]
          refine wpAnyH_take (i := 13) (oi := ({ dst := some 61, op := Op.pick (Operand.tmp 56) (Operand.tmp 60) (Operand.const (Value.bool false)), type := 4, pos := "ref.go:84", after := #[{ on := 8, ground := Ground.data }, { on := 12, ground := Ground.data }, { on := 15, ground := Ground.gcOnly Departure.lateStores }], guard := none } : Oper)) (v := ?ve413) rfl (by kernel_rfl) (by kernel_rfl) (by kernel_rfl) (fun _ _ _ h => h) (Or.inl ⟨by rfl, ?he413⟩) (by assumption) ?re413
          case he413 => (intro w hSw; (try dsimp only at hSw); go_simp; try (with_reducible rfl))
          try simp only [Act.put, List.setIfInBounds_toArray, List.set_cons_zero, List.set_cons_succ]
          refine wpAnyH_take (i := 14) (oi := ({ dst := some 4, op := Op.assign (Operand.tmp 49), type := 9, pos := "ref.go:84", after := #[{ on := 1, ground := Ground.data }, { on := 8, ground := Ground.chain }, { on := 0, ground := Ground.phase }, { on := 1, ground := Ground.phase }, { on := 2, ground := Ground.textOnly Departure.lateStores }, { on := 3, ground := Ground.textOnly Departure.lateStores }, { on := 4, ground := Ground.textOnly Departure.lateStores }, { on := 5, ground := Ground.textOnly Departure.lateStores }, { on := 6, ground := Ground.textOnly Departure.lateStoresUnsure }, { on := 7, ground := Ground.textOnly Departure.lateStores }, { on := 8, ground := Ground.textOnly Departure.lateStores }, { on := 9, ground := Ground.textOnly Departure.lateStores }, { on := 10, ground := Ground.textOnly Departure.lateStores }, { on := 11, ground := Ground.textOnly Departure.lateStores }, { on := 12, ground := Ground.textOnly Departure.lateStores }, { on := 13, ground := Ground.textOnly Departure.lateStores }], guard := none } : Oper)) (v := ?ve414) rfl (by kernel_rfl) (by kernel_rfl) (by kernel_rfl) (fun _ _ _ h => h) (Or.inl ⟨by rfl, ?he414⟩) (by assumption) ?re414
          case he414 => (intro w hSw; (try dsimp only at hSw); go_simp; try (with_reducible rfl))
          try simp only [Act.put, List.setIfInBounds_toArray, List.set_cons_zero, List.set_cons_succ]
          refine wpAnyH_take (i := 15) (oi := ({ dst := some 5, op := Op.assign (Operand.tmp 51), type := 3, pos := "ref.go:84", after := #[{ on := 3, ground := Ground.data }, { on := 14, ground := Ground.chain }, { on := 0, ground := Ground.phase }, { on := 1, ground := Ground.phase }, { on := 2, ground := Ground.phase }, { on := 3, ground := Ground.phase }, { on := 4, ground := Ground.textOnly Departure.lateStores }, { on := 5, ground := Ground.textOnly Departure.lateStores }, { on := 6, ground := Ground.textOnly Departure.lateStoresUnsure }, { on := 7, ground := Ground.textOnly Departure.lateStores }, { on := 8, ground := Ground.textOnly Departure.lateStores }, { on := 9, ground := Ground.textOnly Departure.lateStores }, { on := 10, ground := Ground.textOnly Departure.lateStores }, { on := 11, ground := Ground.textOnly Departure.lateStores }, { on := 12, ground := Ground.textOnly Departure.lateStores }, { on := 13, ground := Ground.textOnly Departure.lateStores }, { on := 14, ground := Ground.phase }], guard := none } : Oper)) (v := ?ve415) rfl (by kernel_rfl) (by kernel_rfl) (by kernel_rfl) (fun _ _ _ h => h) (Or.inl ⟨by rfl, ?he415⟩) (by assumption) ?re415
          case he415 => (intro w hSw; (try dsimp only at hSw); go_simp; try (with_reducible rfl))
          try simp only [Act.put, List.setIfInBounds_toArray, List.set_cons_zero, List.set_cons_succ]
          refine wpAnyH_take (i := 16) (oi := ({ dst := some 6, op := Op.assign (Operand.tmp 61), type := 4, pos := "ref.go:84", after := #[{ on := 13, ground := Ground.data }, { on := 15, ground := Ground.chain }, { on := 0, ground := Ground.phase }, { on := 1, ground := Ground.phase }, { on := 2, ground := Ground.phase }, { on := 3, ground := Ground.phase }, { on := 4, ground := Ground.phase }, { on := 5, ground := Ground.phase }, { on := 6, ground := Ground.phase }, { on := 7, ground := Ground.phase }, { on := 8, ground := Ground.phase }, { on := 9, ground := Ground.phase }, { on := 10, ground := Ground.phase }, { on := 11, ground := Ground.phase }, { on := 12, ground := Ground.phase }, { on := 13, ground := Ground.phase }, { on := 14, ground := Ground.phase }, { on := 15, ground := Ground.phase }], guard := none } : Oper)) (v := ?ve416) rfl (by kernel_rfl) (by kernel_rfl) (by kernel_rfl) (fun _ _ _ h => h) (Or.inl ⟨by rfl, ?he416⟩) (by assumption) ?re416
          case he416 => (intro w hSw; (try dsimp only at hSw); go_simp; try (with_reducible rfl))
          try simp only [Act.put, List.setIfInBounds_toArray, List.set_cons_zero, List.set_cons_succ]
          refine wpAnyH_done (by kernel_rfl) ?_ _
          have HBE := Asd.mk hHeld.2
          clear hcv hHeld
          go_wp2
          (try rw [Exit.noGoto_ret])
          refine bodyPost_ret (results_tmp3 rfl _ _ _) rfl ?_
          have hwk : IntKind.i64.wrap ((k : Int) + 1) = (k : Int) + 1 := by
            simp [IntKind.wrap, IntKind.signed, IntKind.bits]
            omega
          refine ⟨Eq.trans (ret_eq ?_) HE.out, HB.out.trans (HBE.out.mono HB.out.size)⟩
          show Value.tuple #[.string ⟨l.toArray⟩, .int .i64 (IntKind.i64.wrap ((k : Int) + 1)), .bool true] = _
          rw [hwk]
        · have HE := Asd.mk (blE_stop s a k l HAK.out HP.out (HN.out))
          have HQ : Asd (decide ((s.data.toList.drop k).head? = some 39) = false) := Asd.mk (by rw [HD.out]; exact decide_eq_false (fun h => h39 (by simpa using h)))
          have hcc : ¬ s[k].toNat = 39 := by intro h; exact h39 (UInt8.toNat_inj.mp h)
          rw [HQ.out] at HE
          obtain ⟨A', c', e', hib, _⟩ := of_own HO.out (by omega)
          injection e' with e1 e2 e3
          subst e1 e3
          have HIB := Asd.mk hib
          clear hib HP HO HD
          go_upto_region 6 with fail
          have hcv := run_string (P := Tryz.prog) 120 9 5 Tryz.underlying120 Tryz.underlying5 Tryz.underlying9 c (isb_below HIB.out (Below.refl _ wr).drew)
          refine wp_region_held_drew (S := fun w' => (convert 120 9 (.slice A m c)).run Tryz.prog w' = .ok (.string ⟨l.toArray⟩) w' ∧ Below wr.heap.size wr w') (by kernel_rfl) ⟨hcv, (Below.refl _ _).drew⟩ (fun hHeld => ?_)
          refine wpAnyH_take (i := 0) (oi := ({ dst := some 48, op := Op.move (Operand.tmp 7), type := 120, pos := "ref.go:84", after := #[], guard := none } : Oper)) (v := ?ve50) rfl (by kernel_rfl) (by kernel_rfl) (by kernel_rfl) (fun _ _ _ h => h) (Or.inl ⟨by rfl, ?he50⟩) (by assumption) ?re50
          case he50 => (intro w hSw; (try dsimp only at hSw); go_simp; try (with_reducible rfl))
          try simp only [Act.put, List.setIfInBounds_toArray, List.set_cons_zero, List.set_cons_succ]
          refine wpAnyH_take (i := 1) (oi := ({ dst := some 49, op := Op.convert 120 9 (Operand.tmp 48), type := 9, pos := "ref.go:84", after := #[{ on := 0, ground := Ground.data }], guard := none } : Oper)) (v := ?ve51) rfl (by kernel_rfl) (by kernel_rfl) (by kernel_rfl) (fun _ _ _ h => h) (Or.inl ⟨by rfl, ?he51⟩) (by assumption) ?re51
          case he51 => (intro w hSw; (try dsimp only at hSw); go_simp; try (with_reducible rfl))
          try simp only [Act.put, List.setIfInBounds_toArray, List.set_cons_zero, List.set_cons_succ]
          refine wpAnyH_take (i := 2) (oi := ({ dst := some 50, op := Op.move (Operand.tmp 8), type := 3, pos := "ref.go:84", after := #[{ on := 14, ground := Ground.gcOnly Departure.lateStores }], guard := none } : Oper)) (v := ?ve52) rfl (by kernel_rfl) (by kernel_rfl) (by kernel_rfl) (fun _ _ _ h => h) (Or.inl ⟨by rfl, ?he52⟩) (by assumption) ?re52
          case he52 => (intro w hSw; (try dsimp only at hSw); go_simp; try (with_reducible rfl))
          try simp only [Act.put, List.setIfInBounds_toArray, List.set_cons_zero, List.set_cons_succ]
          refine wpAnyH_take (i := 3) (oi := ({ dst := some 51, op := Op.binOp BinOp.add 3 (Operand.tmp 50) (Operand.const (Value.int IntKind.i64 1)) 3, type := 3, pos := "ref.go:84", after := #[{ on := 2, ground := Ground.data }, { on := 14, ground := Ground.gcOnly Departure.lateStores }], guard := none } : Oper)) (v := ?ve53) rfl (by kernel_rfl) (by kernel_rfl) (by kernel_rfl) (fun _ _ _ h => h) (Or.inl ⟨by rfl, ?he53⟩) (by assumption) ?re53
          case he53 => (intro w hSw; (try dsimp only at hSw); go_simp; try (with_reducible rfl))
          try simp only [Act.put, List.setIfInBounds_toArray, List.set_cons_zero, List.set_cons_succ]
          refine wpAnyH_take (i := 4) (oi := ({ dst := some 52, op := Op.move (Operand.tmp 8), type := 3, pos := "ref.go:84", after := #[], guard := none } : Oper)) (v := ?ve54) rfl (by kernel_rfl) (by kernel_rfl) (by kernel_rfl) (fun _ _ _ h => h) (Or.inl ⟨by rfl, ?he54⟩) (by assumption) ?re54
          case he54 => (intro w hSw; (try dsimp only at hSw); go_simp; try (with_reducible rfl))
          try simp only [Act.put, List.setIfInBounds_toArray, List.set_cons_zero, List.set_cons_succ]
          refine wpAnyH_take (i := 5) (oi := ({ dst := some 53, op := Op.move (Operand.tmp 0), type := 9, pos := "ref.go:84", after := #[], guard := none } : Oper)) (v := ?ve55) rfl (by kernel_rfl) (by kernel_rfl) (by kernel_rfl) (fun _ _ _ h => h) (Or.inl ⟨by rfl, ?he55⟩) (by assumption) ?re55
          case he55 => (intro w hSw; (try dsimp only at hSw); go_simp; try (with_reducible rfl))
          try simp only [Act.put, List.setIfInBounds_toArray, List.set_cons_zero, List.set_cons_succ]
          refine wpAnyH_take (i := 6) (oi := ({ dst := some 54, op := Op.call { callee := Callee.builtin Builtin.len, args := #[Operand.tmp 53], argTypes := #[9] }, type := 3, pos := "ref.go:84", after := #[{ on := 5, ground := Ground.data }], guard := none } : Oper)) (v := ?ve56) rfl (by kernel_rfl) (by kernel_rfl) (by kernel_rfl) (fun _ _ _ h => h) (Or.inl ⟨by rfl, ?he56⟩) (by assumption) ?re56
          case he56 => (intro w hSw; (try dsimp only at hSw); go_simp; try (with_reducible rfl))
          try simp only [Act.put, List.setIfInBounds_toArray, List.set_cons_zero, List.set_cons_succ]
          refine wpAnyH_take (i := 7) (oi := ({ dst := some 55, op := Op.binOp BinOp.lss 3 (Operand.tmp 52) (Operand.tmp 54) 3, type := 4, pos := "ref.go:84", after := #[{ on := 4, ground := Ground.data }, { on := 6, ground := Ground.data }], guard := none } : Oper)) (v := ?ve57) rfl (by kernel_rfl) (by kernel_rfl) (by kernel_rfl) (fun _ _ _ h => h) (Or.inl ⟨by rfl, ?he57⟩) (by assumption) ?re57
          case he57 => (intro w hSw; (try dsimp only at hSw); go_simp; try (with_reducible rfl))
          try simp only [Act.put, List.setIfInBounds_toArray, List.set_cons_zero, List.set_cons_succ]
          refine wpAnyH_take (i := 8) (oi := ({ dst := some 56, op := Op.move (Operand.tmp 55), type := 4, pos := "ref.go:84", after := #[{ on := 7, ground := Ground.data }], guard := none } : Oper)) (v := ?ve58) rfl (by kernel_rfl) (by kernel_rfl) (by kernel_rfl) (fun _ _ _ h => h) (Or.inl ⟨by rfl, ?he58⟩) (by assumption) ?re58
          case he58 => (intro w hSw; (try dsimp only at hSw); go_simp; try (with_reducible rfl))
          try simp only [Act.put, List.setIfInBounds_toArray, List.set_cons_zero, List.set_cons_succ]
          refine wpAnyH_take (i := 9) (oi := ({ dst := some 57, op := Op.move (Operand.tmp 0), type := 9, pos := "ref.go:84", after := #[{ on := 8, ground := Ground.guard }, { on := 15, ground := Ground.gcOnly Departure.lateStores }], guard := some (8, true) } : Oper)) (v := ?ve59) rfl (by kernel_rfl) (by kernel_rfl) (by kernel_rfl) (fun _ _ _ h => h) (Or.inl ⟨by rfl, ?he59⟩) (by assumption) ?re59
          case he59 => (intro w hSw; (try dsimp only at hSw); go_simp; try (with_reducible rfl))
          try simp only [Act.put, List.setIfInBounds_toArray, List.set_cons_zero, List.set_cons_succ]
          refine wpAnyH_take (i := 10) (oi := ({ dst := some 58, op := Op.move (Operand.tmp 8), type := 3, pos := "ref.go:84", after := #[{ on := 8, ground := Ground.guard }, { on := 15, ground := Ground.gcOnly Departure.lateStores }], guard := some (8, true) } : Oper)) (v := ?ve510) rfl (by kernel_rfl) (by kernel_rfl) (by kernel_rfl) (fun _ _ _ h => h) (Or.inl ⟨by rfl, ?he510⟩) (by assumption) ?re510
          case he510 => (intro w hSw; (try dsimp only at hSw); go_simp; try (with_reducible rfl))
          try simp only [Act.put, List.setIfInBounds_toArray, List.set_cons_zero, List.set_cons_succ]
          refine wpAnyH_take (i := 11) (oi := ({ dst := some 59, op := Op.index 9 (Operand.tmp 57) (Operand.tmp 58), type := 5, pos := "ref.go:84", after := #[{ on := 9, ground := Ground.data }, { on := 10, ground := Ground.data }, { on := 8, ground := Ground.guard }, { on := 15, ground := Ground.gcOnly Departure.lateStores }], guard := some (8, true) } : Oper)) (v := ?ve511) rfl (by kernel_rfl) (by kernel_rfl) (by kernel_rfl) (fun _ _ _ h => h) (Or.inl ⟨by rfl, ?he511⟩) (by assumption) ?re511
          case he511 => (intro w hSw; (try dsimp only at hSw); go_simp; try (with_reducible rfl))
          try simp only [Act.put, List.setIfInBounds_toArray, List.set_cons_zero, List.set_cons_succ]
          refine wpAnyH_take (i := 12) (oi := ({ dst := some 60, op := Op.binOp BinOp.eql 5 (Operand.tmp 59) (Operand.const (Value.int IntKind.u8 39)) 5, type := 4, pos := "ref.go:84", after := #[{ on := 11, ground := Ground.data }, { on := 8, ground := Ground.guard }, { on := 15, ground := Ground.gcOnly Departure.lateStores }], guard := some (8, true) } : Oper)) (v := ?ve512) rfl (by kernel_rfl) (by kernel_rfl) (by kernel_rfl) (fun _ _ _ h => h) (Or.inl ⟨by rfl, ?he512⟩) (by assumption) ?re512
          case he512 => (intro w hSw; (try dsimp only at hSw); go_simp; try (with_reducible rfl))
          try simp only [Act.put, List.setIfInBounds_toArray, List.set_cons_zero, List.set_cons_succ]
          refine wpAnyH_take (i := 13) (oi := ({ dst := some 61, op := Op.pick (Operand.tmp 56) (Operand.tmp 60) (Operand.const (Value.bool false)), type := 4, pos := "ref.go:84", after := #[{ on := 8, ground := Ground.data }, { on := 12, ground := Ground.data }, { on := 15, ground := Ground.gcOnly Departure.lateStores }], guard := none } : Oper)) (v := ?ve513) rfl (by kernel_rfl) (by kernel_rfl) (by kernel_rfl) (fun _ _ _ h => h) (Or.inl ⟨by rfl, ?he513⟩) (by assumption) ?re513
          case he513 => (intro w hSw; (try dsimp only at hSw); go_simp; try (with_reducible rfl))
          try simp only [Act.put, List.setIfInBounds_toArray, List.set_cons_zero, List.set_cons_succ]
          refine wpAnyH_take (i := 14) (oi := ({ dst := some 4, op := Op.assign (Operand.tmp 49), type := 9, pos := "ref.go:84", after := #[{ on := 1, ground := Ground.data }, { on := 8, ground := Ground.chain }, { on := 0, ground := Ground.phase }, { on := 1, ground := Ground.phase }, { on := 2, ground := Ground.textOnly Departure.lateStores }, { on := 3, ground := Ground.textOnly Departure.lateStores }, { on := 4, ground := Ground.textOnly Departure.lateStores }, { on := 5, ground := Ground.textOnly Departure.lateStores }, { on := 6, ground := Ground.textOnly Departure.lateStoresUnsure }, { on := 7, ground := Ground.textOnly Departure.lateStores }, { on := 8, ground := Ground.textOnly Departure.lateStores }, { on := 9, ground := Ground.textOnly Departure.lateStores }, { on := 10, ground := Ground.textOnly Departure.lateStores }, { on := 11, ground := Ground.textOnly Departure.lateStores }, { on := 12, ground := Ground.textOnly Departure.lateStores }, { on := 13, ground := Ground.textOnly Departure.lateStores }], guard := none } : Oper)) (v := ?ve514) rfl (by kernel_rfl) (by kernel_rfl) (by kernel_rfl) (fun _ _ _ h => h) (Or.inl ⟨by rfl, ?he514⟩) (by assumption) ?re514
          case he514 => (intro w hSw; (try dsimp only at hSw); go_simp; try (with_reducible rfl))
          try simp only [Act.put, List.setIfInBounds_toArray, List.set_cons_zero, List.set_cons_succ]
          refine wpAnyH_take (i := 15) (oi := ({ dst := some 5, op := Op.assign (Operand.tmp 51), type := 3, pos := "ref.go:84", after := #[{ on := 3, ground := Ground.data }, { on := 14, ground := Ground.chain }, { on := 0, ground := Ground.phase }, { on := 1, ground := Ground.phase }, { on := 2, ground := Ground.phase }, { on := 3, ground := Ground.phase }, { on := 4, ground := Ground.textOnly Departure.lateStores }, { on := 5, ground := Ground.textOnly Departure.lateStores }, { on := 6, ground := Ground.textOnly Departure.lateStoresUnsure }, { on := 7, ground := Ground.textOnly Departure.lateStores }, { on := 8, ground := Ground.textOnly Departure.lateStores }, { on := 9, ground := Ground.textOnly Departure.lateStores }, { on := 10, ground := Ground.textOnly Departure.lateStores }, { on := 11, ground := Ground.textOnly Departure.lateStores }, { on := 12, ground := Ground.textOnly Departure.lateStores }, { on := 13, ground := Ground.textOnly Departure.lateStores }, { on := 14, ground := Ground.phase }], guard := none } : Oper)) (v := ?ve515) rfl (by kernel_rfl) (by kernel_rfl) (by kernel_rfl) (fun _ _ _ h => h) (Or.inl ⟨by rfl, ?he515⟩) (by assumption) ?re515
          case he515 => (intro w hSw; (try dsimp only at hSw); go_simp; try (with_reducible rfl))
          try simp only [Act.put, List.setIfInBounds_toArray, List.set_cons_zero, List.set_cons_succ]
          refine wpAnyH_take (i := 16) (oi := ({ dst := some 6, op := Op.assign (Operand.tmp 61), type := 4, pos := "ref.go:84", after := #[{ on := 13, ground := Ground.data }, { on := 15, ground := Ground.chain }, { on := 0, ground := Ground.phase }, { on := 1, ground := Ground.phase }, { on := 2, ground := Ground.phase }, { on := 3, ground := Ground.phase }, { on := 4, ground := Ground.phase }, { on := 5, ground := Ground.phase }, { on := 6, ground := Ground.phase }, { on := 7, ground := Ground.phase }, { on := 8, ground := Ground.phase }, { on := 9, ground := Ground.phase }, { on := 10, ground := Ground.phase }, { on := 11, ground := Ground.phase }, { on := 12, ground := Ground.phase }, { on := 13, ground := Ground.phase }, { on := 14, ground := Ground.phase }, { on := 15, ground := Ground.phase }], guard := none } : Oper)) (v := ?ve516) rfl (by kernel_rfl) (by kernel_rfl) (by kernel_rfl) (fun _ _ _ h => h) (Or.inl ⟨by rfl, ?he516⟩) (by assumption) ?re516
          case he516 => (intro w hSw; (try dsimp only at hSw); go_simp; try (with_reducible rfl))
          try simp only [Act.put, List.setIfInBounds_toArray, List.set_cons_zero, List.set_cons_succ]
          refine wpAnyH_done (by kernel_rfl) ?_ _
          have HBE := Asd.mk hHeld.2
          clear hcv hHeld
          go_wp2
          (try rw [Exit.noGoto_ret])
          refine bodyPost_ret (results_tmp3 rfl _ _ _) rfl ?_
          have hwk : IntKind.i64.wrap ((k : Int) + 1) = (k : Int) + 1 := by
            simp [IntKind.wrap, IntKind.signed, IntKind.bits]
            omega
          have hbq : ((s[k].toNat : Int) == 39) = false := beq_eq_false_iff_ne.mpr (by omega)
          refine ⟨Eq.trans (ret_eq ?_) HE.out, HB.out.trans (HBE.out.mono HB.out.size)⟩
          show Value.tuple #[.string ⟨l.toArray⟩, .int .i64 (IntKind.i64.wrap ((k : Int) + 1)), .bool ((s[k].toNat : Int) == 39)] = _
          rw [hwk, hbq]
      · have hke : s.size ≤ k := by omega
        have HE := Asd.mk (blE_stop s a k l HAK.out HP.out (HN.out))
        have HQ : Asd (decide ((s.data.toList.drop k).head? = some 39) = false) := Asd.mk (by rw [List.drop_of_length_le (by rw [HLN.out]; omega)]; rfl)
        rw [HQ.out] at HE
        obtain ⟨A', c', e', hib, _⟩ := of_own HO.out (by omega)
        injection e' with e1 e2 e3
        subst e1 e3
        have HIB := Asd.mk hib
        clear hib HP HO
        go_upto_region 6 with fail
        have hcv := run_string (P := Tryz.prog) 120 9 5 Tryz.underlying120 Tryz.underlying5 Tryz.underlying9 c (isb_below HIB.out (Below.refl _ wr).drew)
        refine wp_region_held_drew (S := fun w' => (convert 120 9 (.slice A m c)).run Tryz.prog w' = .ok (.string ⟨l.toArray⟩) w' ∧ Below wr.heap.size wr w') (by kernel_rfl) ⟨hcv, (Below.refl _ _).drew⟩ (fun hHeld => ?_)
        refine wpAnyH_take (i := 0) (oi := ({ dst := some 48, op := Op.move (Operand.tmp 7), type := 120, pos := "ref.go:84", after := #[], guard := none } : Oper)) (v := ?ve60) rfl (by kernel_rfl) (by kernel_rfl) (by kernel_rfl) (fun _ _ _ h => h) (Or.inl ⟨by rfl, ?he60⟩) (by assumption) ?re60
        case he60 => (intro w hSw; (try dsimp only at hSw); go_simp; try (with_reducible rfl))
        try simp only [Act.put, List.setIfInBounds_toArray, List.set_cons_zero, List.set_cons_succ]
        refine wpAnyH_take (i := 1) (oi := ({ dst := some 49, op := Op.convert 120 9 (Operand.tmp 48), type := 9, pos := "ref.go:84", after := #[{ on := 0, ground := Ground.data }], guard := none } : Oper)) (v := ?ve61) rfl (by kernel_rfl) (by kernel_rfl) (by kernel_rfl) (fun _ _ _ h => h) (Or.inl ⟨by rfl, ?he61⟩) (by assumption) ?re61
        case he61 => (intro w hSw; (try dsimp only at hSw); go_simp; try (with_reducible rfl))
        try simp only [Act.put, List.setIfInBounds_toArray, List.set_cons_zero, List.set_cons_succ]
        refine wpAnyH_take (i := 2) (oi := ({ dst := some 50, op := Op.move (Operand.tmp 8), type := 3, pos := "ref.go:84", after := #[{ on := 14, ground := Ground.gcOnly Departure.lateStores }], guard := none } : Oper)) (v := ?ve62) rfl (by kernel_rfl) (by kernel_rfl) (by kernel_rfl) (fun _ _ _ h => h) (Or.inl ⟨by rfl, ?he62⟩) (by assumption) ?re62
        case he62 => (intro w hSw; (try dsimp only at hSw); go_simp; try (with_reducible rfl))
        try simp only [Act.put, List.setIfInBounds_toArray, List.set_cons_zero, List.set_cons_succ]
        refine wpAnyH_take (i := 3) (oi := ({ dst := some 51, op := Op.binOp BinOp.add 3 (Operand.tmp 50) (Operand.const (Value.int IntKind.i64 1)) 3, type := 3, pos := "ref.go:84", after := #[{ on := 2, ground := Ground.data }, { on := 14, ground := Ground.gcOnly Departure.lateStores }], guard := none } : Oper)) (v := ?ve63) rfl (by kernel_rfl) (by kernel_rfl) (by kernel_rfl) (fun _ _ _ h => h) (Or.inl ⟨by rfl, ?he63⟩) (by assumption) ?re63
        case he63 => (intro w hSw; (try dsimp only at hSw); go_simp; try (with_reducible rfl))
        try simp only [Act.put, List.setIfInBounds_toArray, List.set_cons_zero, List.set_cons_succ]
        refine wpAnyH_take (i := 4) (oi := ({ dst := some 52, op := Op.move (Operand.tmp 8), type := 3, pos := "ref.go:84", after := #[], guard := none } : Oper)) (v := ?ve64) rfl (by kernel_rfl) (by kernel_rfl) (by kernel_rfl) (fun _ _ _ h => h) (Or.inl ⟨by rfl, ?he64⟩) (by assumption) ?re64
        case he64 => (intro w hSw; (try dsimp only at hSw); go_simp; try (with_reducible rfl))
        try simp only [Act.put, List.setIfInBounds_toArray, List.set_cons_zero, List.set_cons_succ]
        refine wpAnyH_take (i := 5) (oi := ({ dst := some 53, op := Op.move (Operand.tmp 0), type := 9, pos := "ref.go:84", after := #[], guard := none } : Oper)) (v := ?ve65) rfl (by kernel_rfl) (by kernel_rfl) (by kernel_rfl) (fun _ _ _ h => h) (Or.inl ⟨by rfl, ?he65⟩) (by assumption) ?re65
        case he65 => (intro w hSw; (try dsimp only at hSw); go_simp; try (with_reducible rfl))
        try simp only [Act.put, List.setIfInBounds_toArray, List.set_cons_zero, List.set_cons_succ]
        refine wpAnyH_take (i := 6) (oi := ({ dst := some 54, op := Op.call { callee := Callee.builtin Builtin.len, args := #[Operand.tmp 53], argTypes := #[9] }, type := 3, pos := "ref.go:84", after := #[{ on := 5, ground := Ground.data }], guard := none } : Oper)) (v := ?ve66) rfl (by kernel_rfl) (by kernel_rfl) (by kernel_rfl) (fun _ _ _ h => h) (Or.inl ⟨by rfl, ?he66⟩) (by assumption) ?re66
        case he66 => (intro w hSw; (try dsimp only at hSw); go_simp; try (with_reducible rfl))
        try simp only [Act.put, List.setIfInBounds_toArray, List.set_cons_zero, List.set_cons_succ]
        refine wpAnyH_take (i := 7) (oi := ({ dst := some 55, op := Op.binOp BinOp.lss 3 (Operand.tmp 52) (Operand.tmp 54) 3, type := 4, pos := "ref.go:84", after := #[{ on := 4, ground := Ground.data }, { on := 6, ground := Ground.data }], guard := none } : Oper)) (v := ?ve67) rfl (by kernel_rfl) (by kernel_rfl) (by kernel_rfl) (fun _ _ _ h => h) (Or.inl ⟨by rfl, ?he67⟩) (by assumption) ?re67
        case he67 => (intro w hSw; (try dsimp only at hSw); go_simp; try (with_reducible rfl))
        try simp only [Act.put, List.setIfInBounds_toArray, List.set_cons_zero, List.set_cons_succ]
        refine wpAnyH_take (i := 8) (oi := ({ dst := some 56, op := Op.move (Operand.tmp 55), type := 4, pos := "ref.go:84", after := #[{ on := 7, ground := Ground.data }], guard := none } : Oper)) (v := ?ve68) rfl (by kernel_rfl) (by kernel_rfl) (by kernel_rfl) (fun _ _ _ h => h) (Or.inl ⟨by rfl, ?he68⟩) (by assumption) ?re68
        case he68 => (intro w hSw; (try dsimp only at hSw); go_simp; try (with_reducible rfl))
        try simp only [Act.put, List.setIfInBounds_toArray, List.set_cons_zero, List.set_cons_succ]
        refine wpAnyH_take (i := 9) (oi := ({ dst := some 57, op := Op.move (Operand.tmp 0), type := 9, pos := "ref.go:84", after := #[{ on := 8, ground := Ground.guard }, { on := 15, ground := Ground.gcOnly Departure.lateStores }], guard := some (8, true) } : Oper)) (v := undef) rfl (by kernel_rfl) (by kernel_rfl) (by kernel_rfl) (fun _ _ _ h => h) (Or.inr ⟨by rfl, rfl⟩) (by assumption) ?_
        try simp only [Act.put, List.setIfInBounds_toArray, List.set_cons_zero, List.set_cons_succ]
        refine wpAnyH_take (i := 10) (oi := ({ dst := some 58, op := Op.move (Operand.tmp 8), type := 3, pos := "ref.go:84", after := #[{ on := 8, ground := Ground.guard }, { on := 15, ground := Ground.gcOnly Departure.lateStores }], guard := some (8, true) } : Oper)) (v := undef) rfl (by kernel_rfl) (by kernel_rfl) (by kernel_rfl) (fun _ _ _ h => h) (Or.inr ⟨by rfl, rfl⟩) (by assumption) ?_
        try simp only [Act.put, List.setIfInBounds_toArray, List.set_cons_zero, List.set_cons_succ]
        refine wpAnyH_take (i := 11) (oi := ({ dst := some 59, op := Op.index 9 (Operand.tmp 57) (Operand.tmp 58), type := 5, pos := "ref.go:84", after := #[{ on := 9, ground := Ground.data }, { on := 10, ground := Ground.data }, { on := 8, ground := Ground.guard }, { on := 15, ground := Ground.gcOnly Departure.lateStores }], guard := some (8, true) } : Oper)) (v := undef) rfl (by kernel_rfl) (by kernel_rfl) (by kernel_rfl) (fun _ _ _ h => h) (Or.inr ⟨by rfl, rfl⟩) (by assumption) ?_
        try simp only [Act.put, List.setIfInBounds_toArray, List.set_cons_zero, List.set_cons_succ]
        refine wpAnyH_take (i := 12) (oi := ({ dst := some 60, op := Op.binOp BinOp.eql 5 (Operand.tmp 59) (Operand.const (Value.int IntKind.u8 39)) 5, type := 4, pos := "ref.go:84", after := #[{ on := 11, ground := Ground.data }, { on := 8, ground := Ground.guard }, { on := 15, ground := Ground.gcOnly Departure.lateStores }], guard := some (8, true) } : Oper)) (v := undef) rfl (by kernel_rfl) (by kernel_rfl) (by kernel_rfl) (fun _ _ _ h => h) (Or.inr ⟨by rfl, rfl⟩) (by assumption) ?_
        try simp only [Act.put, List.setIfInBounds_toArray, List.set_cons_zero, List.set_cons_succ]
        refine wpAnyH_take (i := 13) (oi := ({ dst := some 61, op := Op.pick (Operand.tmp 56) (Operand.tmp 60) (Operand.const (Value.bool false)), type := 4, pos := "ref.go:84", after := #[{ on := 8, ground := Ground.data }, { on := 12, ground := Ground.data }, { on := 15, ground := Ground.gcOnly Departure.lateStores }], guard := none } : Oper)) (v := ?ve613) rfl (by kernel_rfl) (by kernel_rfl) (by kernel_rfl) (fun _ _ _ h => h) (Or.inl ⟨by rfl, ?he613⟩) (by assumption) ?re613
        case he613 => (intro w hSw; (try dsimp only at hSw); go_simp; try (with_reducible rfl))
        try simp only [Act.put, List.setIfInBounds_toArray, List.set_cons_zero, List.set_cons_succ]
        refine wpAnyH_take (i := 14) (oi := ({ dst := some 4, op := Op.assign (Operand.tmp 49), type := 9, pos := "ref.go:84", after := #[{ on := 1, ground := Ground.data }, { on := 8, ground := Ground.chain }, { on := 0, ground := Ground.phase }, { on := 1, ground := Ground.phase }, { on := 2, ground := Ground.textOnly Departure.lateStores }, { on := 3, ground := Ground.textOnly Departure.lateStores }, { on := 4, ground := Ground.textOnly Departure.lateStores }, { on := 5, ground := Ground.textOnly Departure.lateStores }, { on := 6, ground := Ground.textOnly Departure.lateStoresUnsure }, { on := 7, ground := Ground.textOnly Departure.lateStores }, { on := 8, ground := Ground.textOnly Departure.lateStores }, { on := 9, ground := Ground.textOnly Departure.lateStores }, { on := 10, ground := Ground.textOnly Departure.lateStores }, { on := 11, ground := Ground.textOnly Departure.lateStores }, { on := 12, ground := Ground.textOnly Departure.lateStores }, { on := 13, ground := Ground.textOnly Departure.lateStores }], guard := none } : Oper)) (v := ?ve614) rfl (by kernel_rfl) (by kernel_rfl) (by kernel_rfl) (fun _ _ _ h => h) (Or.inl ⟨by rfl, ?he614⟩) (by assumption) ?re614
        case he614 => (intro w hSw; (try dsimp only at hSw); go_simp; try (with_reducible rfl))
        try simp only [Act.put, List.setIfInBounds_toArray, List.set_cons_zero, List.set_cons_succ]
        refine wpAnyH_take (i := 15) (oi := ({ dst := some 5, op := Op.assign (Operand.tmp 51), type := 3, pos := "ref.go:84", after := #[{ on := 3, ground := Ground.data }, { on := 14, ground := Ground.chain }, { on := 0, ground := Ground.phase }, { on := 1, ground := Ground.phase }, { on := 2, ground := Ground.phase }, { on := 3, ground := Ground.phase }, { on := 4, ground := Ground.textOnly Departure.lateStores }, { on := 5, ground := Ground.textOnly Departure.lateStores }, { on := 6, ground := Ground.textOnly Departure.lateStoresUnsure }, { on := 7, ground := Ground.textOnly Departure.lateStores }, { on := 8, ground := Ground.textOnly Departure.lateStores }, { on := 9, ground := Ground.textOnly Departure.lateStores }, { on := 10, ground := Ground.textOnly Departure.lateStores }, { on := 11, ground := Ground.textOnly Departure.lateStores }, { on := 12, ground := Ground.textOnly Departure.lateStores }, { on := 13, ground := Ground.textOnly Departure.lateStores }, { on := 14, ground := Ground.phase }], guard := none } : Oper)) (v := ?ve615) rfl (by kernel_rfl) (by kernel_rfl) (by kernel_rfl) (fun _ _ _ h => h) (Or.inl ⟨by rfl, ?he615⟩) (by assumption) ?re615
        case he615 => (intro w hSw; (try dsimp only at hSw); go_simp; try (with_reducible rfl))
        try simp only [Act.put, List.setIfInBounds_toArray, List.set_cons_zero, List.set_cons_succ]
        refine wpAnyH_take (i := 16) (oi := ({ dst := some 6, op := Op.assign (Operand.tmp 61), type := 4, pos := "ref.go:84", after := #[{ on := 13, ground := Ground.data }, { on := 15, ground := Ground.chain }, { on := 0, ground := Ground.phase }, { on := 1, ground := Ground.phase }, { on := 2, ground := Ground.phase }, { on := 3, ground := Ground.phase }, { on := 4, ground := Ground.phase }, { on := 5, ground := Ground.phase }, { on := 6, ground := Ground.phase }, { on := 7, ground := Ground.phase }, { on := 8, ground := Ground.phase }, { on := 9, ground := Ground.phase }, { on := 10, ground := Ground.phase }, { on := 11, ground := Ground.phase }, { on := 12, ground := Ground.phase }, { on := 13, ground := Ground.phase }, { on := 14, ground := Ground.phase }, { on := 15, ground := Ground.phase }], guard := none } : Oper)) (v := ?ve616) rfl (by kernel_rfl) (by kernel_rfl) (by kernel_rfl) (fun _ _ _ h => h) (Or.inl ⟨by rfl, ?he616⟩) (by assumption) ?re616
        case he616 => (intro w hSw; (try dsimp only at hSw); go_simp; try (with_reducible rfl))
        try simp only [Act.put, List.setIfInBounds_toArray, List.set_cons_zero, List.set_cons_succ]
        refine wpAnyH_done (by kernel_rfl) ?_ _
        have HBE := Asd.mk hHeld.2
        clear hcv hHeld
        go_wp2
        (try rw [Exit.noGoto_ret])
        refine bodyPost_ret (results_tmp3 rfl _ _ _) rfl ?_
        have hwk : IntKind.i64.wrap ((k : Int) + 1) = (k : Int) + 1 := by
          simp [IntKind.wrap, IntKind.signed, IntKind.bits]
          omega
        refine ⟨Eq.trans (ret_eq ?_) HE.out, HB.out.trans (HBE.out.mono HB.out.size)⟩
        show Value.tuple #[.string ⟨l.toArray⟩, .int .i64 (IntKind.i64.wrap ((k : Int) + 1)), .bool false] = _
        rw [hwk]
end Go.Proofs.YtcefmhofidoloaaGreatDoor.Lex

/- quarryref12.one: how it ends. -/
set_option linter.unusedVariables false
set_option linter.unusedSimpArgs false
namespace Go.Proofs.YtcefmhofidoloaaGreatDoor.Lex
open Go.RowKit Go.Proofs.YtcefmhofidoloaaGreatDoor.Base Go.Proofs.YtcefmhofidoloaaGreatDoor.App Go.Proofs.YtcefmhofidoloaaGreatDoor.Byt

theorem results_token3 {fn : Func} {p u v : Tmp} (h : fn.results = #[.cell p 52, .tmp u, .tmp v]) (tmps : Array Value) (w : World) (g : Nat) (cs : Array Value)
    (hp : tmps.getD p undef = .pointer (some ⟨g, 0, none⟩)) (hg : w.heap[g]? = some (.cells cs 52 (0, 0))) (h4 : cs.size = 4) :
    (results fn tmps).run Tryz.prog w = .ok (.tuple #[.agg cs, tmps.getD u undef, tmps.getD v undef]) w := by
  have e : (results fn tmps).run Tryz.prog w = ((asAddr (tmps.getD p undef)).run Tryz.prog w).andThen fun a w₁ => ((loadVar 52 a).run Tryz.prog w₁).andThen fun x w₂ => .ok (.tuple #[x, tmps.getD u undef, tmps.getD v undef]) w₂ := by
    simp only [results, h]
    simp [Sem.run_bind, Result.andThen]
  rw [e, hp]
  simp [asAddr, load_token hg h4, Result.andThen]
theorem TkSt.newAt (w : World) (i : Nat) : TkSt w ((w.alloc (.cells #[.int .i64 0, .string ⟨#[]⟩, .int .i64 0, .int .i64 0] 52)).alloc (.cells #[.int .i64 0, .string ⟨#[]⟩, .int .i64 (i : Int), .int .i64 0] 52)) #[.int .i64 0, .string ⟨#[]⟩, .int .i64 (i : Int), .int .i64 0] := by
  refine ⟨blk_alloc (blk_new w _) _, ?_, below_alloc (below_alloc (Below.refl w.heap.size w) _) _⟩
  have h := blk_new (w.alloc (.cells #[.int .i64 0, .string ⟨#[]⟩, .int .i64 0, .int .i64 0] 52)) (.cells #[.int .i64 0, .string ⟨#[]⟩, .int .i64 (i : Int), .int .i64 0] 52)
  rwa [show (w.alloc (.cells #[.int .i64 0, .string ⟨#[]⟩, .int .i64 0, .int .i64 0] 52)).heap.size = w.heap.size + 1 by simp] at h
/-- How one ends. -/
def OneE (s : ByteArray) (i : Nat) (w : World) (e : Ending) (w' : World) : Prop :=
  Below w.heap.size w w' ∧ match tokP (s.data.toList.drop i) with
  | some x => e = .returned (.tuple #[.agg #[.int .i64 (x.1.kind : Int), .string ⟨x.1.text.toArray⟩, .int .i64 (i : Nat), .int .i64 x.1.num], .int .i64 ((i + x.2 : Nat) : Int), .bool true])
  | none => ∃ a b c d q, e = .returned (.tuple #[.agg #[.int .i64 a, .string b, .int .i64 c, .int .i64 d], .int .i64 q, .bool false])
theorem one_some {s : ByteArray} {i : Nat} {x : Tk × Nat} {w w' : World} {e : Ending} (hx : tokP (s.data.toList.drop i) = some x) (hb : Below w.heap.size w w') (he : e = .returned (.tuple #[.agg #[.int .i64 (x.1.kind : Int), .string ⟨x.1.text.toArray⟩, .int .i64 (i : Nat), .int .i64 x.1.num], .int .i64 ((i + x.2 : Nat) : Int), .bool true])) : OneE s i w e w' := ⟨hb, by rw [hx]; exact he⟩
theorem one_none {s : ByteArray} {i : Nat} {w w' : World} {e : Ending} (hx : tokP (s.data.toList.drop i) = none) (hb : Below w.heap.size w w') (a : Int) (b : ByteArray) (c d q : Int) (he : e = .returned (.tuple #[.agg #[.int .i64 a, .string b, .int .i64 c, .int .i64 d], .int .i64 q, .bool false])) : OneE s i w e w' := ⟨hb, by rw [hx]; exact ⟨a, b, c, d, q, he⟩⟩

end Go.Proofs.YtcefmhofidoloaaGreatDoor.Lex

/- quarryref12.one: the walk, by hand: words from x. -/
set_option linter.unusedVariables false
set_option linter.unusedSimpArgs false
namespace Go.Proofs.YtcefmhofidoloaaGreatDoor.Lex
open Go.RowKit Go.Proofs.YtcefmhofidoloaaGreatDoor.Base Go.Proofs.YtcefmhofidoloaaGreatDoor.App Go.Proofs.YtcefmhofidoloaaGreatDoor.Byt

set_option maxRecDepth 100000 in
set_option maxHeartbeats 6400000 in
theorem rone_word1 (s : ByteArray) (i : Nat) (hi : i < s.size) (hs : s.size ≤ 16384) (w : World) (hx : s[i].toNat = 120) (hp : ¬ i + 1 < s.size) (hl : isLet s[i] = true) :
    Calls Tryz.prog 53 #[.string s, .int .i64 (i : Int)] w fun e w' => OneE s i w e w' := by
  have HLN : Asd (s.data.toList.length = s.size) := Asd.mk rfl
  have HL := Asd.mk (drop_cons s i hi)
  have hc8 := s[i].toNat_lt
  have HNX : Asd (¬ ((s[i] = 120 ∨ s[i] = 88) ∧ (s.data.toList.drop (i + 1)).head? = some 39)) := Asd.mk (fun h => by rw [List.drop_of_length_le (by rw [HLN.out]; omega)] at h; simp at h)
  have HTP : Asd (tokP (s.data.toList.drop i) = some (⟨1, ((s.data.toList.drop i).take (runP isWrd (s.data.toList.drop i))).map lowB, 0⟩, runP isWrd (s.data.toList.drop i))) := Asd.mk (by
    have h := tokP_word HNX.out hl
    rwa [← HL.out] at h)
  have HLE := Asd.mk hl
  clear hl HNX
  have HLC : Asd (∀ W, Calls Tryz.prog 116 #[.int .u8 120] W fun e w' => e = .returned (.bool true) ∧ Below W.heap.size W w') := Asd.mk (fun W => rletter_calls 120 W)
  go_enter Tryz.func53, Tryz.ntmps53
  have HS := Asd.mk (TkSt.newAt w i)
  go_upto_region 4 with fail
  generalize (w.alloc (.cells #[.int .i64 0, .string ⟨#[]⟩, .int .i64 0, .int .i64 0] 52)).alloc (.cells #[.int .i64 0, .string ⟨#[]⟩, .int .i64 (i : Int), .int .i64 0] 52) = W at HS ⊢
  go_wp2_with fail
  refine (HLC.out _).mono ?_
  rintro e w1 ⟨rfl, hb1⟩
  have HSL := Asd.mk (HS.out.old hb1)
  clear hb1
  go_wp2
  go_loopw [9] (fun v wr => ∃ k : Nat, k ≤ s.size ∧ v = .int .i64 (k : Int) ∧ Asd (i ≤ k) ∧ Asd (runP isWrd (s.data.toList.drop i) = k - i + runP isWrd (s.data.toList.drop k)) ∧ Asd (TkSt w wr #[.int .i64 0, .string ⟨#[]⟩, .int .i64 (i : Int), .int .i64 0])) (fun v _ => s.size - (intOf v).toNat)
  case atStart => exact ⟨i, by omega, rfl, ⟨Nat.le_refl _⟩, ⟨by simp⟩, HSL⟩
  case round =>
    obtain ⟨k, hk, rfl, HIK, HR, HSR⟩ := hrel
    by_cases hlt : k < s.size
    · have HD := Asd.mk (drop_cons s k hlt)
      have hk8 := s[k].toNat_lt
      cases hp : isLet s[k] with
      | true =>
        have HR2 : Asd (runP isWrd (s.data.toList.drop i) = k + 1 - i + runP isWrd (s.data.toList.drop (k + 1))) := Asd.mk (by
          have := HIK.out
          rw [HR.out, HD.out, runP, if_pos (by unfold isWrd; rw [hp]; rfl)]; omega)
        have HP := Asd.mk hp
        clear hp
        go_wp2_with fail
        refine (rletter_calls s[k] _).mono ?_
        rintro e w2 ⟨rfl, hb1⟩
        rw [HP.out]
        have HSR2 := Asd.mk (HSR.out.old hb1)
        clear hb1
        go_wp2
        go_roundw
        case rel => exact ⟨k + 1, by omega, by go_num, ⟨by have := HIK.out; omega⟩, HR2, HSR2⟩
        case measure => simp [intOf]; omega
      | false =>
        have HP := Asd.mk hp
        cases hd : isDig s[k] with
        | true =>
          have HR2 : Asd (runP isWrd (s.data.toList.drop i) = k + 1 - i + runP isWrd (s.data.toList.drop (k + 1))) := Asd.mk (by
            have := HIK.out
            rw [HR.out, HD.out, runP, if_pos (by unfold isWrd; rw [hp, hd]; rfl)]; omega)
          have HDG := Asd.mk hd
          clear hp hd
          go_wp2_with fail
          refine (rletter_calls s[k] _).mono ?_
          rintro e w2 ⟨rfl, hb1⟩
          rw [HP.out]
          have HSR2 := Asd.mk (HSR.out.old hb1)
          clear hb1
          go_wp2_with fail
          refine (rdigit_calls s[k] _).mono ?_
          rintro e w3 ⟨rfl, hb1⟩
          rw [HDG.out]
          have HSR3 := Asd.mk (HSR2.out.old hb1)
          clear hb1
          go_wp2
          go_roundw
          case rel => exact ⟨k + 1, by omega, by go_num, ⟨by have := HIK.out; omega⟩, HR2, HSR3⟩
          case measure => simp [intOf]; omega
        | false =>
          have HR0 : Asd (runP isWrd (s.data.toList.drop i) = k - i) := Asd.mk (by rw [HR.out, HD.out, runP, if_neg (by unfold isWrd; rw [hp, hd]; decide)]; rfl)
          have HDG := Asd.mk hd
          clear hp hd
          go_wp2_with fail
          refine (rletter_calls s[k] _).mono ?_
          rintro e w2 ⟨rfl, hb1⟩
          rw [HP.out]
          have HSR2 := Asd.mk (HSR.out.old hb1)
          clear hb1
          go_wp2_with fail
          refine (rdigit_calls s[k] _).mono ?_
          rintro e w3 ⟨rfl, hb1⟩
          rw [HDG.out]
          have HSR3 := Asd.mk (HSR2.out.old hb1)
          clear hb1
          rw [HR0.out] at HTP
          have hik := HIK.out
          have HEL : Asd ((s.extract i k).data.toList = (s.data.toList.drop i).take (k - i)) := Asd.mk (by rw [ext_list, List.drop_take])
          have HES : Asd ((s.extract i k).size ≤ 16384) := Asd.mk (by rw [ext_size]; omega)
          have b0 := (blk_cell HSR3.out.box 0).trans rfl
          have zb0 := blk_frozen HSR3.out.box 0
          have HSa := Asd.mk (HSR3.out.set 0 (.int .i64 1))
          go_wp2_with fail
          refine (rsmall_calls (s.extract i k) HES.out _).mono ?_
          rintro e w6 ⟨rfl, hb6⟩
          have HSb := Asd.mk (HSa.out.old hb6)
          clear hb6 b0 zb0
          rw [HEL.out]
          generalize ((s.data.toList.drop i).take (k - i)).map lowB = t at HTP ⊢
          have b1 := (blk_cell HSb.out.box 1).trans rfl
          have zb1 := blk_frozen HSb.out.box 1
          have HSc := Asd.mk (HSb.out.set 1 (.string ⟨t.toArray⟩))
          have y0 := (blk_cell HSc.out.box 0).trans rfl
          have y1 := (blk_cell HSc.out.box 1).trans rfl
          have y2 := (blk_cell HSc.out.box 2).trans rfl
          have y3 := (blk_cell HSc.out.box 3).trans rfl
          have r0 := (blk_cell HSc.out.res 0).trans rfl
          have zr0 := blk_frozen HSc.out.res 0
          have r1 := (blk_cell HSc.out.res 1).trans rfl
          have zr1 := blk_frozen HSc.out.res 1
          have r2 := (blk_cell HSc.out.res 2).trans rfl
          have zr2 := blk_frozen HSc.out.res 2
          have r3 := (blk_cell HSc.out.res 3).trans rfl
          have zr3 := blk_frozen HSc.out.res 3
          go_wp2
          refine bodyPost_ret (results_token3 rfl _ _ w.heap.size _ rfl (HSc.out.fin _ _ _ _).1 rfl) rfl ?_
          exact one_some HTP.out (HSc.out.fin _ _ _ _).2 (by rw [show i + (k - i) = k by omega]; rfl)
    · have HR0 : Asd (runP isWrd (s.data.toList.drop i) = k - i) := Asd.mk (by rw [HR.out, List.drop_of_length_le (by rw [HLN.out]; omega)]; rfl)
      rw [HR0.out] at HTP
      have hik := HIK.out
      have HEL : Asd ((s.extract i k).data.toList = (s.data.toList.drop i).take (k - i)) := Asd.mk (by rw [ext_list, List.drop_take])
      have HES : Asd ((s.extract i k).size ≤ 16384) := Asd.mk (by rw [ext_size]; omega)
      have b0 := (blk_cell HSR.out.box 0).trans rfl
      have zb0 := blk_frozen HSR.out.box 0
      have HSa := Asd.mk (HSR.out.set 0 (.int .i64 1))
      go_wp2_with fail
      refine (rsmall_calls (s.extract i k) HES.out _).mono ?_
      rintro e w6 ⟨rfl, hb6⟩
      have HSb := Asd.mk (HSa.out.old hb6)
      clear hb6 b0 zb0
      rw [HEL.out]
      generalize ((s.data.toList.drop i).take (k - i)).map lowB = t at HTP ⊢
      have b1 := (blk_cell HSb.out.box 1).trans rfl
      have zb1 := blk_frozen HSb.out.box 1
      have HSc := Asd.mk (HSb.out.set 1 (.string ⟨t.toArray⟩))
      have y0 := (blk_cell HSc.out.box 0).trans rfl
      have y1 := (blk_cell HSc.out.box 1).trans rfl
      have y2 := (blk_cell HSc.out.box 2).trans rfl
      have y3 := (blk_cell HSc.out.box 3).trans rfl
      have r0 := (blk_cell HSc.out.res 0).trans rfl
      have zr0 := blk_frozen HSc.out.res 0
      have r1 := (blk_cell HSc.out.res 1).trans rfl
      have zr1 := blk_frozen HSc.out.res 1
      have r2 := (blk_cell HSc.out.res 2).trans rfl
      have zr2 := blk_frozen HSc.out.res 2
      have r3 := (blk_cell HSc.out.res 3).trans rfl
      have zr3 := blk_frozen HSc.out.res 3
      go_wp2
      refine bodyPost_ret (results_token3 rfl _ _ w.heap.size _ rfl (HSc.out.fin _ _ _ _).1 rfl) rfl ?_
      exact one_some HTP.out (HSc.out.fin _ _ _ _).2 (by rw [show i + (k - i) = k by omega]; rfl)
set_option maxRecDepth 100000 in
set_option maxHeartbeats 6400000 in
theorem rone_word2 (s : ByteArray) (i : Nat) (hi : i < s.size) (hs : s.size ≤ 16384) (w : World) (hx : s[i].toNat = 120) (hp : i + 1 < s.size) (hq : ¬ s[i + 1].toNat = 39) (hl : isLet s[i] = true) :
    Calls Tryz.prog 53 #[.string s, .int .i64 (i : Int)] w fun e w' => OneE s i w e w' := by
  have HLN : Asd (s.data.toList.length = s.size) := Asd.mk rfl
  have HL := Asd.mk (drop_cons s i hi)
  have hc8 := s[i].toNat_lt
  have hc9 := s[i + 1].toNat_lt
  have HNX : Asd (¬ ((s[i] = 120 ∨ s[i] = 88) ∧ (s.data.toList.drop (i + 1)).head? = some 39)) := Asd.mk (fun h => by rw [drop_cons s (i + 1) hp] at h; simp only [List.head?_cons, Option.some.injEq] at h; exact hq (by rw [h.2]; rfl))
  have HTP : Asd (tokP (s.data.toList.drop i) = some (⟨1, ((s.data.toList.drop i).take (runP isWrd (s.data.toList.drop i))).map lowB, 0⟩, runP isWrd (s.data.toList.drop i))) := Asd.mk (by
    have h := tokP_word HNX.out hl
    rwa [← HL.out] at h)
  have HLE := Asd.mk hl
  clear hl HNX
  have HLC : Asd (∀ W, Calls Tryz.prog 116 #[.int .u8 120] W fun e w' => e = .returned (.bool true) ∧ Below W.heap.size W w') := Asd.mk (fun W => rletter_calls 120 W)
  go_enter Tryz.func53, Tryz.ntmps53
  have HS := Asd.mk (TkSt.newAt w i)
  go_upto_region 4 with fail
  generalize (w.alloc (.cells #[.int .i64 0, .string ⟨#[]⟩, .int .i64 0, .int .i64 0] 52)).alloc (.cells #[.int .i64 0, .string ⟨#[]⟩, .int .i64 (i : Int), .int .i64 0] 52) = W at HS ⊢
  go_wp2_with fail
  refine (HLC.out _).mono ?_
  rintro e w1 ⟨rfl, hb1⟩
  have HSL := Asd.mk (HS.out.old hb1)
  clear hb1
  go_wp2
  go_loopw [9] (fun v wr => ∃ k : Nat, k ≤ s.size ∧ v = .int .i64 (k : Int) ∧ Asd (i ≤ k) ∧ Asd (runP isWrd (s.data.toList.drop i) = k - i + runP isWrd (s.data.toList.drop k)) ∧ Asd (TkSt w wr #[.int .i64 0, .string ⟨#[]⟩, .int .i64 (i : Int), .int .i64 0])) (fun v _ => s.size - (intOf v).toNat)
  case atStart => exact ⟨i, by omega, rfl, ⟨Nat.le_refl _⟩, ⟨by simp⟩, HSL⟩
  case round =>
    obtain ⟨k, hk, rfl, HIK, HR, HSR⟩ := hrel
    by_cases hlt : k < s.size
    · have HD := Asd.mk (drop_cons s k hlt)
      have hk8 := s[k].toNat_lt
      cases hp : isLet s[k] with
      | true =>
        have HR2 : Asd (runP isWrd (s.data.toList.drop i) = k + 1 - i + runP isWrd (s.data.toList.drop (k + 1))) := Asd.mk (by
          have := HIK.out
          rw [HR.out, HD.out, runP, if_pos (by unfold isWrd; rw [hp]; rfl)]; omega)
        have HP := Asd.mk hp
        clear hp
        go_wp2_with fail
        refine (rletter_calls s[k] _).mono ?_
        rintro e w2 ⟨rfl, hb1⟩
        rw [HP.out]
        have HSR2 := Asd.mk (HSR.out.old hb1)
        clear hb1
        go_wp2
        go_roundw
        case rel => exact ⟨k + 1, by omega, by go_num, ⟨by have := HIK.out; omega⟩, HR2, HSR2⟩
        case measure => simp [intOf]; omega
      | false =>
        have HP := Asd.mk hp
        cases hd : isDig s[k] with
        | true =>
          have HR2 : Asd (runP isWrd (s.data.toList.drop i) = k + 1 - i + runP isWrd (s.data.toList.drop (k + 1))) := Asd.mk (by
            have := HIK.out
            rw [HR.out, HD.out, runP, if_pos (by unfold isWrd; rw [hp, hd]; rfl)]; omega)
          have HDG := Asd.mk hd
          clear hp hd
          go_wp2_with fail
          refine (rletter_calls s[k] _).mono ?_
          rintro e w2 ⟨rfl, hb1⟩
          rw [HP.out]
          have HSR2 := Asd.mk (HSR.out.old hb1)
          clear hb1
          go_wp2_with fail
          refine (rdigit_calls s[k] _).mono ?_
          rintro e w3 ⟨rfl, hb1⟩
          rw [HDG.out]
          have HSR3 := Asd.mk (HSR2.out.old hb1)
          clear hb1
          go_wp2
          go_roundw
          case rel => exact ⟨k + 1, by omega, by go_num, ⟨by have := HIK.out; omega⟩, HR2, HSR3⟩
          case measure => simp [intOf]; omega
        | false =>
          have HR0 : Asd (runP isWrd (s.data.toList.drop i) = k - i) := Asd.mk (by rw [HR.out, HD.out, runP, if_neg (by unfold isWrd; rw [hp, hd]; decide)]; rfl)
          have HDG := Asd.mk hd
          clear hp hd
          go_wp2_with fail
          refine (rletter_calls s[k] _).mono ?_
          rintro e w2 ⟨rfl, hb1⟩
          rw [HP.out]
          have HSR2 := Asd.mk (HSR.out.old hb1)
          clear hb1
          go_wp2_with fail
          refine (rdigit_calls s[k] _).mono ?_
          rintro e w3 ⟨rfl, hb1⟩
          rw [HDG.out]
          have HSR3 := Asd.mk (HSR2.out.old hb1)
          clear hb1
          rw [HR0.out] at HTP
          have hik := HIK.out
          have HEL : Asd ((s.extract i k).data.toList = (s.data.toList.drop i).take (k - i)) := Asd.mk (by rw [ext_list, List.drop_take])
          have HES : Asd ((s.extract i k).size ≤ 16384) := Asd.mk (by rw [ext_size]; omega)
          have b0 := (blk_cell HSR3.out.box 0).trans rfl
          have zb0 := blk_frozen HSR3.out.box 0
          have HSa := Asd.mk (HSR3.out.set 0 (.int .i64 1))
          go_wp2_with fail
          refine (rsmall_calls (s.extract i k) HES.out _).mono ?_
          rintro e w6 ⟨rfl, hb6⟩
          have HSb := Asd.mk (HSa.out.old hb6)
          clear hb6 b0 zb0
          rw [HEL.out]
          generalize ((s.data.toList.drop i).take (k - i)).map lowB = t at HTP ⊢
          have b1 := (blk_cell HSb.out.box 1).trans rfl
          have zb1 := blk_frozen HSb.out.box 1
          have HSc := Asd.mk (HSb.out.set 1 (.string ⟨t.toArray⟩))
          have y0 := (blk_cell HSc.out.box 0).trans rfl
          have y1 := (blk_cell HSc.out.box 1).trans rfl
          have y2 := (blk_cell HSc.out.box 2).trans rfl
          have y3 := (blk_cell HSc.out.box 3).trans rfl
          have r0 := (blk_cell HSc.out.res 0).trans rfl
          have zr0 := blk_frozen HSc.out.res 0
          have r1 := (blk_cell HSc.out.res 1).trans rfl
          have zr1 := blk_frozen HSc.out.res 1
          have r2 := (blk_cell HSc.out.res 2).trans rfl
          have zr2 := blk_frozen HSc.out.res 2
          have r3 := (blk_cell HSc.out.res 3).trans rfl
          have zr3 := blk_frozen HSc.out.res 3
          go_wp2
          refine bodyPost_ret (results_token3 rfl _ _ w.heap.size _ rfl (HSc.out.fin _ _ _ _).1 rfl) rfl ?_
          exact one_some HTP.out (HSc.out.fin _ _ _ _).2 (by rw [show i + (k - i) = k by omega]; rfl)
    · have HR0 : Asd (runP isWrd (s.data.toList.drop i) = k - i) := Asd.mk (by rw [HR.out, List.drop_of_length_le (by rw [HLN.out]; omega)]; rfl)
      rw [HR0.out] at HTP
      have hik := HIK.out
      have HEL : Asd ((s.extract i k).data.toList = (s.data.toList.drop i).take (k - i)) := Asd.mk (by rw [ext_list, List.drop_take])
      have HES : Asd ((s.extract i k).size ≤ 16384) := Asd.mk (by rw [ext_size]; omega)
      have b0 := (blk_cell HSR.out.box 0).trans rfl
      have zb0 := blk_frozen HSR.out.box 0
      have HSa := Asd.mk (HSR.out.set 0 (.int .i64 1))
      go_wp2_with fail
      refine (rsmall_calls (s.extract i k) HES.out _).mono ?_
      rintro e w6 ⟨rfl, hb6⟩
      have HSb := Asd.mk (HSa.out.old hb6)
      clear hb6 b0 zb0
      rw [HEL.out]
      generalize ((s.data.toList.drop i).take (k - i)).map lowB = t at HTP ⊢
      have b1 := (blk_cell HSb.out.box 1).trans rfl
      have zb1 := blk_frozen HSb.out.box 1
      have HSc := Asd.mk (HSb.out.set 1 (.string ⟨t.toArray⟩))
      have y0 := (blk_cell HSc.out.box 0).trans rfl
      have y1 := (blk_cell HSc.out.box 1).trans rfl
      have y2 := (blk_cell HSc.out.box 2).trans rfl
      have y3 := (blk_cell HSc.out.box 3).trans rfl
      have r0 := (blk_cell HSc.out.res 0).trans rfl
      have zr0 := blk_frozen HSc.out.res 0
      have r1 := (blk_cell HSc.out.res 1).trans rfl
      have zr1 := blk_frozen HSc.out.res 1
      have r2 := (blk_cell HSc.out.res 2).trans rfl
      have zr2 := blk_frozen HSc.out.res 2
      have r3 := (blk_cell HSc.out.res 3).trans rfl
      have zr3 := blk_frozen HSc.out.res 3
      go_wp2
      refine bodyPost_ret (results_token3 rfl _ _ w.heap.size _ rfl (HSc.out.fin _ _ _ _).1 rfl) rfl ?_
      exact one_some HTP.out (HSc.out.fin _ _ _ _).2 (by rw [show i + (k - i) = k by omega]; rfl)
end Go.Proofs.YtcefmhofidoloaaGreatDoor.Lex
