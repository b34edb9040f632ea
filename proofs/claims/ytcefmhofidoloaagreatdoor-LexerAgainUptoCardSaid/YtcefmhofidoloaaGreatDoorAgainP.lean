/- What a word is written as is read as that word: plain laws. -/
import Derived.Test.YtcefmhofidoloaaGreatDoorNumP
import Derived.Test.YtcefmhofidoloaaGreatDoorCatP
import Derived.Test.YtcefmhofidoloaaGreatDoorLit
set_option linter.unusedVariables false
set_option linter.unusedSimpArgs false
namespace Go.Proofs.YtcefmhofidoloaaGreatDoor.Lex
open Go.RowKit Go.Proofs.YtcefmhofidoloaaGreatDoor.Base

/-- What may stand behind a word. -/
def Sep (r : List UInt8) : Prop := r = [] ∨ ∃ c q, r = c :: q ∧ (c = 32 ∨ c = 40 ∨ c = 41 ∨ c = 44 ∨ c = 46)
theorem Sep.mk' {c : UInt8} (h : c = 32 ∨ c = 40 ∨ c = 41 ∨ c = 44 ∨ c = 46) (q : List UInt8) : Sep (c :: q) := .inr ⟨c, q, rfl, h⟩
theorem Sep.head {r : List UInt8} (h : Sep r) {d : UInt8} (hd : r.head? = some d) : d = 32 ∨ d = 40 ∨ d = 41 ∨ d = 44 ∨ d = 46 := by
  rcases h with rfl | ⟨c, q, rfl, h⟩
  · cases hd
  · simp only [List.head?_cons, Option.some.injEq] at hd
    subst hd
    exact h
theorem Sep.run {r : List UInt8} (h : Sep r) (p : UInt8 → Bool) (hp : p 32 = false ∧ p 40 = false ∧ p 41 = false ∧ p 44 = false ∧ p 46 = false) : runP p r = 0 := by
  rcases h with rfl | ⟨c, q, rfl, h⟩
  · rfl
  · rw [runP]
    rcases h with rfl | rfl | rfl | rfl | rfl
    · simp [hp.1]
    · simp [hp.2.1]
    · simp [hp.2.2.1]
    · simp [hp.2.2.2.1]
    · simp [hp.2.2.2.2]
theorem runP_app (p : UInt8 → Bool) {r : List UInt8} (hr : runP p r = 0) : ∀ l : List UInt8, (∀ c ∈ l, p c = true) → runP p (l ++ r) = l.length
  | [], _ => hr
  | c :: l, h => by
    rw [List.cons_append, runP, if_pos (h c (by simp)), runP_app p hr l (fun d hd => h d (by simp [hd]))]
    rfl
theorem wrd_ne {c : UInt8} (h : isWrd c = true) : c ≠ 39 := by rintro rfl; revert h; decide
theorem dig_ne {c : UInt8} (h : isDig c = true) : c ≠ 39 := by rintro rfl; revert h; decide
theorem tok_wrd {c : UInt8} {u r : List UInt8} (h0 : isLet c = true) (hall : ∀ d ∈ c :: u, isWrd d = true) (hr : Sep r) : tokP ((c :: u) ++ r) = some (⟨1, (c :: u).map lowB, 0⟩, (c :: u).length) := by
  have hx : ¬ ((c = 120 ∨ c = 88) ∧ (u ++ r).head? = some 39) := by
    rintro ⟨_, h⟩
    cases u with
    | nil => have := hr.head h; revert this; decide
    | cons d u =>
      simp only [List.cons_append, List.head?_cons, Option.some.injEq] at h
      exact wrd_ne (hall d (by simp)) h
  have hrun := runP_app isWrd (hr.run isWrd (by decide)) (c :: u) hall
  rw [List.cons_append, tokP_word hx h0, ← List.cons_append, hrun, List.take_left' rfl]
theorem dig_not {c : UInt8} (h : isDig c = true) : isLet c = false ∧ c ≠ 120 ∧ c ≠ 88 := by
  have := (isDig_iff c).mp h
  refine ⟨?_, ?_, ?_⟩
  · simp [isLet, letN]; omega
  · rintro rfl; revert h; decide
  · rintro rfl; revert h; decide
theorem tok_dig {u r : List UInt8} (hu : u ≠ []) (hall : ∀ d ∈ u, isDig d = true) (hr : Sep r) {v : Int} (hv : numP u = some v) : tokP (u ++ r) = some (⟨2, [], v⟩, u.length) := by
  match u, hu with
  | c :: u, _ =>
    obtain ⟨h1, h2, h3⟩ := dig_not (hall c (by simp))
    have hrun := runP_app isDig (hr.run isDig (by decide)) (c :: u) hall
    rw [List.cons_append, tokP_num (by rintro ⟨h | h, _⟩; exact h2 h; exact h3 h) h1 (hall c (by simp)), ← List.cons_append, hrun, List.take_left' rfl, hv]
    rfl
theorem quotes_read {r : List UInt8} (hr : Sep r) : ∀ x : List UInt8, textP (quotes x ++ 39 :: r) = some (x, (quotes x).length + 1)
  | [] => by
    show textP (39 :: r) = _
    cases r with
    | nil => rw [textP_q0]; rfl
    | cons d r =>
      rw [textP_q1 (by have := hr.head (d := d) rfl; rintro rfl; revert this; decide)]
      rfl
  | c :: x => by
    have ih := quotes_read hr x
    rw [quotes_cons]
    by_cases hc : c = 39
    · subst hc
      show textP (39 :: 39 :: (quotes x ++ 39 :: r)) = _
      rw [textP_q2, ih]
      simp [quote1]
    · have e : quote1 c = [c] := by simp [quote1, hc]
      rw [e]
      show textP (c :: (quotes x ++ 39 :: r)) = _
      rw [textP_c hc, ih]
      simp
theorem tok_txt (x : List UInt8) {r : List UInt8} (hr : Sep r) : tokP (litText x ++ r) = some (⟨3, x, 0⟩, (litText x).length) := by
  show tokP (39 :: ((quotes x ++ [39]) ++ r)) = _
  rw [tokP_text, List.append_assoc, List.singleton_append, quotes_read hr]
  simp [litText]
theorem hexB_val {n : Nat} (h : n < 16) : hexV (hexB n) = some n ∧ hexB n ≠ 39 := by
  have : ∀ m : Fin 16, hexV (hexB m.val) = some m.val ∧ hexB m.val ≠ 39 := by decide
  exact this ⟨n, h⟩
theorem unhex_hexs : ∀ x : List UInt8, unhex (hexs x) = some x
  | [] => rfl
  | c :: x => by
    have ih := unhex_hexs x
    have hc := c.toNat_lt
    show unhex (hexB (c.toNat / 16) :: hexB (c.toNat % 16) :: hexs x) = _
    rw [unhex_cons, ih, hexPair, (hexB_val (show c.toNat / 16 < 16 by omega)).1, (hexB_val (show c.toNat % 16 < 16 by omega)).1]
    simp only [Option.bind_some, Option.map_some]
    rw [show 16 * (c.toNat / 16) + c.toNat % 16 = c.toNat by omega]
    simp
theorem hexs_no : ∀ x : List UInt8, ¬ 39 ∈ hexs x
  | [] => by simp [hexs]
  | c :: x => by
    have ih := hexs_no x
    have hc := c.toNat_lt
    show ¬ 39 ∈ hexB (c.toNat / 16) :: hexB (c.toNat % 16) :: hexs x
    have h1 := (hexB_val (show c.toNat / 16 < 16 by omega)).2
    have h2 := (hexB_val (show c.toNat % 16 < 16 by omega)).2
    simp only [List.mem_cons, not_or]
    exact ⟨fun e => h1 e.symm, fun e => h2 e.symm, ih⟩
theorem tok_blb (x r : List UInt8) : tokP (litBlob x ++ r) = some (⟨4, x, 0⟩, (litBlob x).length) := by
  show tokP (88 :: 39 :: ((hexs x ++ [39]) ++ r)) = _
  rw [tokP_blob (.inr rfl) rfl]
  simp only [List.tail_cons]
  rw [List.append_assoc, List.singleton_append]
  have e := (takeW_no (a := 39) r (hexs x) (hexs_no x)).1
  have hb : blobP (hexs x ++ 39 :: r) = some (x, (hexs x).length + 2) := by
    unfold blobP
    rw [if_pos (by simp), e, unhex_hexs]
    rfl
  rw [hb]
  simp [litBlob]
theorem sym_not {c : UInt8} (h : c ∈ symBytes) : isLet c = false ∧ isDig c = false ∧ c ≠ 39 ∧ c ≠ 120 ∧ c ≠ 88 := by
  have : ∀ d ∈ symBytes, isLet d = false ∧ isDig d = false ∧ d ≠ 39 ∧ d ≠ 120 ∧ d ≠ 88 := by decide
  exact this c h
theorem tok_sym1 {c : UInt8} (h : c ∈ symBytes) {r : List UInt8} (hr : Sep r) : tokP (c :: r) = some (⟨5, [c], 0⟩, 1) := by
  obtain ⟨h1, h2, h3, h4, h5⟩ := sym_not h
  have hs : symP (c :: r) = 1 := by
    rw [symP, if_neg, if_pos (by exact h)]
    rintro (h | h | h | h)
    · have := hr.head h.2; revert this; decide
    · have := hr.head h.2; revert this; decide
    · have := hr.head h.2; revert this; decide
    · have := hr.head h.2; revert this; decide
  rw [tokP_sym (by rintro ⟨h | h, _⟩; exact h4 h; exact h5 h) h1 h2 h3, hs]
  rfl
theorem tok_sym2 {a b : UInt8} (h : (a, b) ∈ [((60 : UInt8), (62 : UInt8)), (60, 61), (62, 61), (124, 124)]) (r : List UInt8) : tokP (a :: b :: r) = some (⟨5, [a, b], 0⟩, 2) := by
  have hs : symP (a :: b :: r) = 2 := by
    simp only [List.mem_cons, List.not_mem_nil, or_false, Prod.mk.injEq] at h
    rw [symP, if_pos]
    simp only [List.head?_cons, Option.some.injEq]
    exact h
  have hn : isLet a = false ∧ isDig a = false ∧ a ≠ 39 ∧ a ≠ 120 ∧ a ≠ 88 := by
    have : ∀ x ∈ [((60 : UInt8), (62 : UInt8)), (60, 61), (62, 61), (124, 124)], isLet x.1 = false ∧ isDig x.1 = false ∧ x.1 ≠ 39 ∧ x.1 ≠ 120 ∧ x.1 ≠ 88 := by decide
    exact this _ h
  rw [tokP_sym (by rintro ⟨h | h, _⟩; exact hn.2.2.2.1 h; exact hn.2.2.2.2 h) hn.1 hn.2.1 hn.2.2.1, hs]
  rfl

/-- How a word is written. -/
def prT (t : Tk) : List UInt8 := if t.kind = 1 ∨ t.kind = 5 then t.text else if t.kind = 2 then Lib.itoa t.num else if t.kind = 3 then litText t.text else if t.kind = 4 then litBlob t.text else []
/-- A word that is read as itself from what it is written as. -/
structure GoodT (t : Tk) : Prop where
  again : ∀ r, Sep r → tokP (prT t ++ r) = some (t, (prT t).length)
  first : ∃ c u, prT t = c :: u ∧ ¬ (c = 32 ∨ c = 9 ∨ c = 10 ∨ c = 13) ∧ ∀ r, Sep r → ¬ (c = 45 ∧ (u ++ r).head? = some 45)
  num : 0 ≤ t.num ∧ t.num ≤ 9223372036854775807
set_option maxRecDepth 100000 in
theorem low_wrd {c : UInt8} (h : isWrd c = true) : isWrd (lowB c) = true ∧ lowB (lowB c) = lowB c := by
  have : ∀ m : Fin 256, isWrd (UInt8.ofNat m.val) = true → isWrd (lowB (UInt8.ofNat m.val)) = true ∧ lowB (lowB (UInt8.ofNat m.val)) = lowB (UInt8.ofNat m.val) := by decide
  have h2 := this ⟨c.toNat, c.toNat_lt⟩
  simp only [UInt8.ofNat_toNat] at h2
  exact h2 h
set_option maxRecDepth 100000 in
theorem low_let {c : UInt8} (h : isLet c = true) : isLet (lowB c) = true := by
  have : ∀ m : Fin 256, isLet (UInt8.ofNat m.val) = true → isLet (lowB (UInt8.ofNat m.val)) = true := by decide
  have h2 := this ⟨c.toNat, c.toNat_lt⟩
  simp only [UInt8.ofNat_toNat] at h2
  exact h2 h
theorem let_not {c : UInt8} (h : isLet c = true) : ¬ (c = 32 ∨ c = 9 ∨ c = 10 ∨ c = 13) ∧ c ≠ 45 := by
  constructor
  · rintro (rfl | rfl | rfl | rfl) <;> revert h <;> decide
  · rintro rfl; revert h; decide
theorem dig_blank {c : UInt8} (h : isDig c = true) : ¬ (c = 32 ∨ c = 9 ∨ c = 10 ∨ c = 13) ∧ c ≠ 45 := by
  constructor
  · rintro (rfl | rfl | rfl | rfl) <;> revert h <;> decide
  · rintro rfl; revert h; decide
theorem good_word {c : UInt8} {u : List UInt8} (h0 : isLet c = true) (hall : ∀ d ∈ c :: u, isWrd d = true) (hlow : (c :: u).map lowB = c :: u) : GoodT ⟨1, c :: u, 0⟩ := by
  have e : prT ⟨1, c :: u, 0⟩ = c :: u := by simp [prT]
  refine ⟨fun r hr => ?_, ⟨c, u, e, (let_not h0).1, fun r _ h => (let_not h0).2 h.1⟩, by simp⟩
  rw [e, tok_wrd h0 hall hr, hlow]
theorem good_num {v : Int} (h0 : 0 ≤ v) (h1 : v ≤ 9223372036854775807) : GoodT ⟨2, [], v⟩ := by
  obtain ⟨n, rfl⟩ : ∃ n : Nat, v = n := ⟨v.toNat, by omega⟩
  have e : prT ⟨2, [], (n : Int)⟩ = Lib.decDigits n := by simp [prT, Lib.itoa_nonneg]
  have hn := numP_itoa h0 h1
  rw [Lib.itoa_nonneg] at hn
  refine ⟨fun r hr => ?_, ?_, ⟨h0, h1⟩⟩
  · rw [e]; exact tok_dig (decDigits_ne n) (decDigits_dig n) hr hn
  · rw [e]
    have hne := decDigits_ne n
    have hd := decDigits_dig n
    generalize Lib.decDigits n = l at hne hd
    match l, hne with
    | c :: u, _ => exact ⟨c, u, rfl, (dig_blank (hd c (by simp))).1, fun r _ h => (dig_blank (hd c (by simp))).2 h.1⟩
theorem good_text (x : List UInt8) : GoodT ⟨3, x, 0⟩ := by
  have e : prT ⟨3, x, 0⟩ = litText x := by simp [prT]
  refine ⟨fun r hr => ?_, ⟨39, quotes x ++ [39], e, by decide, fun r _ h => absurd h.1 (by decide)⟩, by simp⟩
  rw [e]; exact tok_txt x hr
theorem good_blob (x : List UInt8) : GoodT ⟨4, x, 0⟩ := by
  have e : prT ⟨4, x, 0⟩ = litBlob x := by simp [prT]
  refine ⟨fun r hr => ?_, ⟨88, 39 :: (hexs x ++ [39]), e, by decide, fun r _ h => absurd h.1 (by decide)⟩, by simp⟩
  rw [e]; exact tok_blb x r
theorem good_sym1 {c : UInt8} (h : c ∈ symBytes) : GoodT ⟨5, [c], 0⟩ := by
  have e : prT ⟨5, [c], 0⟩ = [c] := by simp [prT]
  refine ⟨fun r hr => ?_, ⟨c, [], e, ?_, fun r hr h => ?_⟩, by simp⟩
  · rw [e]; exact tok_sym1 h hr
  · have : ∀ d ∈ symBytes, ¬ (d = 32 ∨ d = 9 ∨ d = 10 ∨ d = 13) := by decide
    exact this c h
  · have := hr.head h.2; revert this; decide
theorem good_sym2 {a b : UInt8} (h : (a, b) ∈ [((60 : UInt8), (62 : UInt8)), (60, 61), (62, 61), (124, 124)]) : GoodT ⟨5, [a, b], 0⟩ := by
  have e : prT ⟨5, [a, b], 0⟩ = [a, b] := by simp [prT]
  have hn : ¬ (a = 32 ∨ a = 9 ∨ a = 10 ∨ a = 13) ∧ a ≠ 45 := by
    have : ∀ x ∈ [((60 : UInt8), (62 : UInt8)), (60, 61), (62, 61), (124, 124)], ¬ (x.1 = 32 ∨ x.1 = 9 ∨ x.1 = 10 ∨ x.1 = 13) ∧ x.1 ≠ 45 := by decide
    exact this _ h
  refine ⟨fun r hr => ?_, ⟨a, [b], e, hn.1, fun r hr h => hn.2 h.1⟩, by simp⟩
  rw [e]; exact tok_sym2 h r
theorem numP_dig_bound {l : List UInt8} (hl : l ≠ []) (hd : ∀ c ∈ l, isDig c = true) {v : Int} (h : numP l = some v) : 0 ≤ v ∧ v ≤ 9223372036854775807 := by
  rw [numP_digits hl hd] at h
  split at h
  · injection h with h; omega
  · cases h
/-- Every word of a text is read again from what it is written as. -/
theorem tokP_good {l : List UInt8} {t : Tk} {n : Nat} (h : tokP l = some (t, n)) : GoodT t := by
  match l, h with
  | c :: r, h =>
    by_cases h1 : (c = 120 ∨ c = 88) ∧ r.head? = some 39
    · rw [tokP_blob h1.1 h1.2] at h
      obtain ⟨y, hy, e⟩ := Option.map_eq_some_iff.mp h
      injection e with e _
      subst e
      exact good_blob _
    · cases hl : isLet c with
      | true =>
        rw [tokP_word h1 hl] at h
        injection h with h
        injection h with h _
        subst h
        have hall := run_all isWrd (c :: r)
        have hpos : 1 ≤ runP isWrd (c :: r) := run_pos isWrd (by simp [isWrd, hl])
        obtain ⟨m, hm⟩ : ∃ m, runP isWrd (c :: r) = m + 1 := ⟨runP isWrd (c :: r) - 1, by omega⟩
        rw [hm] at hall ⊢
        rw [List.take_succ_cons] at hall ⊢
        rw [List.map_cons]
        refine good_word (low_let hl) ?_ ?_
        · intro d hd
          rw [← List.map_cons] at hd
          obtain ⟨d', hd', rfl⟩ := List.mem_map.mp hd
          exact (low_wrd (hall d' hd')).1
        · rw [← List.map_cons, List.map_map]
          apply List.map_congr_left
          intro d hd
          exact (low_wrd (hall d hd)).2
      | false =>
        cases hd : isDig c with
        | true =>
          rw [tokP_num h1 hl hd] at h
          obtain ⟨v, hv, e⟩ := Option.map_eq_some_iff.mp h
          injection e with e _
          subst e
          have hpos : 1 ≤ runP isDig (c :: r) := run_pos isDig hd
          have hne : (c :: r).take (runP isDig (c :: r)) ≠ [] := by
            intro e
            have := congrArg List.length e
            rw [List.length_take] at this
            simp only [List.length_cons, List.length_nil] at this
            omega
          obtain ⟨b0, b1⟩ := numP_dig_bound hne (run_all isDig (c :: r)) hv
          exact good_num b0 b1
        | false =>
          by_cases hq : c = 39
          · subst hq
            rw [tokP_text] at h
            obtain ⟨y, hy, e⟩ := Option.map_eq_some_iff.mp h
            injection e with e _
            subst e
            exact good_text _
          · rw [tokP_sym h1 hl hd hq] at h
            by_cases h0 : symP (c :: r) = 0
            · rw [if_pos h0] at h; cases h
            · rw [if_neg h0] at h
              injection h with h
              injection h with h _
              subst h
              by_cases h2 : (c = 60 ∧ r.head? = some 62) ∨ (c = 60 ∧ r.head? = some 61) ∨ (c = 62 ∧ r.head? = some 61) ∨ (c = 124 ∧ r.head? = some 124)
              · have hs : symP (c :: r) = 2 := by rw [symP, if_pos h2]
                rw [hs]
                cases r with
                | nil => simp at h2
                | cons d r =>
                  simp only [List.head?_cons, Option.some.injEq] at h2
                  exact good_sym2 (by simp only [List.mem_cons, List.not_mem_nil, or_false, Prod.mk.injEq]; exact h2)
              · by_cases hm : c ∈ symBytes
                · have hs : symP (c :: r) = 1 := by rw [symP, if_neg h2, if_pos (by exact hm)]
                  rw [hs]
                  exact good_sym1 hm
                · exfalso
                  apply h0
                  rw [symP, if_neg h2, if_neg (by exact hm)]
theorem unhex_len : ∀ (n : Nat) (l x : List UInt8), l.length ≤ n → unhex l = some x → x.length ≤ l.length
  | _, [], x, _, h => by simp [unhex] at h; subst h; simp
  | _, [a], x, _, h => by simp [unhex] at h
  | 0, a :: b :: r, x, hn, h => by simp at hn
  | n + 1, a :: b :: r, x, hn, h => by
    rw [unhex_cons] at h
    cases hp : hexPair a b with
    | none => rw [hp] at h; simp at h
    | some v =>
      rw [hp] at h
      simp only [Option.bind_some] at h
      obtain ⟨y, hy, rfl⟩ := Option.map_eq_some_iff.mp h
      simp only [List.length_cons] at hn ⊢
      have := unhex_len n r y (by omega) hy
      omega
theorem textP_len : ∀ (n : Nat) (l : List UInt8), l.length ≤ n → ∀ x, textP l = some x → x.1.length ≤ l.length
  | _, [], _, x, h => by rw [textP_nil] at h; cases h
  | 0, c :: r, hn, x, h => by simp at hn
  | n + 1, c :: r, hn, x, h => by
    simp only [List.length_cons] at hn ⊢
    by_cases hc : c = 39
    · subst hc
      match r, h, hn with
      | [], h, _ => rw [textP_q0] at h; injection h with h; subst h; simp
      | d :: r', h, hn =>
        simp only [List.length_cons] at hn ⊢
        by_cases hd : d = 39
        · subst hd
          rw [textP_q2] at h
          obtain ⟨y, hy, rfl⟩ := Option.map_eq_some_iff.mp h
          have := textP_len n r' (by omega) y hy
          simp only [List.length_cons]
          omega
        · rw [textP_q1 hd] at h; injection h with h; subst h; simp
    · rw [textP_c hc] at h
      obtain ⟨y, hy, rfl⟩ := Option.map_eq_some_iff.mp h
      have := textP_len n r (by omega) y hy
      simp only [List.length_cons]
      omega
theorem tokP_textlen {l : List UInt8} {t : Tk} {n : Nat} (h : tokP l = some (t, n)) : t.text.length ≤ l.length := by
  match l, h with
  | c :: r, h =>
    by_cases h1 : (c = 120 ∨ c = 88) ∧ r.head? = some 39
    · rw [tokP_blob h1.1 h1.2] at h
      obtain ⟨y, hy, e⟩ := Option.map_eq_some_iff.mp h
      injection e with e _
      subst e
      unfold blobP at hy
      split at hy
      · obtain ⟨z, hz, rfl⟩ := Option.map_eq_some_iff.mp hy
        have := unhex_len _ _ _ (Nat.le_refl _) hz
        have h2 := takeW_le (· != 39) r.tail
        simp only [List.length_tail] at h2
        simp only [List.length_cons]
        omega
      · cases hy
    · cases hl : isLet c with
      | true =>
        rw [tokP_word h1 hl] at h
        injection h with h
        injection h with h _
        subst h
        simp only [List.length_map, List.length_take]
        omega
      | false =>
        cases hd : isDig c with
        | true =>
          rw [tokP_num h1 hl hd] at h
          obtain ⟨v, hv, e⟩ := Option.map_eq_some_iff.mp h
          injection e with e _
          subst e
          simp
        | false =>
          by_cases hq : c = 39
          · subst hq
            rw [tokP_text] at h
            obtain ⟨y, hy, e⟩ := Option.map_eq_some_iff.mp h
            injection e with e _
            subst e
            have := textP_len _ r (Nat.le_refl _) y hy
            simp only [List.length_cons]
            omega
          · rw [tokP_sym h1 hl hd hq] at h
            by_cases h0 : symP (c :: r) = 0
            · rw [if_pos h0] at h; cases h
            · rw [if_neg h0] at h
              injection h with h
              injection h with h _
              subst h
              simp only [List.length_take]
              omega
theorem toks_good : ∀ (f k : Nat) (s : List UInt8) (ts : List (Tk × Nat)), toksP f k s = .ok ts → ∀ x ∈ ts, GoodT x.1 ∧ x.1.text.length ≤ s.length
  | 0, k, s, ts, h, x, hx => by simp [toksP] at h; subst h; simp at hx
  | f + 1, k, [], ts, h, x, hx => by simp [toksP] at h; subst h; simp at hx
  | f + 1, k, c :: r, ts, h, x, hx => by
    rw [toksP] at h
    try simp only at h
    split at h
    · have := toks_good f _ _ _ h x hx
      exact ⟨this.1, by simp only [List.length_cons]; omega⟩
    · split at h
      · split at h
        · have h1 := toks_good f _ _ _ h x hx
          have h2 : ((c :: r).takeWhile (· != 10)).length + ((c :: r).dropWhile (· != 10)).length = (c :: r).length := by
            have e : (c :: r).takeWhile (· != 10) ++ (c :: r).dropWhile (· != 10) = c :: r := List.takeWhile_append_dropWhile
            have := congrArg List.length e
            rw [List.length_append] at this
            exact this
          exact ⟨h1.1, by omega⟩
        · simp at h; subst h; simp at hx
      · cases ht : tokP (c :: r) with
        | none => rw [ht] at h; simp at h
        | some y =>
          obtain ⟨t, n⟩ := y
          rw [ht] at h
          simp only at h
          cases hr : toksP f (k + n) ((c :: r).drop n) with
          | error j => rw [hr] at h; simp [Except.map] at h
          | ok ts' =>
            rw [hr] at h
            simp [Except.map] at h
            subst h
            rcases List.mem_cons.mp hx with rfl | hx
            · exact ⟨tokP_good ht, tokP_textlen ht⟩
            · have := toks_good f _ _ _ hr x hx
              rw [List.length_drop] at this
              exact ⟨this.1, by omega⟩
/-- The words with a blank behind each. -/
def spaced (ts : List Tk) : List UInt8 := ts.flatMap fun t => prT t ++ [32]
theorem spaced_cons (t : Tk) (ts : List Tk) : spaced (t :: ts) = prT t ++ 32 :: spaced ts := by simp [spaced]
theorem toks_word {c : UInt8} {r : List UInt8} {t : Tk} {n : Nat} (hb : ¬ (c = 32 ∨ c = 9 ∨ c = 10 ∨ c = 13)) (hn : ¬ (c = 45 ∧ r.head? = some 45)) (ht : tokP (c :: r) = some (t, n)) (f k : Nat) : toksP (f + 1) k (c :: r) = (toksP f (k + n) ((c :: r).drop n)).map ((t, k) :: ·) := by
  rw [toksP]
  try simp only
  rw [if_neg hb, if_neg hn, ht]
theorem spaced_read : ∀ (ts : List Tk), (∀ t ∈ ts, GoodT t) → ∀ (f k : Nat), (spaced ts).length ≤ f → ∃ xs, toksP f k (spaced ts) = .ok xs ∧ xs.map (·.1) = ts
  | [], _, f, k, _ => ⟨[], by cases f <;> simp [toksP, spaced], rfl⟩
  | t :: ts, h, f, k, hf => by
    have hg := h t (by simp)
    obtain ⟨c, u, hp, hb, hn⟩ := hg.first
    have hs : Sep (32 :: spaced ts) := Sep.mk' (.inl rfl) _
    have ha := hg.again _ hs
    rw [spaced_cons] at hf ⊢
    rw [hp] at ha hf ⊢
    simp only [List.cons_append, List.length_cons, List.length_append] at hf
    obtain ⟨g, rfl⟩ : ∃ g, f = g + 2 := ⟨f - 2, by omega⟩
    obtain ⟨xs, hx, hm⟩ := spaced_read ts (fun d hd => h d (by simp [hd])) g (k + (c :: u).length + 1) (by omega)
    refine ⟨(t, k) :: xs, ?_, by simp [hm]⟩
    have e := toks_word (f := g + 1) (k := k) hb (hn _ hs) ha
    rw [List.cons_append, e, ← List.cons_append, List.drop_left' rfl]
    have e2 : toksP (g + 1) (k + (c :: u).length) (32 :: spaced ts) = toksP g (k + (c :: u).length + 1) (spaced ts) := by
      rw [toksP]
      try simp only
      rw [if_pos (by simp)]
    rw [e2, hx]
    rfl
theorem lexT_spaced {l : List UInt8} {ts : List (Tk × Nat)} (h : lexT l = .ok ts) : ∃ xs, lexT (spaced (ts.map (·.1))) = .ok xs ∧ xs.map (·.1) = ts.map (·.1) := by
  refine spaced_read _ ?_ _ 0 (Nat.le_refl _)
  intro t ht
  obtain ⟨x, hx, rfl⟩ := List.mem_map.mp ht
  exact (toks_good _ _ _ _ h x hx).1
theorem lexT_good {l : List UInt8} {ts : List (Tk × Nat)} (h : lexT l = .ok ts) (i : Nat) (hi : i < ts.length) : GoodT ts[i].1 ∧ ts[i].1.text.length ≤ l.length := toks_good _ _ _ _ h _ (List.getElem_mem hi)
end Go.Proofs.YtcefmhofidoloaaGreatDoor.Lex
