/- Texts put together: FitR, Prt7, Wds, Wds2, Wds3, Le, Wk13. -/
import Derived.Test.YtcefmhofidoloaaGreatDoorQc9
/- What the reader reads fits, and is not long when it is written. -/
set_option linter.unusedVariables false
set_option linter.unusedSimpArgs false
namespace Go.Proofs.YtcefmhofidoloaaGreatDoor.Exp
open Go.Proofs.YtcefmhofidoloaaGreatDoor.Lex

theorem tok_num0 {l : List UInt8} {t : Tk} {n : Nat} (h : tokP l = some (t, n)) (hk : t.kind = 1) : t.num = 0 := by
  cases l with
  | nil => simp [tokP] at h
  | cons c r =>
    rw [tokP.eq_2] at h
    split at h
    · obtain ⟨y, hy, e⟩ := Option.map_eq_some_iff.mp h
      injection e with e _
      subst e; rfl
    · split at h
      · injection h with h; injection h with h _; subst h; rfl
      · split at h
        · obtain ⟨y, hy, e⟩ := Option.map_eq_some_iff.mp h
          injection e with e _
          subst e; simp at hk
        · split at h
          · obtain ⟨y, hy, e⟩ := Option.map_eq_some_iff.mp h
            injection e with e _
            subst e; rfl
          · split at h
            · cases h
            · injection h with h; injection h with h _; subst h; rfl
theorem good_num0 {t : Tk} (h : GoodT t) (hk : t.kind = 1) : t.num = 0 := tok_num0 (h.again [] (.inl rfl)) hk
theorem good_eta {t : Tk} (h : GoodT t) (hk : t.kind = 1) : GoodT ⟨1, t.text, 0⟩ := by
  have h0 := good_num0 h hk
  cases t
  simp only at hk h0
  subst hk h0
  exact h
/-- Words that are right and not too long. -/
def GoodL (B : Nat) (l : Toks) : Prop := ∀ (i : Nat) (x : Tk × Nat), l[i]? = some x → GoodT x.1 ∧ 2 * x.1.text.length + 100 ≤ B ∧ x.1.text.length ≤ 1048576
section
variable (nm : List UInt8 → Bool) (B : Nat)
def FitP (k : Nat) (L : Int) (f : Nat → Res Ex) : Prop := ∀ i e j, f i = .ok (e, j) → Fit nm k L e ∧ lnP litV e + 2 + i * B ≤ j * B
structure Fits (k : Nat) (p : PF) : Prop where
  or : FitP nm B k 1 p.or
  not : FitP nm B k 3 p.not
  sign : FitP nm B k 8 p.sign
end
section
variable {nm : List UInt8 → Bool} {B : Nat} {l : Toks}
theorem op_ln {ops : List Sg} {M : Int} (hm : ∀ x ∈ ops, pairLn x.2.2.toNat = M) {i : Nat} {o : Int} (h : operT ops l i = some o) : pairLn o.toNat = M := by
  obtain ⟨x, hx, rfl⟩ := opT_mem h
  exact hm x hx
theorem chainL_fit {k : Nat} {M : Int} {ops : List Sg} {f : Nat → Res Ex} (ho : OpsOK ops) (hm : ∀ x ∈ ops, pairLn x.2.2.toNat = M) (hl : lftL M = M) (hB : 100 ≤ B) (hf : FitP nm B k (M + 1) f) : ∀ (n : Nat) (e : Ex) (i : Nat) (x : Ex) (j i0 : Nat), Fit nm k M e ∧ lnP litV e + 2 + i0 * B ≤ i * B → chainL ops f l n e i = .ok (x, j) → Fit nm k M x ∧ lnP litV x + 2 + i0 * B ≤ j * B
  | 0, e, i, x, j, i0, he, h => by rw [chainL] at h; injection h with h; injection h with h h'; rw [← h, ← h']; exact he
  | n + 1, e, i, x, j, i0, he, h => by
    rw [chainL] at h
    split at h
    · injection h with h; injection h with h h'; rw [← h, ← h']; exact he
    · rename_i o hop
      split at h
      · cases h
      · rename_i y q hk
        have hy := hf _ _ _ hk
        have hM := op_ln hm hop
        refine chainL_fit ho hm hl hB hf n _ _ _ _ _ ⟨?_, ?_⟩ h
        · exact .pair _ _ _ _ _ (by omega) (ho.of hop) (by rw [hM, hl]; exact he.1) (by rw [hM]; exact hy.1)
        · have h1 := len_pair litV (ho.of hop) e y
          have h2 := hy.2
          rw [Nat.succ_mul] at h2
          omega
theorem chainP_fit {k : Nat} {M : Int} {ops : List Sg} {f : Nat → Res Ex} (ho : OpsOK ops) (hm : ∀ x ∈ ops, pairLn x.2.2.toNat = M) (hl : lftL M = M) (hB : 100 ≤ B) (hf : FitP nm B k (M + 1) f) : FitP nm B k M (chainP ops f l) := by
  intro i e j h
  unfold chainP at h
  split at h
  · cases h
  · rename_i y q hk
    have hy := hf _ _ _ hk
    exact chainL_fit ho hm hl hB hf _ _ _ _ _ _ ⟨fit_low hy.1 (by omega), hy.2⟩ h
theorem argsL_fit {k : Nat} {p : PF} (hB : 100 ≤ B) (hp : Fits nm B k p) : ∀ (n : Nat) (es : List Ex) (i : Nat) (x : List Ex) (j i0 : Nat), ((∀ y ∈ es, Fit nm k 1 y) ∧ lnL litV es + i0 * B ≤ i * B) → argsL l p n es i = .ok (x, j) → ((∀ y ∈ x, Fit nm k 1 y) ∧ lnL litV x + i0 * B ≤ j * B) ∧ x.length = es.length + n
  | 0, es, i, x, j, i0, he, h => by rw [argsL] at h; injection h with h; injection h with h h'; rw [← h, ← h']; exact ⟨he, rfl⟩
  | n + 1, es, i, x, j, i0, he, h => by
    rw [argsL] at h
    split at h
    · cases h
    · rename_i a ha
      have h0 := (mustT_ok ha).2
      split at h
      · cases h
      · rename_i y q hk
        have hy := hp.or _ _ _ hk
        have h2 := argsL_fit hB hp n _ _ _ _ i0 ⟨fun z hz => ?_, ?_⟩ h
        · exact ⟨h2.1, by rw [h2.2]; simp; omega⟩
        · rcases List.mem_append.mp hz with hz | hz
          · exact he.1 z hz
          · simp at hz; subst hz; exact hy.1
        · have h3 := hy.2
          rw [h0, Nat.succ_mul] at h3
          rw [lnL_snoc]
          omega
theorem callP_fit {k : Nat} {p : PF} (hB : 100 ≤ B) (hp : Fits nm B k p) (s : List UInt8) (f : Int × Int × Nat) (hf : funT s = some f) : FitP nm B (k + 1) 9 (callP l (some p) f) := by
  intro i e j h
  unfold callP at h
  simp only at h
  split at h
  · rename_i hz
    split at h
    · cases h
    · rename_i a ha
      have h0 := (mustT_ok ha).2
      injection h with h; injection h with h h'; rw [← h, ← h', hz.1, hz.2.1]
      refine ⟨.star _ _ (by omega), ?_⟩
      have : lnP litV (callE 6 1 []) = 8 := by decide
      rw [this, h0, Nat.succ_mul, Nat.succ_mul, Nat.succ_mul]
      omega
  · split at h
    · cases h
    · rename_i es q hk
      split at h
      · cases h
      · rename_i a ha
        have h0 := (mustT_ok ha).2
        injection h with h; injection h with h h'; rw [← h, ← h']
        unfold argsP at hk
        split at hk
        · cases hk
        · rename_i y m hm
          have hy := hp.or _ _ _ hm
          have h2 := argsL_fit hB hp _ _ _ _ _ (i + 1) ⟨fun z hz => ?_, ?_⟩ hk
          · have hn : 1 ≤ f.2.2 := (funT_ok hf).1
            have he : es.length = f.2.2 := by rw [h2.2]; simp; omega
            refine ⟨.call _ _ s f es (by omega) hf he h2.1.1, ?_⟩
            have h3 := len_call litV hf he
            have h4 := h2.1.2
            rw [h0, Nat.succ_mul]
            rw [Nat.succ_mul] at h4
            omega
          · simp at hz; subst hz; exact hy.1
          · have := hy.2
            simp only [lnL]
            omega
theorem nameT_good (hg : GoodL B l) {i : Nat} {s : List UInt8} {j : Nat} (h : nameT nm l i = .ok (s, j)) : GoodN nm s ∧ j = i + 1 ∧ 2 * s.length + 100 ≤ B := by
  have hj := nameT_ok h
  unfold nameT at h
  split at h
  · rename_i x hx
    split at h
    · rename_i hc
      injection h with h; injection h with h _
      obtain ⟨h1, h2, _⟩ := hg i x hx
      rw [← h]
      exact ⟨⟨good_eta h1 hc.1, hc.2⟩, hj, h2⟩
    · cases h
  · cases h
theorem pr_col_eq (lit : Vl → List UInt8) (t n : List UInt8) : prE lit (colE t n) = if t = [] then n else t ++ [46] ++ n := by rw [prE_eq]; rfl
theorem colP_fit {k : Nat} (hB : 100 ≤ B) (hg : GoodL B l) : FitP nm B k 9 (colP nm l) := by
  intro i e j h
  unfold colP at h
  split at h
  · cases h
  · rename_i n q hq
    obtain ⟨g1, g2, g3⟩ := nameT_good hg hq
    split at h
    · split at h
      · cases h
      · rename_i m r hr
        obtain ⟨g4, g5, g6⟩ := nameT_good hg hr
        injection h with h; injection h with h h'; rw [← h, ← h']
        refine ⟨.col _ _ _ _ g1 g4 (by omega), ?_⟩
        have : lnP litV (colE n m) ≤ n.length + m.length + 1 := by
          unfold lnP
          rw [pr_col_eq]
          split
          · omega
          · simp only [List.length_append, List.length_cons, List.length_nil]; omega
        rw [g5, g2, Nat.succ_mul, Nat.succ_mul, Nat.succ_mul]
        omega
    · injection h with h; injection h with h h'; rw [← h, ← h']
      refine ⟨.col0 _ _ _ g1 (by omega), ?_⟩
      have : lnP litV (colE [] n) = n.length := by
        unfold lnP
        rw [pr_col_eq, if_pos rfl]
      rw [this, g2, Nat.succ_mul]
      omega
theorem lit_fit {k : Nat} {v : Vl} {i : Nat} (hv : GoodV v) (hs : 2 * v.text.length + 100 ≤ B) : Fit nm k 9 (litE v) ∧ lnP litV (litE v) + 2 + i * B ≤ (i + 1) * B := by
  refine ⟨.lit _ _ _ hv (by omega), ?_⟩
  have h1 := len_lit hv
  have h2 : lnP litV (litE v) = (litV v).length := by
    unfold lnP
    rw [prE_eq]
    simp only [litE, Ex.args, Ex.kind, Ex.op, Ex.v, prL, prK, List.length_nil]
    rw [if_neg (by decide), if_pos trivial]
  rw [h2, Nat.succ_mul]
  omega
theorem FitP.next {k : Nat} {L : Int} {f : Nat → Res Ex} (h : FitP nm B k L f) {i : Nat} {e : Ex} {j : Nat} (hf : f (i + 1) = .ok (e, j)) : Fit nm k L e ∧ lnP litV e + 2 + B + i * B ≤ j * B := by
  have := h _ _ _ hf
  refine ⟨this.1, ?_⟩
  have h2 := this.2
  rw [Nat.succ_mul] at h2
  omega
theorem sub_some {sub : Option PF} {k : Nat} (hs : ∀ p, sub = some p → ∃ q, k = q + 1 ∧ Fits nm B q p) {p : PF} (h : sub = some p) : ∃ q, k = q + 1 ∧ Fits nm B q p := hs p h
theorem wordP_fit {k : Nat} {sub : Option PF} (hB : 100 ≤ B) (hg : GoodL B l) (hs : ∀ p, sub = some p → ∃ q, k = q + 1 ∧ Fits nm B q p) (s : List UInt8) : FitP nm B k 9 (wordP nm l sub s) := by
  intro i e j h
  unfold wordP at h
  split at h
  · injection h with h; injection h with h h'; rw [← h, ← h']; exact lit_fit (.inl rfl) (by simpa [vNull] using hB)
  · split at h
    · injection h with h; injection h with h h'; rw [← h, ← h']; exact lit_fit (.inr (.inl rfl)) (by simpa using hB)
    · split at h
      · injection h with h; injection h with h h'; rw [← h, ← h']; exact lit_fit (.inr (.inr (.inl rfl))) (by simpa using hB)
      · split at h
        · rename_i f hf
          split at h
          · cases sub with
            | none => simp [callP] at h
            | some p =>
              obtain ⟨q, rfl, hp⟩ := hs p rfl
              have := (callP_fit hB hp s f hf).next h
              exact ⟨this.1, by omega⟩
          · exact colP_fit hB hg _ _ _ h
        · exact colP_fit hB hg _ _ _ h
theorem itemP_fit {k : Nat} {sub : Option PF} (hB : 100 ≤ B) (hg : GoodL B l) (hs : ∀ p, sub = some p → ∃ q, k = q + 1 ∧ Fits nm B q p) : FitP nm B k 9 (itemP nm l sub) := by
  intro i e j h
  unfold itemP at h
  split at h
  · cases h
  · rename_i x hx
    obtain ⟨h1, h2, h2'⟩ := hg i x hx
    split at h
    · injection h with h; injection h with h h'; rw [← h, ← h']; exact lit_fit (.inr (.inr (.inr (.inl ⟨_, h1.num.1, h1.num.2, rfl⟩)))) (by simpa using hB)
    · split at h
      · injection h with h; injection h with h h'; rw [← h, ← h']; exact lit_fit (.inr (.inr (.inr (.inr (.inl ⟨_, h2', rfl⟩))))) (by simpa using h2)
      · split at h
        · injection h with h; injection h with h h'; rw [← h, ← h']; exact lit_fit (.inr (.inr (.inr (.inr (.inr ⟨_, h2', rfl⟩))))) (by simpa using h2)
        · split at h
          · exact wordP_fit hB hg hs _ _ _ _ h
          · split at h
            · unfold brackP at h
              split at h
              · cases h
              · rename_i p
                obtain ⟨q, rfl, hp⟩ := hs p rfl
                split at h
                · cases h
                · rename_i y m hm
                  split at h
                  · cases h
                  · rename_i a ha
                    have h0 := (mustT_ok ha).2
                    injection h with h; injection h with h h'; rw [← h, ← h']
                    have := hp.or.next hm
                    refine ⟨fit_brack this.1, ?_⟩
                    rw [h0, Nat.succ_mul]
                    omega
            · cases h
theorem signP_fit {k : Nat} {sub : Option PF} (hB : 100 ≤ B) (hg : GoodL B l) (hs : ∀ p, sub = some p → ∃ q, k = q + 1 ∧ Fits nm B q p) : FitP nm B k 8 (signP nm l sub) := by
  intro i e j h
  unfold signP at h
  split at h
  · split at h
    · cases h
    · rename_i p
      obtain ⟨q, rfl, hp⟩ := hs p rfl
      split at h
      · cases h
      · rename_i y m hm
        injection h with h; injection h with h h'; rw [← h, ← h']
        have := hp.sign.next hm
        refine ⟨.neg _ _ _ (by omega) this.1, ?_⟩
        have h3 := len_un litV (.inl rfl : (1 : Int) = 1 ∨ (1 : Int) = 2) y
        omega
  · have := itemP_fit hB hg hs _ _ _ h
    exact ⟨fit_low this.1 (by omega), this.2⟩
theorem prodP_fit {k : Nat} {sub : Option PF} (hB : 100 ≤ B) (hg : GoodL B l) (hs : ∀ p, sub = some p → ∃ q, k = q + 1 ∧ Fits nm B q p) : FitP nm B k 7 (prodP nm l sub) := chainP_fit ops_prod (by decide) rfl hB (signP_fit hB hg hs)
theorem sumP_fit {k : Nat} {sub : Option PF} (hB : 100 ≤ B) (hg : GoodL B l) (hs : ∀ p, sub = some p → ∃ q, k = q + 1 ∧ Fits nm B q p) : FitP nm B k 6 (sumP nm l sub) := chainP_fit ops_sum (by decide) rfl hB (prodP_fit hB hg hs)
theorem catP_fit {k : Nat} {sub : Option PF} (hB : 100 ≤ B) (hg : GoodL B l) (hs : ∀ p, sub = some p → ∃ q, k = q + 1 ∧ Fits nm B q p) : FitP nm B k 5 (catP nm l sub) := chainP_fit ops_cat (by decide) rfl hB (sumP_fit hB hg hs)
theorem testP_fit {k : Nat} {sub : Option PF} (hB : 100 ≤ B) (hg : GoodL B l) (hs : ∀ p, sub = some p → ∃ q, k = q + 1 ∧ Fits nm B q p) : FitP nm B k 4 (testP nm l sub) := by
  intro i e j h
  unfold testP at h
  split at h
  · cases h
  · rename_i y m hm
    have hy := catP_fit hB hg hs _ _ _ hm
    split at h
    · split at h
      · cases h
      · rename_i a ha
        have h0 := (mustT_ok ha).2
        injection h with h; injection h with h h'; rw [← h, ← h']
        have ho : (if isT l (m + 1) 1 [110, 111, 116] = true then (1 : Int) else 0) = 0 ∨ (if isT l (m + 1) 1 [110, 111, 116] = true then (1 : Int) else 0) = 1 := by split <;> simp
        refine ⟨.null _ _ _ _ (by omega) ho hy.1, ?_⟩
        have h3 := len_null litV ho y
        have h4 := hy.2
        have h5 : (m + 1) * B ≤ a * B := Nat.mul_le_mul_right B (by split at h0 <;> omega)
        rw [Nat.succ_mul] at h5
        omega
    · split at h
      · injection h with h; injection h with h h'; rw [← h, ← h']; exact ⟨fit_low hy.1 (by omega), hy.2⟩
      · rename_i o hop
        split at h
        · cases h
        · rename_i z q hq
          injection h with h; injection h with h h'; rw [← h, ← h']
          have hz := (catP_fit hB hg hs).next hq
          have hM : pairLn o.toNat = 4 := op_ln (by decide) hop
          refine ⟨.pair _ _ _ _ _ (by omega) (ops_test.of hop) (by rw [hM]; exact hy.1) (by rw [hM]; exact hz.1), ?_⟩
          have h3 := len_pair litV (ops_test.of hop) y z
          have h4 := hy.2
          omega
theorem notP_fit {k : Nat} {sub : Option PF} (hB : 100 ≤ B) (hg : GoodL B l) (hs : ∀ p, sub = some p → ∃ q, k = q + 1 ∧ Fits nm B q p) : FitP nm B k 3 (notP nm l sub) := by
  intro i e j h
  unfold notP at h
  split at h
  · split at h
    · cases h
    · rename_i p
      obtain ⟨q, rfl, hp⟩ := hs p rfl
      split at h
      · cases h
      · rename_i y m hm
        injection h with h; injection h with h h'; rw [← h, ← h']
        have := hp.not.next hm
        refine ⟨.not _ _ _ (by omega) this.1, ?_⟩
        have h3 := len_un litV (.inr rfl : (2 : Int) = 1 ∨ (2 : Int) = 2) y
        omega
  · have := testP_fit hB hg hs _ _ _ h
    exact ⟨fit_low this.1 (by omega), this.2⟩
theorem andP_fit {k : Nat} {sub : Option PF} (hB : 100 ≤ B) (hg : GoodL B l) (hs : ∀ p, sub = some p → ∃ q, k = q + 1 ∧ Fits nm B q p) : FitP nm B k 2 (andP nm l sub) := chainP_fit ops_and (by decide) rfl hB (notP_fit hB hg hs)
theorem orP_fit {k : Nat} {sub : Option PF} (hB : 100 ≤ B) (hg : GoodL B l) (hs : ∀ p, sub = some p → ∃ q, k = q + 1 ∧ Fits nm B q p) : FitP nm B k 1 (orP nm l sub) := chainP_fit ops_or (by decide) rfl hB (andP_fit hB hg hs)
/-- What the reader reads fits, and is not long when it is written. -/
theorem readF_fit (hB : 100 ≤ B) (hg : GoodL B l) : ∀ k, Fits nm B k (readF nm l k)
  | 0 => ⟨orP_fit hB hg (fun p h => by cases h), notP_fit hB hg (fun p h => by cases h), signP_fit hB hg (fun p h => by cases h)⟩
  | k + 1 => ⟨orP_fit hB hg (fun p h => by cases h; exact ⟨k, rfl, readF_fit hB hg k⟩), notP_fit hB hg (fun p h => by cases h; exact ⟨k, rfl, readF_fit hB hg k⟩), signP_fit hB hg (fun p h => by cases h; exact ⟨k, rfl, readF_fit hB hg k⟩)⟩
end
end Go.Proofs.YtcefmhofidoloaaGreatDoor.Exp

/- expr.Print, whole. -/
set_option linter.unusedVariables false
set_option linter.unusedSimpArgs false
namespace Go.Proofs.YtcefmhofidoloaaGreatDoor.Exp
open Go.RowKit Go.Proofs.YtcefmhofidoloaaGreatDoor.Base Go.Proofs.YtcefmhofidoloaaGreatDoor.App Go.Proofs.YtcefmhofidoloaaGreatDoor.Byt Go.Proofs.YtcefmhofidoloaaGreatDoor.Lex

mutual
/-- All literals within are of values that are read. -/
def okV : Ex → Prop
  | .mk k _ v _ _ _ _ a => (k = 1 → GoodV v) ∧ okVL a
def okVL : List Ex → Prop
  | [] => True
  | x :: xs => okV x ∧ okVL xs
end
theorem okVL_mem : ∀ {l : List Ex}, okVL l → ∀ x ∈ l, okV x
  | [], _, x, hx => by cases hx
  | y :: r, h, x, hx => by
    rw [okVL] at h
    rcases List.mem_cons.mp hx with rfl | hx
    · exact h.1
    · exact okVL_mem h.2 x hx
theorem okVL_of : ∀ {l : List Ex}, (∀ x ∈ l, okV x) → okVL l
  | [], _ => by rw [okVL]; trivial
  | y :: r, h => by rw [okVL]; exact ⟨h y (by simp), okVL_of fun x hx => h x (by simp [hx])⟩
theorem okV_args {x : Ex} (h : okV x) : okVL x.args := by cases x; rw [okV] at h; exact h.2
theorem fit_okV {nm : List UInt8 → Bool} {k : Nat} {L : Int} {x : Ex} (h : Fit nm k L x) : okV x := by
  induction h with
  | lit k L v h1 h2 => rw [litE, okV]; exact ⟨fun _ => h1, by rw [okVL]; trivial⟩
  | col0 k L n h1 h2 => rw [colE, okV]; exact ⟨fun h => absurd h (by decide), by rw [okVL]; trivial⟩
  | col k L t n h0 h1 h2 => rw [colE, okV]; exact ⟨fun h => absurd h (by decide), by rw [okVL]; trivial⟩
  | neg k L a h1 h2 ih => rw [unE, okV]; exact ⟨fun h => absurd h (by decide), okVL_of fun x hx => by simp at hx; subst hx; exact ih⟩
  | not k L a h1 h2 ih => rw [unE, okV]; exact ⟨fun h => absurd h (by decide), okVL_of fun x hx => by simp at hx; subst hx; exact ih⟩
  | null k L o a h1 h2 h3 ih => rw [nullE, okV]; exact ⟨fun h => absurd h (by decide), okVL_of fun x hx => by simp at hx; subst hx; exact ih⟩
  | pair k L o a b h1 h2 h3 h4 ih1 ih2 => rw [pairE, okV]; exact ⟨fun h => absurd h (by decide), okVL_of fun x hx => by simp at hx; rcases hx with rfl | rfl; exact ih1; exact ih2⟩
  | call k L s f es h1 h2 h3 h4 ih =>
    rw [callE, okV]
    refine ⟨fun h => ?_, okVL_of ih⟩
    rcases funT_cases h2 with ⟨_, rfl⟩ | ⟨_, rfl⟩ | ⟨_, rfl⟩ | ⟨_, rfl⟩ | ⟨_, rfl⟩ | ⟨_, rfl⟩ | ⟨_, rfl⟩ | ⟨_, rfl⟩ | ⟨_, rfl⟩ | ⟨_, rfl⟩ <;> exact absurd h (by decide)
  | star k L h1 => rw [callE, okV]; exact ⟨fun h => absurd h (by decide), by rw [okVL]; trivial⟩
  | br k L x h1 h2 h3 ih => exact ih
theorem lit_calls {v : Vl} (h : GoodV v) (w : World) (hw : PrW w) :
    Calls Tryz.prog 57 #[.agg #[.int .i64 v.kind, .int .i64 v.int, .string ⟨v.text.toArray⟩]] w (PrintR (litV v) w) := by
  have size : ∀ s : List UInt8, (⟨s.toArray⟩ : ByteArray).size = s.length := fun s => by show s.toArray.size = _; simp
  rcases h with rfl | rfl | rfl | ⟨n, h0, h1, rfl⟩ | ⟨s, hs, rfl⟩ | ⟨s, hs, rfl⟩
  · exact lit_null w
  · exact lit_true w
  · exact lit_false w
  · exact lit_int n w (by omega) h1 (fun W hb => tab_below hw.pow hb)
  · have := lit_text ⟨s.toArray⟩ w (by rw [size]; exact hs) hw.sh
    exact this
  · have := lit_blob ⟨s.toArray⟩ w (by rw [size]; exact hs)
    exact this
theorem brT_ge (L : Int) (p : Int × List UInt8) : p.2.length ≤ (brT L p).length := by
  unfold brT
  split
  · simp; omega
  · exact Nat.le_refl _
theorem lnL_ge (lit : Vl → List UInt8) : ∀ (es : List Ex) (i : Nat) (h : i < es.length), (prE lit es[i]).length ≤ lnL lit es
  | x :: es, 0, h => by simp only [List.getElem_cons_zero, lnL, lnP]; omega
  | x :: es, i + 1, h => by
    have := lnL_ge lit es i (by simpa using h)
    simp only [List.getElem_cons_succ, lnL]
    omega
theorem all_ge (lit : Vl → List UInt8) (es : List Ex) (i : Nat) (h : i < es.length) : (prE lit es[i]).length ≤ (allT (prL lit es)).length := by
  cases es with
  | nil => simp at h
  | cons x es =>
    have h1 := joinTail_len lit es
    have e : allT (prL lit (x :: es)) = [40] ++ (prE lit x ++ Lib.joinTail [44, 32] ((prL lit es).map (·.2))) ++ [41] := by
      rw [prL, allT, List.map_cons, Lib.join_cons]
    rw [e]
    simp only [List.length_append, List.length_cons, List.length_nil, h1]
    cases i with
    | zero => simp only [List.getElem_cons_zero]; omega
    | succ i =>
      have := lnL_ge lit es i (by simpa using h)
      simp only [List.getElem_cons_succ]
      omega
theorem one_of {a : List Ex} (h : a.length = 1) : ∃ x, a = [x] := List.length_eq_one_iff.mp h
theorem two_of {a : List Ex} (h : a.length = 2) : ∃ x y, a = [x, y] := by
  match a, h with
  | [x, y], _ => exact ⟨x, y, rfl⟩
section
variable (v : Vl) (t n : List UInt8) (c ty : Int)
theorem pe_lit : prE litV (.mk 1 0 v t n c ty []) = litV v := by rw [prE_eq]; simp [Ex.args, Ex.kind, Ex.op, Ex.v, prL, prK, lnN, lineTab]
theorem pe_col : prE litV (.mk 2 0 v t n c ty []) = if t = [] then n else t ++ [46] ++ n := by rw [prE_eq]; rfl
theorem pe_star : prE litV (.mk 6 1 v t n c ty []) = [67, 79, 85, 78, 84, 40, 42, 41] := by rw [prE_eq]; simp [Ex.args, Ex.kind, Ex.op, Ex.v, prL, prK, lnN, lineTab, agT]
theorem pe_neg (a : Ex) : prE litV (.mk 3 1 v t n c ty [a]) = [45, 32] ++ brT 8 (lnE a, prE litV a) := by rw [prE_eq]; simp [Ex.args, Ex.kind, Ex.op, prL, prK, lnN, lineTab]
theorem pe_not (a : Ex) : prE litV (.mk 3 2 v t n c ty [a]) = [78, 79, 84, 32] ++ brT 3 (lnE a, prE litV a) := by rw [prE_eq]; simp [Ex.args, Ex.kind, Ex.op, prL, prK, lnN, lineTab]
theorem pe_is (a : Ex) : prE litV (.mk 7 0 v t n c ty [a]) = brT 5 (lnE a, prE litV a) ++ [32, 73, 83, 32, 78, 85, 76, 76] := by rw [prE_eq]; simp [Ex.args, Ex.kind, Ex.op, prL, prK, lnN, lineTab]
theorem pe_isnot (a : Ex) : prE litV (.mk 7 1 v t n c ty [a]) = brT 5 (lnE a, prE litV a) ++ [32, 73, 83, 32, 78, 79, 84, 32, 78, 85, 76, 76] := by rw [prE_eq]; simp [Ex.args, Ex.kind, Ex.op, prL, prK, lnN, lineTab]
theorem pe_agg (o : Nat) (h1 : 1 ≤ o) (h4 : o ≤ 4) (a : Ex) : prE litV (.mk 6 (o : Nat) v t n c ty [a]) = agT.getD o [] ++ allT (prL litV [a]) := by
  have hc : o = 1 ∨ o = 2 ∨ o = 3 ∨ o = 4 := by omega
  rw [prE_eq]
  rcases hc with rfl | rfl | rfl | rfl <;> simp [Ex.args, Ex.kind, Ex.op, prL, prK, lnN, lineTab]
theorem pe_pair (o : Nat) (h3 : 3 ≤ o) (h16 : o ≤ 16) (a b : Ex) : prE litV (.mk 4 (o : Nat) v t n c ty [a, b]) = brT (if pairLn o = 4 then 5 else pairLn o) (lnE a, prE litV a) ++ [32] ++ opT.getD o [] ++ [32] ++ brT (pairLn o + 1) (lnE b, prE litV b) := by
  have hp := pairLn_le (o := (o : Int)) (by omega)
  rw [prE_eq]
  have e : lnN 4 (o : Int) 2 = pairLn o := by unfold lnN; rw [if_pos rfl]; rfl
  rw [Int.toNat_natCast] at hp
  simp only [Ex.args, Ex.kind, Ex.op, prL, prK, List.length_cons, List.length_nil, Nat.zero_add, Nat.reduceAdd, e]
  rw [if_neg (by omega), if_neg (by decide), if_neg (by decide), if_neg (by decide), if_neg (by decide), if_neg (by decide), if_neg (by decide)]
  rfl
theorem pe_call (o : Nat) (h1 : 1 ≤ o) (h6 : o ≤ 6) (a : List Ex) (ha : a.length = opn o) : prE litV (.mk 5 (o : Nat) v t n c ty a) = fnT.getD o [] ++ allT (prL litV a) := by
  rw [prE_eq]
  have e : lnN 5 (o : Int) (opn o) = 9 := by unfold lnN; rw [if_neg (by decide), if_pos rfl]
  simp only [Ex.args, Ex.kind, Ex.op, prK, prL_len, ha, e]
  rw [if_neg (by decide), if_neg (by decide), if_neg (by decide), if_neg (by decide), if_neg (by decide), if_pos trivial]
  rfl
end
/-- expr.Print. -/
theorem print_ok (x : Ex) (hok : okE x) (hv : okV x) (hsz : (prE litV x).length ≤ 1099511627776) : PrintOK litV x := by
  intro P s w hw hh
  have hrec : (∀ i (h : i < x.args.length), (prE litV x.args[i]).length ≤ 1099511627776) → ∀ i (h : i < x.args.length), PrintOK litV x.args[i] := fun hl i h =>
    print_ok x.args[i] (okL_mem (okE_args hok).2 _ (List.getElem_mem h)) (okVL_mem (okV_args hv) _ (List.getElem_mem h)) (hl i h)
  obtain ⟨A, ca, rfl⟩ := held_len hh
  have hshp := (okE_args hok).1
  have hkids := (okE_args hok).2
  obtain ⟨k, o, v, t, n, c, ty, a⟩ := x
  simp only [Ex.args] at hh hrec hshp hkids ⊢
  have hsz2 := hsz
  rcases hshp with ⟨L, hL⟩ | ⟨j, h3, h16, hk, ho, hn⟩ | ⟨j, h1, h6, hk, ho, hn⟩
  · simp only [Ex.kind, Ex.op] at hL
    simp only [lineTab, List.mem_cons, List.not_mem_nil, or_false, Prod.mk.injEq] at hL
    rcases hL with ⟨rfl, rfl, hn, -⟩ | ⟨rfl, rfl, hn, -⟩ | ⟨rfl, rfl, hn, -⟩ | ⟨rfl, rfl, hn, -⟩ | ⟨rfl, rfl, hn, -⟩ | ⟨rfl, rfl, hn, -⟩ | ⟨rfl, rfl, hn, -⟩ | ⟨rfl, rfl, hn, -⟩ | ⟨rfl, rfl, hn, -⟩ | ⟨rfl, rfl, hn, -⟩ | ⟨rfl, rfl, hn, -⟩
    · obtain rfl := List.length_eq_zero_iff.mp hn
      rw [pe_lit]
      rw [okV] at hv
      exact print_lit litV v t n c ty A ca w (fun W hb => lit_calls (hv.1 rfl) W (prw_below hw hb))
    · obtain rfl := List.length_eq_zero_iff.mp hn
      rw [pe_col] at hsz2 ⊢
      have h2 : t.length ≤ 1099511627776 ∧ n.length ≤ 1099511627776 := by
        split at hsz2
        · rename_i h; subst h; exact ⟨by simp, hsz2⟩
        · simp only [List.length_append, List.length_cons, List.length_nil] at hsz2; omega
      exact print_col v t n c ty A ca w h2.1 h2.2
    · obtain rfl := List.length_eq_zero_iff.mp hn
      rw [pe_star]
      exact print_star v t n c ty A ca w
    all_goals first
      | (obtain ⟨a0, rfl⟩ := one_of hn
         have hl : (prE litV a0).length ≤ 1099511627776 := by
           have h0 := all_ge litV [a0] 0 (by simp)
           first
             | (rw [show prE litV (Ex.mk 6 1 v t n c ty [a0]) = agT.getD 1 [] ++ allT (prL litV [a0]) from pe_agg v t n c ty 1 (by decide) (by decide) a0, List.length_append] at hsz2; simp only [List.getElem_cons_zero] at h0; omega)
             | (rw [show prE litV (Ex.mk 6 2 v t n c ty [a0]) = agT.getD 2 [] ++ allT (prL litV [a0]) from pe_agg v t n c ty 2 (by decide) (by decide) a0, List.length_append] at hsz2; simp only [List.getElem_cons_zero] at h0; omega)
             | (rw [show prE litV (Ex.mk 6 3 v t n c ty [a0]) = agT.getD 3 [] ++ allT (prL litV [a0]) from pe_agg v t n c ty 3 (by decide) (by decide) a0, List.length_append] at hsz2; simp only [List.getElem_cons_zero] at h0; omega)
             | (rw [show prE litV (Ex.mk 6 4 v t n c ty [a0]) = agT.getD 4 [] ++ allT (prL litV [a0]) from pe_agg v t n c ty 4 (by decide) (by decide) a0, List.length_append] at hsz2; simp only [List.getElem_cons_zero] at h0; omega)
         have hr := hrec (fun i h => by have : i = 0 := (by simpa using h); subst this; exact hl)
         have hat : ∀ o : Nat, (prE litV (Ex.mk 6 (o : Int) v t n c ty [a0])).length ≤ 1099511627776 → 1 ≤ o → o ≤ 4 → (allT (prL litV [a0])).length ≤ 1099511627776 := fun o h h1 h4 => by
           rw [pe_agg v t n c ty o h1 h4 a0, List.length_append] at h; omega
         first
           | (rw [show prE litV (Ex.mk 6 1 v t n c ty [a0]) = agT.getD 1 [] ++ allT (prL litV [a0]) from pe_agg v t n c ty 1 (by decide) (by decide) a0]; exact print_agg litV v t n c ty 1 (by decide) (by decide) P [a0] A ca w rfl hr (hat 1 hsz (by decide) (by decide)) hw hh)
           | (rw [show prE litV (Ex.mk 6 2 v t n c ty [a0]) = agT.getD 2 [] ++ allT (prL litV [a0]) from pe_agg v t n c ty 2 (by decide) (by decide) a0]; exact print_agg litV v t n c ty 2 (by decide) (by decide) P [a0] A ca w rfl hr (hat 2 hsz (by decide) (by decide)) hw hh)
           | (rw [show prE litV (Ex.mk 6 3 v t n c ty [a0]) = agT.getD 3 [] ++ allT (prL litV [a0]) from pe_agg v t n c ty 3 (by decide) (by decide) a0]; exact print_agg litV v t n c ty 3 (by decide) (by decide) P [a0] A ca w rfl hr (hat 3 hsz (by decide) (by decide)) hw hh)
           | (rw [show prE litV (Ex.mk 6 4 v t n c ty [a0]) = agT.getD 4 [] ++ allT (prL litV [a0]) from pe_agg v t n c ty 4 (by decide) (by decide) a0]; exact print_agg litV v t n c ty 4 (by decide) (by decide) P [a0] A ca w rfl hr (hat 4 hsz (by decide) (by decide)) hw hh))
      | (obtain ⟨a0, rfl⟩ := one_of hn
         have hk0 : okE a0 := okL_mem hkids a0 (by simp [Ex.args])
         have hl : (prE litV a0).length ≤ 1099511627776 := by
           have h8 := brT_ge 8 (lnE a0, prE litV a0)
           have h3 := brT_ge 3 (lnE a0, prE litV a0)
           have h5 := brT_ge 5 (lnE a0, prE litV a0)
           simp only at h8 h3 h5
           first
             | (rw [pe_neg, List.length_append] at hsz2; omega)
             | (rw [pe_not, List.length_append] at hsz2; omega)
             | (rw [pe_is, List.length_append] at hsz2; omega)
             | (rw [pe_isnot, List.length_append] at hsz2; omega)
         have hr := hrec (fun i h => by have : i = 0 := (by simpa using h); subst this; exact hl) 0 (by simp)
         first
           | (rw [pe_neg]; exact print_neg litV v t n c ty P a0 A ca w hk0 hr hl hw hh)
           | (rw [pe_not]; exact print_not litV v t n c ty P a0 A ca w hk0 hr hl hw hh)
           | (rw [pe_is]; exact print_is litV v t n c ty P a0 A ca w hk0 hr hl hw hh)
           | (rw [pe_isnot]; exact print_isnot litV v t n c ty P a0 A ca w hk0 hr hl hw hh))
  · simp only [Ex.kind, Ex.op] at hk ho
    subst hk ho
    obtain ⟨a0, b0, rfl⟩ := two_of hn
    rw [pe_pair v t n c ty j h3 h16] at hsz2 ⊢
    have g1 := brT_ge (if pairLn j = 4 then 5 else pairLn j) (lnE a0, prE litV a0)
    have g2 := brT_ge (pairLn j + 1) (lnE b0, prE litV b0)
    simp only [List.length_append] at hsz2 g1 g2
    have hl1 : (prE litV a0).length ≤ 1099511627776 := by omega
    have hl2 : (prE litV b0).length ≤ 1099511627776 := by omega
    have hr := hrec (fun i h => by
      have : i = 0 ∨ i = 1 := by have : i < 2 := h; omega
      rcases this with rfl | rfl
      · exact hl1
      · exact hl2)
    exact print_pair litV v t n c ty j h3 h16 P a0 b0 A ca w (okL_mem hkids a0 (by simp [Ex.args])) (okL_mem hkids b0 (by simp [Ex.args])) (hr 0 (by simp)) (hr 1 (by simp)) hl1 hl2 hw hh
  · simp only [Ex.kind, Ex.op] at hk ho
    subst hk ho
    rw [pe_call v t n c ty j h1 h6 a hn, List.length_append] at hsz2
    rw [pe_call v t n c ty j h1 h6 a hn]
    have hr := hrec (fun i h => by have := all_ge litV a i h; omega)
    have := print_call litV v t n c ty j h1 h6 P a A ca w hn hr (by omega) hw hh
    rw [← hn] at this
    exact this
termination_by SizeOf.sizeOf x
decreasing_by exact args_lt _ i h
end Go.Proofs.YtcefmhofidoloaaGreatDoor.Exp

/- An expression's words; the reader reads it again from them. -/
set_option linter.unusedVariables false
set_option linter.unusedSimpArgs false
namespace Go.Proofs.YtcefmhofidoloaaGreatDoor.Exp
open Go.Proofs.YtcefmhofidoloaaGreatDoor.Lex

abbrev tkW (s : List UInt8) : Tk := ⟨1, s, 0⟩
abbrev tkS (s : List UInt8) : Tk := ⟨5, s, 0⟩
def litW (v : Vl) : Tk :=
  if v.kind = 0 then tkW [110, 117, 108, 108]
  else if v.kind = 1 then (if v.int = 1 then tkW [116, 114, 117, 101] else tkW [102, 97, 108, 115, 101])
  else if v.kind = 2 then ⟨2, [], v.int⟩
  else if v.kind = 3 then ⟨3, v.text, 0⟩
  else ⟨4, v.text, 0⟩
def opW : List Tk := [tkW [], tkW [], tkW [], tkW [111, 114], tkW [97, 110, 100], tkS [61], tkS [60, 62], tkS [60], tkS [60, 61], tkS [62], tkS [62, 61], tkS [43], tkS [45], tkS [42], tkS [47], tkS [37], tkS [124, 124]]
def opK (o : Int) : Tk := opW.getD o.toNat (tkW [])
def fnW : List (List UInt8) := [[], [108, 101, 110, 103, 116, 104], [97, 98, 115], [117, 112, 112, 101, 114], [108, 111, 119, 101, 114], [115, 117, 98, 115, 116, 114], [99, 111, 97, 108, 101, 115, 99, 101]]
def agW : List (List UInt8) := [[], [99, 111, 117, 110, 116], [115, 117, 109], [109, 105, 110], [109, 97, 120]]
def callW (k o : Int) : Tk := tkW (if k = 5 then fnW.getD o.toNat [] else agW.getD o.toNat [])
/-- An operand's words, in brackets if it needs them. -/
def brW (L : Int) (p : Int × List Tk) : List Tk := if p.1 ≠ 0 ∧ p.1 < L then tkS [40] :: (p.2 ++ [tkS [41]]) else p.2
def tailW (ps : List (Int × List Tk)) : List Tk := ps.flatMap fun p => tkS [44] :: p.2
def joinW : List (Int × List Tk) → List Tk
  | [] => []
  | p :: ps => p.2 ++ tailW ps
def allW (ps : List (Int × List Tk)) : List Tk := tkS [40] :: (joinW ps ++ [tkS [41]])
def isW (o : Int) : List Tk := if o = 0 then [tkW [105, 115], tkW [110, 117, 108, 108]] else [tkW [105, 115], tkW [110, 111, 116], tkW [110, 117, 108, 108]]
def wdK (k o : Int) (v : Vl) (t n : List UInt8) (ps : List (Int × List Tk)) : List Tk :=
  let p0 := ps.getD 0 (0, [])
  let p1 := ps.getD 1 (0, [])
  if k = 1 then [litW v]
  else if k = 2 then (if t = [] then [tkW n] else [tkW t, tkS [46], tkW n])
  else if k = 3 then (if o = 2 then tkW [110, 111, 116] :: brW 3 p0 else tkS [45] :: brW 8 p0)
  else if k = 7 then brW 5 p0 ++ isW o
  else if k = 5 then callW k o :: allW ps
  else if k = 6 then (if ps = [] then [callW k o, tkS [40], tkS [42], tkS [41]] else callW k o :: allW ps)
  else brW (lftL (pairLn o.toNat)) p0 ++ opK o :: brW (pairLn o.toNat + 1) p1
mutual
/-- An expression's words. -/
def wdE : Ex → List Tk
  | .mk k o v t n _ _ a => wdK k o v t n (wdL a)
def wdL : List Ex → List (Int × List Tk)
  | [] => []
  | x :: xs => (lnE x, wdE x) :: wdL xs
end
/-- An expression's words at a line. -/
def wdB (L : Int) (x : Ex) : List Tk := brW L (lnE x, wdE x)
theorem wdE_eq (x : Ex) : wdE x = wdK x.kind x.op x.v x.table x.name (wdL x.args) := by cases x; rw [wdE]; rfl
theorem wd_lit (v : Vl) : wdE (litE v) = [litW v] := by rw [wdE_eq]; rfl
theorem wd_col0 (n : List UInt8) : wdE (colE [] n) = [tkW n] := by rw [wdE_eq]; rfl
theorem wd_col_eq (t n : List UInt8) : wdE (colE t n) = if t = [] then [tkW n] else [tkW t, tkS [46], tkW n] := by rw [wdE_eq]; rfl
theorem wd_col {t : List UInt8} (ht : t ≠ []) (n : List UInt8) : wdE (colE t n) = [tkW t, tkS [46], tkW n] := by rw [wd_col_eq, if_neg ht]
theorem wd_neg (a : Ex) : wdE (unE 1 a) = tkS [45] :: wdB 8 a := by
  rw [wdE_eq]; simp [unE, Ex.kind, Ex.op, Ex.v, Ex.table, Ex.name, Ex.args, wdK, wdL, wdB]
theorem wd_not (a : Ex) : wdE (unE 2 a) = tkW [110, 111, 116] :: wdB 3 a := by
  rw [wdE_eq]; simp [unE, Ex.kind, Ex.op, Ex.v, Ex.table, Ex.name, Ex.args, wdK, wdL, wdB]
theorem wd_null (o : Int) (a : Ex) : wdE (nullE o a) = wdB 5 a ++ isW o := by
  rw [wdE_eq]; simp [nullE, Ex.kind, Ex.op, Ex.v, Ex.table, Ex.name, Ex.args, wdK, wdL, wdB]
theorem wd_pair (o : Int) (a b : Ex) : wdE (pairE o a b) = wdB (lftL (pairLn o.toNat)) a ++ opK o :: wdB (pairLn o.toNat + 1) b := by
  rw [wdE_eq]; simp [pairE, Ex.kind, Ex.op, Ex.v, Ex.table, Ex.name, Ex.args, wdK, wdL, wdB]
theorem wdL_len : ∀ es : List Ex, (wdL es).length = es.length
  | [] => by rw [wdL]; rfl
  | x :: es => by rw [wdL, List.length_cons, wdL_len es, List.length_cons]
theorem funT_pos {s : List UInt8} {f : Int × Int × Nat} (h : funT s = some f) : 1 ≤ f.2.2 := (funT_ok h).1
theorem wd_call {s : List UInt8} {f : Int × Int × Nat} (h : funT s = some f) {es : List Ex} (he : es.length = f.2.2) : wdE (callE f.1 f.2.1 es) = tkW s :: allW (wdL es) := by
  have hp := funT_pos h
  have hne : wdL es ≠ [] := by
    intro e
    have := wdL_len es
    rw [e] at this
    simp at this
    omega
  rw [wdE_eq]
  rcases funT_cases h with ⟨rfl, rfl⟩ | ⟨rfl, rfl⟩ | ⟨rfl, rfl⟩ | ⟨rfl, rfl⟩ | ⟨rfl, rfl⟩ | ⟨rfl, rfl⟩ | ⟨rfl, rfl⟩ | ⟨rfl, rfl⟩ | ⟨rfl, rfl⟩ | ⟨rfl, rfl⟩
  all_goals simp [callE, Ex.kind, Ex.op, Ex.v, Ex.table, Ex.name, Ex.args, wdK, callW, fnW, agW, hne]
theorem wd_star : wdE (callE 6 1 []) = [tkW [99, 111, 117, 110, 116], tkS [40], tkS [42], tkS [41]] := by
  rw [wdE_eq]; simp [callE, Ex.kind, Ex.op, Ex.v, Ex.table, Ex.name, Ex.args, wdK, wdL, callW, agW]
theorem wdB_no {L : Int} {x : Ex} (h : L ≤ lnE x) : wdB L x = wdE x := by unfold wdB brW; rw [if_neg (by simp only; omega)]
theorem wdB_br {L : Int} {x : Ex} (h1 : 1 ≤ lnE x) (h : lnE x < L) : wdB L x = tkS [40] :: (wdE x ++ [tkS [41]]) := by unfold wdB brW; rw [if_pos (by simp only; omega)]

/-! The words from a place on. -/
def At (l : Toks) (i : Nat) (ts : List Tk) : Prop := (l.drop i).map (·.1) = ts
theorem At.cons {l : Toks} {i : Nat} {t : Tk} {ts : List Tk} (h : At l i (t :: ts)) : (∃ p, l[i]? = some (t, p)) ∧ At l (i + 1) ts := by
  unfold At at h ⊢
  cases hd : l.drop i with
  | nil => rw [hd] at h; simp at h
  | cons x r =>
    rw [hd] at h
    simp only [List.map_cons, List.cons.injEq] at h
    have h1 : l[i]? = some x := by
      have := congrArg (fun q : Toks => q[0]?) hd
      simpa using this
    have h2 : l.drop (i + 1) = r := by
      have := congrArg (List.drop 1) hd
      simpa [List.drop_drop, Nat.add_comm] using this
    refine ⟨⟨x.2, ?_⟩, ?_⟩
    · rw [h1, ← h.1]
    · rw [h2]; exact h.2
theorem At.nil {l : Toks} {i : Nat} (h : At l i []) : l[i]? = none := by
  unfold At at h
  have : l.drop i = [] := by simpa using h
  rw [List.drop_eq_nil_iff] at this
  exact List.getElem?_eq_none this
theorem At.app {l : Toks} : ∀ {i : Nat} {a b : List Tk}, At l i (a ++ b) → At l (i + a.length) b
  | i, [], b, h => h
  | i, t :: a, b, h => by
    have := At.app (a := a) h.cons.2
    rw [List.length_cons, show i + (a.length + 1) = i + 1 + a.length by omega]
    exact this
theorem At.len {l : Toks} {i : Nat} {ts : List Tk} (h : At l i ts) : ts.length = l.length - i := by
  unfold At at h
  rw [← h]
  simp
theorem isT_at {l : Toks} {i : Nat} {t : Tk} {p : Nat} (h : l[i]? = some (t, p)) (k : Nat) (s : List UInt8) : isT l i k s = (t.kind == k && t.text == s) := by
  unfold isT; rw [h]
theorem isT_end {l : Toks} {i : Nat} (h : l[i]? = none) (k : Nat) (s : List UInt8) : isT l i k s = false := by
  unfold isT; rw [h]
theorem must_at {l : Toks} {i : Nat} {k : Nat} {s : List UInt8} {n : Int} {p : Nat} (h : l[i]? = some (⟨k, s, n⟩, p)) : mustT l i k s = .ok (i + 1) := by
  unfold mustT
  rw [isT_at h]
  simp
/-- The line of the operator that a word is; a bracket and a point are above all. -/
def lnK (k : Nat) (s : List UInt8) : Int :=
  if k = 1 then (if s = [111, 114] then 1 else if s = [97, 110, 100] then 2 else if s = [105, 115] then 4 else 0)
  else if k = 5 then (if s = [124, 124] then 5 else if s = [43] ∨ s = [45] then 6 else if s = [42] ∨ s = [47] ∨ s = [37] then 7 else if s = [61] ∨ s = [60, 62] ∨ s = [60] ∨ s = [60, 61] ∨ s = [62] ∨ s = [62, 61] then 4 else if s = [40] ∨ s = [46] then 100 else 0)
  else 0
/-- What stands behind does not go on at a line or a later one. -/
def Fol (L : Int) (ts : List Tk) : Prop := ∀ t r, ts = t :: r → lnK t.kind t.text < L
theorem Fol.nil (L : Int) : Fol L [] := fun t r h => by cases h
theorem Fol.cons {L : Int} {t : Tk} (r : List Tk) (h : lnK t.kind t.text < L) : Fol L (t :: r) := fun t' r' e => by injection e with e _; rw [← e]; exact h
theorem Fol.up {L M : Int} {ts : List Tk} (h : Fol L ts) (hl : L ≤ M) : Fol M ts := fun t r e => by have := h t r e; omega
theorem fol_is {L : Int} {l : Toks} {i : Nat} {ts : List Tk} (h : Fol L ts) (ha : At l i ts) (k : Nat) (s : List UInt8) (hk : L ≤ lnK k s) : isT l i k s = false := by
  cases ts with
  | nil => exact isT_end ha.nil _ _
  | cons t r =>
    obtain ⟨p, hp⟩ := ha.cons.1
    rw [isT_at hp]
    cases hc : (t.kind == k && t.text == s) with
    | false => rfl
    | true =>
      rw [Bool.and_eq_true, beq_iff_eq, beq_iff_eq] at hc
      have := h t r rfl
      rw [hc.1, hc.2] at this
      omega
theorem fol_op {L : Int} {l : Toks} {i : Nat} {ts : List Tk} (h : Fol L ts) (ha : At l i ts) : ∀ ops : List Sg, (∀ x ∈ ops, L ≤ lnK x.1 x.2.1) → operT ops l i = none
  | [], _ => rfl
  | x :: ops, ho => by
    rw [operT, fol_is h ha _ _ (ho x (by simp)), if_neg (by decide)]
    exact fol_op h ha ops fun y hy => ho y (by simp [hy])
def sgM (M : Int) : List Sg := if M = 1 then sgOr else if M = 2 then sgAnd else if M = 4 then sgTest else if M = 5 then sgCat else if M = 6 then sgSum else sgProd
theorem op_yes {o : Int} (h : 3 ≤ o ∧ o ≤ 16) {l : Toks} {i p : Nat} (hi : l[i]? = some (opK o, p)) : operT (sgM (pairLn o.toNat)) l i = some o := by
  have hc : o = 3 ∨ o = 4 ∨ o = 5 ∨ o = 6 ∨ o = 7 ∨ o = 8 ∨ o = 9 ∨ o = 10 ∨ o = 11 ∨ o = 12 ∨ o = 13 ∨ o = 14 ∨ o = 15 ∨ o = 16 := by omega
  rcases hc with rfl | rfl | rfl | rfl | rfl | rfl | rfl | rfl | rfl | rfl | rfl | rfl | rfl | rfl
  all_goals simp [pairLn, sgM, sgOr, sgAnd, sgTest, sgCat, sgSum, sgProd, operT, isT, hi, opK, opW]
theorem opK_ln {o : Int} (h : 3 ≤ o ∧ o ≤ 16) : lnK (opK o).kind (opK o).text = pairLn o.toNat ∧ ¬ ((opK o).kind = 1 ∧ (opK o).text = [105, 115]) := by
  have hc : o = 3 ∨ o = 4 ∨ o = 5 ∨ o = 6 ∨ o = 7 ∨ o = 8 ∨ o = 9 ∨ o = 10 ∨ o = 11 ∨ o = 12 ∨ o = 13 ∨ o = 14 ∨ o = 15 ∨ o = 16 := by omega
  rcases hc with rfl | rfl | rfl | rfl | rfl | rfl | rfl | rfl | rfl | rfl | rfl | rfl | rfl | rfl
  all_goals decide
section
variable (nm : List UInt8 → Bool) (l : Toks) (sub : Option PF)
def lineF (L : Int) : Nat → Res Ex :=
  if L = 1 then orP nm l sub else if L = 2 then andP nm l sub else if L = 3 then notP nm l sub else if L = 4 then testP nm l sub
  else if L = 5 then catP nm l sub else if L = 6 then sumP nm l sub else if L = 7 then prodP nm l sub else if L = 8 then signP nm l sub else itemP nm l sub
end
def isCh (L : Int) : Prop := L = 1 ∨ L = 2 ∨ L = 5 ∨ L = 6 ∨ L = 7
theorem line_chain {L : Int} (h : isCh L) (nm : List UInt8 → Bool) (l : Toks) (sub : Option PF) : lineF nm l sub L = chainP (sgM L) (lineF nm l sub (L + 1)) l := by
  rcases h with rfl | rfl | rfl | rfl | rfl <;> rfl
section
variable (nm : List UInt8 → Bool)
def Rds (k : Nat) (L : Int) (x : Ex) : Prop := ∀ (l : Toks) (i : Nat) (rest : List Tk), At l i (wdB L x ++ rest) → Fol L rest → lineF nm l (subF nm l k) L i = .ok (x, i + (wdB L x).length)
def Chn (k : Nat) (L : Int) (x : Ex) : Prop := ∀ (l : Toks) (i : Nat) (rest : List Tk), At l i (wdB L x ++ rest) → Fol (L + 1) rest → ∃ n, l.length - (i + (wdB L x).length) ≤ n ∧ lineF nm l (subF nm l k) L i = chainL (sgM L) (lineF nm l (subF nm l k) (L + 1)) l n x (i + (wdB L x).length)
def RC (k : Nat) (L : Int) (x : Ex) : Prop := Rds nm k L x ∧ (isCh L → Chn nm k L x)
end
section
variable {nm : List UInt8 → Bool}
theorem sgM_ge {L : Int} (h : isCh L) : ∀ x ∈ sgM L, L ≤ lnK x.1 x.2.1 := by
  rcases h with rfl | rfl | rfl | rfl | rfl <;> decide
theorem chn_rds {k : Nat} {L : Int} {x : Ex} (hc : isCh L) (h : Chn nm k L x) : Rds nm k L x := by
  intro l i rest ha hf
  obtain ⟨n, hn, he⟩ := h l i rest ha (hf.up (by omega))
  have hno := fol_op hf ha.app (sgM L) (sgM_ge hc)
  rw [he]
  cases n with
  | zero => rfl
  | succ n => rw [chainL, hno]
/-- The words of an expression begin with a word, which is a NOT only at the lines up to 3, a minus only up to 8. -/
def Hd (L : Int) (ws : List Tk) : Prop := ∃ t r, ws = t :: r ∧ (4 ≤ L → ¬ (t.kind = 1 ∧ t.text = [110, 111, 116])) ∧ (9 ≤ L → ¬ (t.kind = 5 ∧ t.text = [45])) ∧ ¬ (t.kind = 5 ∧ t.text = [42])
theorem Hd.app {L : Int} {ws : List Tk} (h : Hd L ws) (q : List Tk) : Hd L (ws ++ q) := by
  obtain ⟨t, r, rfl, h⟩ := h
  exact ⟨t, r ++ q, rfl, h⟩
theorem Hd.low {L M : Int} {ws : List Tk} (h : Hd M ws) (hl : L ≤ M) : Hd L ws := by
  obtain ⟨t, r, rfl, h1, h2, h3⟩ := h
  exact ⟨t, r, rfl, fun h => h1 (by omega), fun h => h2 (by omega), h3⟩
theorem goodN_ne {s : List UInt8} (h : GoodN nm s) : s ≠ [] := by
  obtain ⟨c, u, e, _⟩ := h.1.first
  intro h0
  subst h0
  simp [prT] at e
theorem lnE_br {x : Ex} {k : Nat} {L : Int} (h : Fit nm k L x) {M : Int} (hM : M ≤ lnE x) : wdB M x = wdE x := wdB_no hM
theorem wdB_any {x : Ex} (h1 : 1 ≤ lnE x) (L : Int) : wdB L x = wdE x ∨ wdB L x = tkS [40] :: (wdE x ++ [tkS [41]]) := by
  by_cases h : L ≤ lnE x
  · exact .inl (wdB_no h)
  · exact .inr (wdB_br h1 (by omega))
theorem hd_br {L : Int} (q : List Tk) : Hd L (tkS [40] :: q) := ⟨_, _, rfl, fun _ h => absurd h.1 (by decide), fun _ h => absurd h.2 (by decide), fun h => absurd h.2 (by decide)⟩
theorem fit_hd (hnm : nm [110, 111, 116] = false) {k : Nat} {L : Int} {x : Ex} (h : Fit nm k L x) : Hd L (wdB L x) := by
  have word : ∀ (L : Int) (s : List UInt8) (q : List Tk), s ≠ [110, 111, 116] → Hd L (tkW s :: q) := fun L s q hs => ⟨_, _, rfl, fun _ h => hs h.2, fun _ h => absurd h.1 (show ¬ (1 : Nat) = 5 by decide), fun h => absurd h.1 (show ¬ (1 : Nat) = 5 by decide)⟩
  have nmd : ∀ s, GoodN nm s → s ≠ [110, 111, 116] := fun s h e => by subst e; rw [h.2] at hnm; cases hnm
  induction h with
  | lit k L v h1 h2 =>
    rw [wdB_no (by rw [ln_lit]; exact h2), wd_lit]
    rcases h1 with rfl | rfl | rfl | ⟨n, _, _, rfl⟩ | ⟨s, _, rfl⟩ | ⟨s, _, rfl⟩
    · exact word _ _ _ (by decide)
    · exact word _ _ _ (by decide)
    · exact word _ _ _ (by decide)
    · exact ⟨_, _, rfl, fun _ h => absurd h.1 (by simp [litW]), fun _ h => absurd h.1 (by simp [litW]), fun h => absurd h.1 (by simp [litW])⟩
    · exact ⟨_, _, rfl, fun _ h => absurd h.1 (by simp [litW]), fun _ h => absurd h.1 (by simp [litW]), fun h => absurd h.1 (by simp [litW])⟩
    · exact ⟨_, _, rfl, fun _ h => absurd h.1 (by simp [litW]), fun _ h => absurd h.1 (by simp [litW]), fun h => absurd h.1 (by simp [litW])⟩
  | col0 k L n h1 h2 => rw [wdB_no (by rw [ln_col]; exact h2), wd_col0]; exact word _ _ _ (nmd _ h1)
  | col k L t n h0 h1 h2 => rw [wdB_no (by rw [ln_col]; exact h2), wd_col (goodN_ne h0)]; exact word _ _ _ (nmd _ h0)
  | neg k L a h1 h2 ih =>
    rw [wdB_no (by rw [ln_neg]; exact h1), wd_neg]
    exact ⟨_, _, rfl, fun _ h => absurd h.1 (by decide), fun h => by omega, fun h => absurd h.2 (by decide)⟩
  | not k L a h1 h2 ih =>
    rw [wdB_no (by rw [ln_not]; exact h1), wd_not]
    exact ⟨_, _, rfl, fun h => by omega, fun h => by omega, fun h => absurd h.1 (by decide)⟩
  | null k L o a h1 h2 h3 ih =>
    rw [wdB_no (by rw [ln_null h2]; exact h1), wd_null]
    exact (ih.low (by omega)).app _
  | pair k L o a b h1 h2 h3 h4 ih1 ih2 =>
    rw [wdB_no (by rw [ln_pair]; exact h1), wd_pair]
    have : L ≤ lftL (pairLn o.toNat) := by unfold lftL; split <;> omega
    exact (ih1.low this).app _
  | call k L s f es h1 h2 h3 h4 ih =>
    rw [wdB_no (by rw [ln_call h2 h3]; exact h1), wd_call h2 h3]
    refine word _ _ _ ?_
    rintro rfl
    revert h2
    simp [funT]
  | star k L h1 => rw [wdB_no (by rw [ln_star]; exact h1), wd_star]; exact word _ _ _ (by decide)
  | br k L x h1 h2 h3 ih => rw [wdB_br (fit_ln h3).1 h1]; exact hd_br _
theorem lower1 {k : Nat} {L : Int} {x : Ex} (h1 : 1 ≤ L) (h2 : L ≤ 8) (he : wdB L x = wdB (L + 1) x) (hh : Hd (L + 1) (wdB L x)) (h : Rds nm k (L + 1) x) : RC nm k L x := by
  have chain : isCh L → Chn nm k L x := fun hc l i rest ha hf => by
    refine ⟨_, Nat.le_refl _, ?_⟩
    rw [line_chain hc]
    unfold chainP
    have h3 := h l i rest (by rw [← he]; exact ha) hf
    rw [← he] at h3
    rw [h3]
  by_cases hc : isCh L
  · exact ⟨chn_rds hc (chain hc), chain⟩
  · refine ⟨fun l i rest ha hf => ?_, fun h => absurd h hc⟩
    have h3 := h l i rest (by rw [← he]; exact ha) (hf.up (by omega))
    rw [← he] at h3
    obtain ⟨t, r, ht, hn, hm, _⟩ := hh
    have ha0 := ha
    rw [ht] at ha0
    obtain ⟨p, hp⟩ := At.cons (by exact ha0) |>.1
    have h348 : L = 3 ∨ L = 4 ∨ L = 8 := by unfold isCh at hc; omega
    rcases h348 with rfl | rfl | rfl
    · show notP nm l (subF nm l k) i = _
      unfold notP
      rw [isT_at hp]
      have : (t.kind == 1 && t.text == [110, 111, 116]) = false := by
        cases hb : (t.kind == 1 && t.text == [110, 111, 116]) with
        | false => rfl
        | true =>
          rw [Bool.and_eq_true, beq_iff_eq, beq_iff_eq] at hb
          exact absurd hb (hn (by decide))
      rw [this, if_neg (by decide)]
      exact h3
    · show testP nm l (subF nm l k) i = _
      unfold testP
      have h4 : catP nm l (subF nm l k) i = _ := h3
      rw [h4]
      simp only
      rw [fol_is hf ha.app 1 [105, 115] (by decide), if_neg (by decide), fol_op hf ha.app sgTest (by decide)]
    · show signP nm l (subF nm l k) i = _
      unfold signP
      rw [isT_at hp]
      have : (t.kind == 5 && t.text == [45]) = false := by
        cases hb : (t.kind == 5 && t.text == [45]) with
        | false => rfl
        | true =>
          rw [Bool.and_eq_true, beq_iff_eq, beq_iff_eq] at hb
          exact absurd hb (hm (by decide))
      rw [this, if_neg (by decide)]
      exact h3
theorem lowerTo (hnm : nm [110, 111, 116] = false) {k : Nat} {M : Int} {x : Ex} (hM : M ≤ 9) (hfit : Fit nm k M x) (h : RC nm k M x) : ∀ (d : Nat) (L : Int), L + d = M → 1 ≤ L → (∀ N, L ≤ N → N ≤ M → wdB N x = wdB M x) → RC nm k L x
  | 0, L, hd, h1, he => by
    have : L = M := by omega
    subst this; exact h
  | d + 1, L, hd, h1, he => by
    have ih := lowerTo hnm hM hfit h d (L + 1) (by omega) (by omega) (fun N h2 h3 => he N (by omega) h3)
    have e : wdB L x = wdB (L + 1) x := by rw [he L (by omega) (by omega), he (L + 1) (by omega) (by omega)]
    refine lower1 h1 (by omega) e ?_ ih.1
    rw [e]
    exact fit_hd hnm (fit_low hfit (by omega))
/-- From a line at which it needs no brackets to the lines before. -/
theorem lower_no (hnm : nm [110, 111, 116] = false) {k : Nat} {M L : Int} {x : Ex} (hfit : Fit nm k M x) (h : RC nm k M x) (hM : M ≤ lnE x) (h1 : 1 ≤ L) (hl : L ≤ M) : RC nm k L x :=
  lowerTo hnm (fit_le hfit) hfit h (M - L).toNat L (by omega) h1 fun N h2 h3 => by rw [wdB_no (by omega), wdB_no hM]
theorem item9 {k : Nat} {x : Ex} (h : Rds nm k 9 x) : RC nm k 9 x := ⟨h, fun hc => by unfold isCh at hc; omega⟩
end
end Go.Proofs.YtcefmhofidoloaaGreatDoor.Exp

/- An expression is read from its words. -/
set_option linter.unusedVariables false
set_option linter.unusedSimpArgs false
namespace Go.Proofs.YtcefmhofidoloaaGreatDoor.Exp
open Go.Proofs.YtcefmhofidoloaaGreatDoor.Lex

section
variable {nm : List UInt8 → Bool}
theorem name_at {l : Toks} {i : Nat} {s : List UInt8} {p : Nat} (h : l[i]? = some (tkW s, p)) (hn : nm s = true) : nameT nm l i = .ok (s, i + 1) := by
  unfold nameT
  rw [h]
  simp [hn]
theorem lit_item {v : Vl} (hv : GoodV v) (l : Toks) (sub : Option PF) {i p : Nat} (h : l[i]? = some (litW v, p)) : itemP nm l sub i = .ok (litE v, i + 1) := by
  unfold itemP
  rw [h]
  rcases hv with rfl | rfl | rfl | ⟨n, _, _, rfl⟩ | ⟨s, _, rfl⟩ | ⟨s, _, rfl⟩
  · simp [litW, vNull, wordP]
  · simp [litW, wordP]
  · simp [litW, wordP]
  · simp [litW]
  · simp [litW]
  · simp [litW]
theorem word_col (hno : nm [110, 117, 108, 108] = false ∧ nm [116, 114, 117, 101] = false ∧ nm [102, 97, 108, 115, 101] = false) {s : List UInt8} (hs : nm s = true) (l : Toks) (sub : Option PF) {i p : Nat} (h : l[i]? = some (tkW s, p)) (hb : isT l (i + 1) 5 [40] = false) : itemP nm l sub i = colP nm l i := by
  have h1 : s ≠ [110, 117, 108, 108] := fun e => by subst e; rw [hno.1] at hs; cases hs
  have h2 : s ≠ [116, 114, 117, 101] := fun e => by subst e; rw [hno.2.1] at hs; cases hs
  have h3 : s ≠ [102, 97, 108, 115, 101] := fun e => by subst e; rw [hno.2.2] at hs; cases hs
  unfold itemP
  rw [h]
  simp only
  rw [if_neg (by decide), if_neg (by decide), if_neg (by decide), if_pos trivial]
  unfold wordP
  rw [if_neg h1, if_neg h2, if_neg h3]
  cases funT s with
  | none => rfl
  | some f => simp only; rw [hb, if_neg (by decide)]
theorem word_fun {s : List UInt8} {f : Int × Int × Nat} (hf : funT s = some f) (l : Toks) (sub : Option PF) {i p : Nat} (h : l[i]? = some (tkW s, p)) (hb : isT l (i + 1) 5 [40] = true) : itemP nm l sub i = callP l sub f (i + 1) := by
  have hs : s ≠ [110, 117, 108, 108] ∧ s ≠ [116, 114, 117, 101] ∧ s ≠ [102, 97, 108, 115, 101] := by
    refine ⟨?_, ?_, ?_⟩ <;> (rintro rfl; revert hf; simp [funT])
  unfold itemP
  rw [h]
  simp only
  rw [if_neg (by decide), if_neg (by decide), if_neg (by decide), if_pos trivial]
  unfold wordP
  rw [if_neg hs.1, if_neg hs.2.1, if_neg hs.2.2, hf]
  simp only
  rw [hb, if_pos rfl]
theorem sub_or {l : Toks} {k : Nat} : subF nm l (k + 1) = some (readF nm l k) := rfl
theorem or_line {l : Toks} {k : Nat} : (readF nm l k).or = lineF nm l (subF nm l k) 1 := by rw [readF_eq]; rfl
theorem not_line {l : Toks} {k : Nat} : (readF nm l k).not = lineF nm l (subF nm l k) 3 := by rw [readF_eq]; rfl
theorem sign_line {l : Toks} {k : Nat} : (readF nm l k).sign = lineF nm l (subF nm l k) 8 := by rw [readF_eq]; rfl
/-- Operands behind the first. -/
theorem args_read {k : Nat} {l : Toks} (rest : List Tk) : ∀ (es : List Ex) (done : List Ex) (i : Nat), (∀ x ∈ es, Fit nm k 1 x ∧ Rds nm k 1 x) → At l i (tailW (wdL es) ++ tkS [41] :: rest) → argsL l (readF nm l k) es.length done i = .ok (done ++ es, i + (tailW (wdL es)).length)
  | [], done, i, _, _ => by rw [List.length_nil, argsL, List.append_nil]; rfl
  | x :: es, done, i, h, ha => by
    have hx := h x (by simp)
    have e0 : tailW (wdL (x :: es)) = tkS [44] :: (wdE x ++ tailW (wdL es)) := by rw [wdL]; simp [tailW]
    have ew : wdB 1 x = wdE x := wdB_no (fit_ln hx.1).1
    rw [e0] at ha ⊢
    simp only [List.cons_append, List.append_assoc] at ha
    obtain ⟨⟨p, hp⟩, ha1⟩ := ha.cons
    have hfol : Fol 1 (tailW (wdL es) ++ tkS [41] :: rest) := by
      cases es with
      | nil => exact Fol.cons _ (by decide)
      | cons y es => rw [wdL]; exact Fol.cons _ (by decide)
    have h1 := hx.2 l (i + 1) _ (by rw [ew]; exact ha1) hfol
    rw [ew] at h1
    rw [List.length_cons, argsL, must_at hp]
    simp only
    rw [or_line, h1]
    simp only
    rw [args_read rest es (done ++ [x]) _ (fun y hy => h y (by simp [hy])) ha1.app]
    simp only [List.append_assoc, List.singleton_append, List.length_cons, List.length_append]
    rw [show i + 1 + (wdE x).length + (tailW (wdL es)).length = i + ((wdE x).length + (tailW (wdL es)).length + 1) by omega]
theorem call_read (hnm : nm [110, 111, 116] = false) {k : Nat} {L : Int} {s : List UInt8} {f : Int × Int × Nat} {es : List Ex} (hf : funT s = some f) (he : es.length = f.2.2) (h : ∀ x ∈ es, Fit nm k 1 x ∧ Rds nm k 1 x) : Rds nm (k + 1) 9 (callE f.1 f.2.1 es) := by
  intro l i rest ha hfol
  have hp := funT_pos hf
  rw [wdB_no (by rw [ln_call hf he]; decide), wd_call hf he] at ha ⊢
  obtain ⟨x, es', rfl⟩ : ∃ x es', es = x :: es' := by
    cases es with
    | nil => simp at he; omega
    | cons x es' => exact ⟨x, es', rfl⟩
  have hx := h x (by simp)
  have ew : wdB 1 x = wdE x := wdB_no (fit_ln hx.1).1
  have e0 : allW (wdL (x :: es')) = tkS [40] :: (wdE x ++ (tailW (wdL es') ++ [tkS [41]])) := by rw [wdL]; simp [allW, joinW]
  rw [e0] at ha ⊢
  simp only [List.cons_append, List.append_assoc, List.nil_append] at ha
  obtain ⟨⟨p, hp0⟩, ha1⟩ := ha.cons
  obtain ⟨⟨p1, hp1⟩, ha2⟩ := ha1.cons
  have hfol1 : Fol 1 (tailW (wdL es') ++ tkS [41] :: rest) := by
    cases es' with
    | nil => exact Fol.cons _ (by decide)
    | cons y es => rw [wdL]; exact Fol.cons _ (by decide)
  have h1 := hx.2 l (i + 1 + 1) _ (by rw [ew]; exact ha2) hfol1
  rw [ew] at h1
  have hstar : isT l (i + 1 + 1) 5 [42] = false := by
    obtain ⟨t, r, ht, _, _, hs⟩ := fit_hd hnm hx.1
    rw [ew] at ht
    have ha3 := ha2
    rw [ht] at ha3
    obtain ⟨⟨q, hq⟩, _⟩ := At.cons (by exact ha3)
    rw [isT_at hq]
    cases hb : (t.kind == 5 && t.text == [42]) with
    | false => rfl
    | true =>
      rw [Bool.and_eq_true, beq_iff_eq, beq_iff_eq] at hb
      exact absurd hb hs
  show itemP nm l (subF nm l (k + 1)) i = _
  rw [word_fun hf l _ hp0 (by rw [isT_at hp1]; rfl), sub_or]
  unfold callP
  simp only
  rw [if_neg (by rintro ⟨_, _, h⟩; rw [hstar] at h; cases h)]
  unfold argsP
  rw [or_line, h1]
  simp only
  have hn : f.2.2 - 1 = es'.length := by simp at he; omega
  rw [hn, args_read rest es' [x] _ (fun y hy => h y (by simp [hy])) ha2.app]
  simp only
  obtain ⟨⟨q, hq⟩, _⟩ := ha2.app.app.cons
  rw [must_at hq]
  simp only [List.singleton_append, List.length_cons, List.length_append, List.length_nil]
  rw [show i + 1 + 1 + (wdE x).length + (tailW (wdL es')).length + 1 = i + ((wdE x).length + ((tailW (wdL es')).length + (0 + 1)) + 1 + 1) by omega]
theorem isW_at {o : Int} (h : o = 0 ∨ o = 1) {l : Toks} {i : Nat} {rest : List Tk} (ha : At l i (isW o ++ rest)) : isT l i 1 [105, 115] = true ∧ mustT l (if isT l (i + 1) 1 [110, 111, 116] then i + 2 else i + 1) 1 [110, 117, 108, 108] = .ok (i + (isW o).length) ∧ (if isT l (i + 1) 1 [110, 111, 116] then (1 : Int) else 0) = o := by
  rcases h with rfl | rfl
  · obtain ⟨⟨p, hp⟩, ha1⟩ := At.cons (by exact ha)
    obtain ⟨⟨p1, hp1⟩, ha2⟩ := At.cons (by exact ha1)
    rw [isT_at hp, isT_at hp1]
    refine ⟨rfl, ?_, rfl⟩
    rw [if_neg (by decide), must_at hp1]
    rfl
  · obtain ⟨⟨p, hp⟩, ha1⟩ := At.cons (by exact ha)
    obtain ⟨⟨p1, hp1⟩, ha2⟩ := At.cons (by exact ha1)
    obtain ⟨⟨p2, hp2⟩, ha3⟩ := At.cons (by exact ha2)
    rw [isT_at hp, isT_at hp1]
    refine ⟨rfl, ?_, rfl⟩
    rw [if_pos (by decide), must_at hp2]
    rfl
/-- What no name is. -/
structure Words (nm : List UInt8 → Bool) : Prop where
  not : nm [110, 111, 116] = false
  null : nm [110, 117, 108, 108] = false
  tru : nm [116, 114, 117, 101] = false
  fals : nm [102, 97, 108, 115, 101] = false
/-- An expression that fits is read from its words. -/
theorem fit_reads (hw : Words nm) {k : Nat} {L : Int} {x : Ex} (h : Fit nm k L x) : 1 ≤ L → RC nm k L x := by
  have hnm := hw.not
  induction h with
  | lit k L v h1 h2 =>
    intro hL
    refine lower_no hnm (.lit k 9 v h1 (by omega)) (item9 fun l i rest ha hf => ?_) (by rw [ln_lit]; decide) hL h2
    rw [wdB_no (by rw [ln_lit]; decide), wd_lit] at ha ⊢
    obtain ⟨⟨p, hp⟩, _⟩ := At.cons (by exact ha)
    exact lit_item h1 l _ hp
  | col0 k L n h1 h2 =>
    intro hL
    refine lower_no hnm (.col0 k 9 n h1 (by omega)) (item9 fun l i rest ha hf => ?_) (by rw [ln_col]; decide) hL h2
    rw [wdB_no (by rw [ln_col]; decide), wd_col0] at ha ⊢
    obtain ⟨⟨p, hp⟩, ha1⟩ := At.cons (by exact ha)
    show itemP nm l _ i = _
    rw [word_col ⟨hw.null, hw.tru, hw.fals⟩ h1.2 l _ hp (fol_is hf ha1 _ _ (by decide))]
    unfold colP
    rw [name_at hp h1.2]
    simp only
    rw [fol_is hf ha1 5 [46] (by decide), if_neg (by decide)]
    rfl
  | col k L t n h0 h1 h2 =>
    intro hL
    refine lower_no hnm (.col k 9 t n h0 h1 (by omega)) (item9 fun l i rest ha hf => ?_) (by rw [ln_col]; decide) hL h2
    rw [wdB_no (by rw [ln_col]; decide), wd_col (goodN_ne h0)] at ha ⊢
    obtain ⟨⟨p, hp⟩, ha1⟩ := At.cons (by exact ha)
    obtain ⟨⟨p1, hp1⟩, ha2⟩ := At.cons (by exact ha1)
    obtain ⟨⟨p2, hp2⟩, ha3⟩ := At.cons (by exact ha2)
    show itemP nm l _ i = _
    rw [word_col ⟨hw.null, hw.tru, hw.fals⟩ h0.2 l _ hp (by rw [isT_at hp1]; rfl)]
    unfold colP
    rw [name_at hp h0.2]
    simp only
    rw [isT_at hp1, if_pos (by decide), name_at hp2 h1.2]
    rfl
  | neg k L a h1 h2 ih =>
    intro hL
    have ih := ih (by decide)
    have e : wdB 8 (unE 1 a) = tkS [45] :: wdB 8 a := by rw [wdB_no (by rw [ln_neg]; decide), wd_neg]
    refine lower_no hnm (.neg k 8 a (by omega) h2) ⟨fun l i rest ha hf => ?_, fun hc => by unfold isCh at hc; omega⟩ (by rw [ln_neg]; decide) hL h1
    rw [e] at ha ⊢
    obtain ⟨⟨p, hp⟩, ha1⟩ := At.cons (by exact ha)
    show signP nm l (subF nm l (k + 1)) i = _
    unfold signP
    rw [isT_at hp, if_pos (by decide), sub_or]
    simp only
    rw [sign_line, ih.1 l (i + 1) rest ha1 hf]
    simp only [List.length_cons]
    rw [show i + 1 + (wdB 8 a).length = i + ((wdB 8 a).length + 1) by omega]
  | not k L a h1 h2 ih =>
    intro hL
    have ih := ih (by decide)
    have e : wdB 3 (unE 2 a) = tkW [110, 111, 116] :: wdB 3 a := by rw [wdB_no (by rw [ln_not]; decide), wd_not]
    refine lower_no hnm (.not k 3 a (by omega) h2) ⟨fun l i rest ha hf => ?_, fun hc => by unfold isCh at hc; omega⟩ (by rw [ln_not]; decide) hL h1
    rw [e] at ha ⊢
    obtain ⟨⟨p, hp⟩, ha1⟩ := At.cons (by exact ha)
    show notP nm l (subF nm l (k + 1)) i = _
    unfold notP
    rw [isT_at hp, if_pos (by decide), sub_or]
    simp only
    rw [not_line, ih.1 l (i + 1) rest ha1 hf]
    simp only [List.length_cons]
    rw [show i + 1 + (wdB 3 a).length = i + ((wdB 3 a).length + 1) by omega]
  | null k L o a h1 h2 h3 ih =>
    intro hL
    have ih := ih (by decide)
    have e : wdB 4 (nullE o a) = wdB 5 a ++ isW o := by rw [wdB_no (by rw [ln_null h2]; decide), wd_null]
    refine lower_no hnm (.null k 4 o a (by omega) h2 h3) ⟨fun l i rest ha hf => ?_, fun hc => by unfold isCh at hc; omega⟩ (by rw [ln_null h2]; decide) hL h1
    rw [e] at ha ⊢
    rw [List.append_assoc] at ha
    have hf5 : Fol 5 (isW o ++ rest) := by
      rcases h2 with rfl | rfl <;> exact Fol.cons _ (by decide)
    have h4 : catP nm l (subF nm l k) i = _ := ih.1 l i _ ha hf5
    obtain ⟨w1, w2, w3⟩ := isW_at h2 ha.app
    show testP nm l (subF nm l k) i = _
    unfold testP
    rw [h4]
    simp only
    rw [w1, if_pos rfl, w2]
    simp only
    rw [w3, List.length_append, Nat.add_assoc]
  | pair k L o a b h1 h2 h3 h4 ih1 ih2 =>
    intro hL
    have hM := pairLn_le h2
    have hop := opK_ln h2
    have e : wdB (pairLn o.toNat) (pairE o a b) = wdB (lftL (pairLn o.toNat)) a ++ opK o :: wdB (pairLn o.toNat + 1) b := by rw [wdB_no (by rw [ln_pair]; omega), wd_pair]
    have hlft : pairLn o.toNat ≤ lftL (pairLn o.toNat) := by unfold lftL; split <;> omega
    have ih1 := ih1 (by omega)
    have ih2 := ih2 (by omega)
    have yes := fun (l : Toks) (i p : Nat) => op_yes (l := l) (i := i) (p := p) h2
    have hfit := Fit.pair k (pairLn o.toNat) o a b (Int.le_refl _) h2 h3 h4
    have hlnp : pairLn o.toNat ≤ lnE (pairE o a b) := by rw [ln_pair]; omega
    refine lower_no hnm hfit ?_ hlnp hL h1
    clear hfit hlnp h1 h3 h4 hL hnm hw
    generalize hg : pairLn o.toNat = M at *
    have hlen : ∀ i, i + (wdB (lftL M) a).length + 1 + (wdB (M + 1) b).length = i + (wdB (lftL M) a ++ opK o :: wdB (M + 1) b).length := fun i => by simp only [List.length_append, List.length_cons]; omega
    by_cases hc : isCh M
    · have hl : lftL M = M := by unfold lftL; rw [if_neg (by unfold isCh at hc; omega)]
      have chain : Chn nm k M (pairE o a b) := fun l i rest ha hf => by
        rw [e] at ha ⊢
        rw [List.append_assoc, List.cons_append, hl] at ha
        have hf1 : Fol (M + 1) (opK o :: (wdB (M + 1) b ++ rest)) := Fol.cons _ (by rw [hop.1]; omega)
        obtain ⟨n, hn, hr⟩ := ih1.2 (by rw [hl]; exact hc) l i _ (by rw [hl]; exact ha) (by rw [hl]; exact hf1)
        obtain ⟨⟨p, hp⟩, ha2⟩ := ha.app.cons
        have hb := ih2.1 l _ rest ha2 hf
        have hlt := (List.getElem?_eq_some_iff.mp hp).1
        rw [hl] at hr hn hlen ⊢
        obtain ⟨n, rfl⟩ : ∃ m, n = m + 1 := ⟨n - 1, by omega⟩
        refine ⟨n, ?_, ?_⟩
        · rw [← hlen]; omega
        · rw [hr, chainL, yes l _ p hp]
          simp only
          rw [hb]
          simp only
          rw [hlen]
      exact ⟨chn_rds hc chain, fun _ => chain⟩
    · have h4 : M = 4 := by unfold isCh at hc; omega
      subst h4
      refine ⟨fun l i rest ha hf => ?_, fun h => absurd h hc⟩
      rw [e] at ha ⊢
      rw [List.append_assoc, List.cons_append] at ha
      have hf5 : Fol 5 (opK o :: (wdB 5 b ++ rest)) := Fol.cons _ (by rw [hop.1]; decide)
      have h5 : catP nm l (subF nm l k) i = _ := ih1.1 l i _ ha hf5
      obtain ⟨⟨p, hp⟩, ha2⟩ := ha.app.cons
      have h6 : catP nm l (subF nm l k) _ = _ := ih2.1 l _ rest ha2 (hf.up (by decide))
      have hy : operT sgTest l _ = some o := yes l _ p hp
      have his : isT l (i + (wdB (lftL 4) a).length) 1 [105, 115] = false := by
        rw [isT_at hp]
        cases hb : ((opK o).kind == 1 && (opK o).text == [105, 115]) with
        | false => rfl
        | true =>
          rw [Bool.and_eq_true, beq_iff_eq, beq_iff_eq] at hb
          exact absurd hb hop.2
      show testP nm l (subF nm l k) i = _
      unfold testP
      rw [h5]
      simp only
      rw [his, if_neg (by decide), hy]
      simp only
      rw [h6]
      simp only
      rw [hlen]
  | call k L s f es h1 h2 h3 h4 ih =>
    intro hL
    refine lower_no hnm (.call k 9 s f es (by omega) h2 h3 h4) (item9 (call_read (L := 9) hnm h2 h3 fun x hx => ⟨h4 x hx, (ih x hx (by decide)).1⟩)) (by rw [ln_call h2 h3]; decide) hL h1
  | star k L h1 =>
    intro hL
    refine lower_no hnm (.star k 9 (by omega)) (item9 fun l i rest ha hf => ?_) (by rw [ln_star]; decide) hL h1
    rw [wdB_no (by rw [ln_star]; decide), wd_star] at ha ⊢
    obtain ⟨⟨p, hp⟩, ha1⟩ := At.cons (by exact ha)
    obtain ⟨⟨p1, hp1⟩, ha2⟩ := At.cons (by exact ha1)
    obtain ⟨⟨p2, hp2⟩, ha3⟩ := At.cons (by exact ha2)
    obtain ⟨⟨p3, hp3⟩, ha4⟩ := At.cons (by exact ha3)
    show itemP nm l (subF nm l (k + 1)) i = _
    rw [word_fun (f := (6, 1, 1)) (by decide) l _ hp (by rw [isT_at hp1]; rfl), sub_or]
    unfold callP
    simp only
    rw [if_pos ⟨trivial, trivial, by rw [isT_at hp2]; rfl⟩, must_at hp3]
    rfl
  | br k L x h1 h2 h3 ih =>
    intro hL
    have ih := (ih (by decide)).1
    have h1' := (fit_ln h3).1
    have ew : wdB 1 x = wdE x := wdB_no h1'
    have e9 : ∀ N, lnE x < N → wdB N x = tkS [40] :: (wdE x ++ [tkS [41]]) := fun N hN => wdB_br h1' hN
    refine lowerTo hnm (Int.le_refl 9) (.br k 9 x (by omega) (by omega) h3) (item9 fun l i rest ha hf => ?_) (9 - L).toNat L (by omega) hL (fun N h4 h5 => by rw [e9 N (by omega), e9 9 (by omega)])
    rw [e9 9 (by omega)] at ha ⊢
    simp only [List.cons_append, List.append_assoc, List.nil_append] at ha
    obtain ⟨⟨p, hp⟩, ha1⟩ := ha.cons
    obtain ⟨⟨q, hq⟩, _⟩ := ha1.app.cons
    have h4 := ih l (i + 1) _ (by rw [ew]; exact ha1) (Fol.cons _ (by decide))
    rw [ew] at h4
    show itemP nm l (subF nm l (k + 1)) i = _
    unfold itemP
    rw [hp]
    simp only
    rw [if_neg (by decide), if_neg (by decide), if_neg (by decide), if_neg (by decide), isT_at hp, if_pos (by decide)]
    unfold brackP
    rw [sub_or]
    simp only
    rw [or_line, h4]
    simp only
    rw [must_at hq]
    simp only [List.length_cons, List.length_append, List.length_nil]
    rw [show i + 1 + (wdE x).length + 1 = i + ((wdE x).length + (0 + 1) + 1) by omega]
/-- Read from its words, whole. -/
theorem read_again (hw : Words nm) {k : Nat} {x : Ex} (h : Fit nm k 1 x) {l : Toks} (hl : l.map (·.1) = wdE x) : (readF nm l k).or 0 = .ok (x, l.length) := by
  have ew : wdB 1 x = wdE x := wdB_no (fit_ln h).1
  have h1 := (fit_reads hw h (by decide)).1 l 0 [] (by unfold At; rw [ew, List.drop_zero, List.append_nil]; exact hl) (Fol.nil _)
  rw [or_line, h1, ew, ← hl, List.length_map, Nat.zero_add]
end
end Go.Proofs.YtcefmhofidoloaaGreatDoor.Exp

/- An expression's text is taken apart into its words. -/
set_option linter.unusedVariables false
set_option linter.unusedSimpArgs false
namespace Go.Proofs.YtcefmhofidoloaaGreatDoor.Exp
open Go.Proofs.YtcefmhofidoloaaGreatDoor.Lex

/-- A text that is taken apart into words, whatever stands behind that separates. -/
def LexTo (s : List UInt8) (ts : List Tk) : Prop := ∀ r, Sep r → ∀ k, ∃ xs : Toks, xs.map (·.1) = ts ∧ toksP (s ++ r).length k (s ++ r) = (toksP r.length (k + s.length) r).map (xs ++ ·)
/-- The same, whatever stands behind. -/
def LexAny (s : List UInt8) (ts : List Tk) : Prop := ∀ r, ∀ k, ∃ xs : Toks, xs.map (·.1) = ts ∧ toksP (s ++ r).length k (s ++ r) = (toksP r.length (k + s.length) r).map (xs ++ ·)
theorem map_map_ex {a : Except Nat Toks} (f g : Toks → Toks) : (a.map f).map g = a.map (g ∘ f) := by cases a <;> rfl
theorem LexAny.to {s : List UInt8} {ts : List Tk} (h : LexAny s ts) : LexTo s ts := fun r _ k => h r k
theorem LexTo.nil : LexTo [] [] := fun r _ k => ⟨[], rfl, by
  simp only [List.nil_append, List.length_nil, Nat.add_zero]
  cases toksP r.length k r <;> rfl⟩
theorem lex_join {s s' r : List UInt8} {k : Nat} {xs xs' : Toks} (h : toksP (s ++ (s' ++ r)).length k (s ++ (s' ++ r)) = (toksP (s' ++ r).length (k + s.length) (s' ++ r)).map (xs ++ ·)) (h' : toksP (s' ++ r).length (k + s.length) (s' ++ r) = (toksP r.length (k + s.length + s'.length) r).map (xs' ++ ·)) :
    toksP ((s ++ s') ++ r).length k ((s ++ s') ++ r) = (toksP r.length (k + (s ++ s').length) r).map ((xs ++ xs') ++ ·) := by
  rw [List.append_assoc, h, h', map_map_ex, List.length_append, Nat.add_assoc]
  congr 1
  funext z
  simp
theorem LexAny.cat {s s' : List UInt8} {ts ts' : List Tk} (h : LexAny s ts) (h' : LexTo s' ts') : LexTo (s ++ s') (ts ++ ts') := fun r hr k => by
  obtain ⟨xs, h1, h2⟩ := h (s' ++ r) k
  obtain ⟨xs', h3, h4⟩ := h' r hr (k + s.length)
  exact ⟨xs ++ xs', by rw [List.map_append, h1, h3], lex_join h2 h4⟩
/-- A text that separates. -/
def Sps (s : List UInt8) : Prop := ∀ r, Sep r → Sep (s ++ r)
theorem Sps.mk' {c : UInt8} (h : c = 32 ∨ c = 40 ∨ c = 41 ∨ c = 44 ∨ c = 46) (q : List UInt8) : Sps (c :: q) := fun r _ => Sep.mk' h _
theorem Sps.nil : Sps [] := fun r h => h
theorem LexTo.cat {s s' : List UInt8} {ts ts' : List Tk} (h : LexTo s ts) (hs : Sps s') (h' : LexTo s' ts') : LexTo (s ++ s') (ts ++ ts') := fun r hr k => by
  obtain ⟨xs, h1, h2⟩ := h (s' ++ r) (hs r hr) k
  obtain ⟨xs', h3, h4⟩ := h' r hr (k + s.length)
  exact ⟨xs ++ xs', by rw [List.map_append, h1, h3], lex_join h2 h4⟩
theorem lex_one {c : UInt8} {u r : List UInt8} {t : Tk} (hb : ¬ (c = 32 ∨ c = 9 ∨ c = 10 ∨ c = 13)) (hn : ¬ (c = 45 ∧ (u ++ r).head? = some 45)) (ht : tokP ((c :: u) ++ r) = some (t, (c :: u).length)) (k : Nat) :
    ∃ xs : Toks, xs.map (·.1) = [t] ∧ toksP ((c :: u) ++ r).length k ((c :: u) ++ r) = (toksP r.length (k + (c :: u).length) r).map (xs ++ ·) := by
  refine ⟨[(t, k)], rfl, ?_⟩
  have e := toks_word (f := (u ++ r).length) (k := k) hb hn ht
  have e2 : (c :: (u ++ r)).drop (c :: u).length = r := by
    rw [← List.cons_append]
    exact List.drop_left' rfl
  rw [e2] at e
  rw [toks_fuel (u ++ r).length r.length _ r (by simp) (Nat.le_refl _)] at e
  exact e
theorem LexTo.one {c : UInt8} {u : List UInt8} {t : Tk} (hb : ¬ (c = 32 ∨ c = 9 ∨ c = 10 ∨ c = 13)) (hn : ∀ r, Sep r → ¬ (c = 45 ∧ (u ++ r).head? = some 45)) (ht : ∀ r, Sep r → tokP ((c :: u) ++ r) = some (t, (c :: u).length)) : LexTo (c :: u) [t] := fun r hr k => lex_one hb (hn r hr) (ht r hr) k
theorem LexTo.good {t : Tk} (h : GoodT t) : LexTo (prT t) [t] := by
  obtain ⟨c, u, e, hb, hn⟩ := h.first
  have ha := h.again
  rw [e] at ha ⊢
  exact .one hb hn ha
/-- A word in large letters. -/
theorem LexTo.word (s : List UInt8) (hne : s ≠ []) (h0 : isLet (s.headD 0) = true) (hall : ∀ d ∈ s, isWrd d = true) : LexTo s [⟨1, s.map lowB, 0⟩] := by
  cases s with
  | nil => exact absurd rfl hne
  | cons c u => exact .one (let_not h0).1 (fun r _ h => (let_not h0).2 h.1) fun r hr => tok_wrd h0 hall hr
theorem LexAny.blank : LexAny [32] [] := fun r k => ⟨[], rfl, by
  show toksP (r.length + 1) k (32 :: r) = _
  rw [toksP]
  try simp only
  rw [if_pos (by simp)]
  show toksP r.length (k + 1) r = (toksP r.length (k + 1) r).map _
  cases toksP r.length (k + 1) r <;> rfl⟩
theorem LexAny.sym {c : UInt8} (h : c = 40 ∨ c = 46) : LexAny [c] [tkS [c]] := fun r k => by
  refine lex_one (by rcases h with rfl | rfl <;> decide) (fun h' => by rcases h with rfl | rfl <;> exact absurd h'.1 (by decide)) ?_ k
  show tokP (c :: r) = _
  have hs : symP (c :: r) = 1 := by
    rw [symP, if_neg (by rcases h with rfl | rfl <;> simp), if_pos (by rcases h with rfl | rfl <;> decide)]
  rw [tokP_sym (by rcases h with rfl | rfl <;> simp) (by rcases h with rfl | rfl <;> decide) (by rcases h with rfl | rfl <;> decide) (by rcases h with rfl | rfl <;> decide), hs]
  rfl
theorem LexTo.sym {c : UInt8} (h : c ∈ symBytes) : LexTo [c] [tkS [c]] := by
  have := LexTo.good (good_sym1 h)
  simpa [prT] using this
section
variable {nm : List UInt8 → Bool}
theorem brT_no (L : Int) (p : Int × List UInt8) (h : L ≤ p.1) : brT L p = p.2 := by unfold brT; rw [if_neg (by omega)]
theorem brT_br {L : Int} {p : Int × List UInt8} (h1 : 1 ≤ p.1) (h : p.1 < L) : brT L p = [40] ++ p.2 ++ [41] := by unfold brT; rw [if_pos (by omega)]
/-- An expression's text at a line. -/
def prB (L : Int) (x : Ex) : List UInt8 := brT L (lnE x, prE litV x)
theorem prB_no {L : Int} {x : Ex} (h : L ≤ lnE x) : prB L x = prE litV x := brT_no _ _ h
theorem pr_neg (a : Ex) : prE litV (unE 1 a) = [45, 32] ++ prB 8 a := by rw [prE_eq]; simp [unE, Ex.args, Ex.kind, Ex.op, prL, prK, lnN, lineTab, prB]
theorem pr_not (a : Ex) : prE litV (unE 2 a) = [78, 79, 84, 32] ++ prB 3 a := by rw [prE_eq]; simp [unE, Ex.args, Ex.kind, Ex.op, prL, prK, lnN, lineTab, prB]
theorem pr_lit (v : Vl) : prE litV (litE v) = litV v := by
  rw [prE_eq]
  simp only [litE, Ex.args, Ex.kind, Ex.op, Ex.v, prL, prK, List.length_nil]
  rw [if_neg (by decide), if_pos trivial]
theorem pr_col0 (n : List UInt8) : prE litV (colE [] n) = n := by rw [pr_col_eq, if_pos rfl]
theorem pr_col {t : List UInt8} (ht : t ≠ []) (n : List UInt8) : prE litV (colE t n) = t ++ [46] ++ n := by rw [pr_col_eq, if_neg ht]
theorem pr_star : prE litV (callE 6 1 []) = [67, 79, 85, 78, 84, 40, 42, 41] := by decide
theorem lex_lit {v : Vl} (h : GoodV v) : LexTo (litV v) [litW v] := by
  rcases h with rfl | rfl | rfl | ⟨n, h0, h1, rfl⟩ | ⟨s, _, rfl⟩ | ⟨s, _, rfl⟩
  · exact LexTo.word _ (by decide) (by decide) (by decide)
  · exact LexTo.word _ (by decide) (by decide) (by decide)
  · exact LexTo.word _ (by decide) (by decide) (by decide)
  · have := LexTo.good (good_num h0 h1)
    simpa [prT, litV, litW] using this
  · have := LexTo.good (good_text s)
    simpa [prT, litV, litW] using this
  · have := LexTo.good (good_blob s)
    simpa [prT, litV, litW] using this
theorem lex_name {s : List UInt8} (h : GoodN nm s) : LexTo s [tkW s] := by
  have := LexTo.good h.1
  simpa [prT] using this
theorem lex_is (o : Int) : LexTo (if o = 0 then [32, 73, 83, 32, 78, 85, 76, 76] else [32, 73, 83, 32, 78, 79, 84, 32, 78, 85, 76, 76]) (isW o) ∧ Sps (if o = 0 then [32, 73, 83, 32, 78, 85, 76, 76] else [32, 73, 83, 32, 78, 79, 84, 32, 78, 85, 76, 76]) := by
  have wd := fun (s : List UInt8) h1 h2 h3 => LexTo.word s h1 h2 h3
  have nul := LexAny.blank.cat (wd [78, 85, 76, 76] (by decide) (by decide) (by decide))
  have is := LexAny.blank.cat (wd [73, 83] (by decide) (by decide) (by decide))
  have not := LexAny.blank.cat (wd [78, 79, 84] (by decide) (by decide) (by decide))
  unfold isW
  split
  · exact ⟨is.cat (.mk' (.inl rfl) _) nul, .mk' (.inl rfl) _⟩
  · exact ⟨is.cat (.mk' (.inl rfl) _) (not.cat (.mk' (.inl rfl) _) nul), .mk' (.inl rfl) _⟩
theorem lex_op {o : Int} (h : 3 ≤ o ∧ o ≤ 16) : LexTo (opT.getD o.toNat []) [opK o] := by
  have hc : o = 3 ∨ o = 4 ∨ o = 5 ∨ o = 6 ∨ o = 7 ∨ o = 8 ∨ o = 9 ∨ o = 10 ∨ o = 11 ∨ o = 12 ∨ o = 13 ∨ o = 14 ∨ o = 15 ∨ o = 16 := by omega
  have s2 : ∀ a b : UInt8, (a, b) ∈ [((60 : UInt8), (62 : UInt8)), (60, 61), (62, 61), (124, 124)] → LexTo [a, b] [tkS [a, b]] := fun a b h => by
    have := LexTo.good (good_sym2 h)
    simpa [prT] using this
  rcases hc with rfl | rfl | rfl | rfl | rfl | rfl | rfl | rfl | rfl | rfl | rfl | rfl | rfl | rfl
  · exact LexTo.word _ (by decide) (by decide) (by decide)
  · exact LexTo.word _ (by decide) (by decide) (by decide)
  · exact LexTo.sym (by decide)
  · exact s2 _ _ (by decide)
  · exact LexTo.sym (by decide)
  · exact s2 _ _ (by decide)
  · exact LexTo.sym (by decide)
  · exact s2 _ _ (by decide)
  · exact LexTo.sym (by decide)
  · exact LexTo.sym (by decide)
  · exact LexTo.sym (by decide)
  · exact LexTo.sym (by decide)
  · exact LexTo.sym (by decide)
  · exact s2 _ _ (by decide)
theorem lex_brack {s : List UInt8} {ts : List Tk} (h : LexTo s ts) : LexTo ([40] ++ s ++ [41]) (tkS [40] :: (ts ++ [tkS [41]])) := by
  have := (LexAny.sym (.inl rfl)).cat (h.cat (.mk' (.inr (.inr (.inl rfl))) _) (LexTo.sym (c := 41) (by decide)))
  rw [List.append_assoc]
  exact this
theorem lex_tail : ∀ es : List Ex, (∀ x ∈ es, LexTo (prE litV x) (wdE x)) → LexTo (Lib.joinTail [44, 32] ((prL litV es).map (·.2))) (tailW (wdL es)) ∧ Sps (Lib.joinTail [44, 32] ((prL litV es).map (·.2)))
  | [], _ => ⟨LexTo.nil, Sps.nil⟩
  | x :: es, h => by
    obtain ⟨h1, h2⟩ := lex_tail es fun y hy => h y (by simp [hy])
    have hc := (LexTo.sym (c := 44) (by decide)).cat (s' := [32] ++ (prE litV x ++ Lib.joinTail [44, 32] ((prL litV es).map (·.2)))) (.mk' (.inl rfl) _) (LexAny.blank.cat ((h x (by simp)).cat h2 h1))
    have e : Lib.joinTail [44, 32] ((prL litV (x :: es)).map (·.2)) = [44] ++ ([32] ++ (prE litV x ++ Lib.joinTail [44, 32] ((prL litV es).map (·.2)))) := by rw [prL]; simp [Lib.joinTail]
    have e2 : tailW (wdL (x :: es)) = [tkS [44]] ++ ([] ++ (wdE x ++ tailW (wdL es))) := by rw [wdL]; simp [tailW]
    rw [e, e2]
    exact ⟨hc, .mk' (.inr (.inr (.inr (.inl rfl)))) _⟩
theorem lex_all {es : List Ex} (hne : es ≠ []) (h : ∀ x ∈ es, LexTo (prE litV x) (wdE x)) : LexTo (allT (prL litV es)) (allW (wdL es)) ∧ Sps (allT (prL litV es)) := by
  cases es with
  | nil => exact absurd rfl hne
  | cons x es =>
    obtain ⟨h1, h2⟩ := lex_tail es fun y hy => h y (by simp [hy])
    have hb := lex_brack ((h x (by simp)).cat h2 h1)
    have e : allT (prL litV (x :: es)) = [40] ++ (prE litV x ++ Lib.joinTail [44, 32] ((prL litV es).map (·.2))) ++ [41] := by
      rw [prL, allT, List.map_cons, Lib.join_cons]
    have e2 : allW (wdL (x :: es)) = tkS [40] :: ((wdE x ++ tailW (wdL es)) ++ [tkS [41]]) := by rw [wdL]; simp [allW, joinW]
    rw [e, e2]
    exact ⟨hb, .mk' (.inr (.inl rfl)) _⟩
/-- An expression's text is taken apart into its words. -/
theorem fit_lex {k : Nat} {L : Int} {x : Ex} (h : Fit nm k L x) : LexTo (prB L x) (wdB L x) := by
  induction h with
  | lit k L v h1 h2 => rw [prB_no (by rw [ln_lit]; exact h2), wdB_no (by rw [ln_lit]; exact h2), pr_lit, wd_lit]; exact lex_lit h1
  | col0 k L n h1 h2 => rw [prB_no (by rw [ln_col]; exact h2), wdB_no (by rw [ln_col]; exact h2), pr_col0, wd_col0]; exact lex_name h1
  | col k L t n h0 h1 h2 =>
    rw [prB_no (by rw [ln_col]; exact h2), wdB_no (by rw [ln_col]; exact h2), pr_col (goodN_ne h0), wd_col (goodN_ne h0)]
    have := (lex_name h0).cat (s' := [46] ++ n) (.mk' (.inr (.inr (.inr (.inr rfl)))) _) ((LexAny.sym (.inr rfl)).cat (lex_name h1))
    rw [List.append_assoc]
    exact this
  | neg k L a h1 h2 ih =>
    rw [prB_no (by rw [ln_neg]; exact h1), wdB_no (by rw [ln_neg]; exact h1), pr_neg, wd_neg]
    exact (LexTo.sym (c := 45) (by decide)).cat (s' := [32] ++ prB 8 a) (.mk' (.inl rfl) _) (LexAny.blank.cat ih)
  | not k L a h1 h2 ih =>
    rw [prB_no (by rw [ln_not]; exact h1), wdB_no (by rw [ln_not]; exact h1), pr_not, wd_not]
    exact (LexTo.word [78, 79, 84] (by decide) (by decide) (by decide)).cat (s' := [32] ++ prB 3 a) (.mk' (.inl rfl) _) (LexAny.blank.cat ih)
  | null k L o a h1 h2 h3 ih =>
    rw [prB_no (by rw [ln_null h2]; exact h1), wdB_no (by rw [ln_null h2]; exact h1), pr_null litV h2, wd_null]
    exact ih.cat (lex_is o).2 (lex_is o).1
  | pair k L o a b h1 h2 h3 h4 ih1 ih2 =>
    rw [prB_no (by rw [ln_pair]; exact h1), wdB_no (by rw [ln_pair]; exact h1), pr_pair litV h2, wd_pair]
    have := ih1.cat (s' := [32] ++ (opT.getD o.toNat [] ++ ([32] ++ prB (pairLn o.toNat + 1) b))) (.mk' (.inl rfl) _) (LexAny.blank.cat ((lex_op h2).cat (.mk' (.inl rfl) _) (LexAny.blank.cat ih2)))
    simp only [List.append_assoc]
    exact this
  | call k L s f es h1 h2 h3 h4 ih =>
    have hp := funT_pos h2
    rw [prB_no (by rw [ln_call h2 h3]; exact h1), wdB_no (by rw [ln_call h2 h3]; exact h1), pr_call litV h2 h3, wd_call h2 h3]
    have ha := lex_all (es := es) (by rintro rfl; simp at h3; omega) fun x hx => by
      have := ih x hx
      have h5 := (fit_ln (h4 x hx)).1
      rw [prB_no h5, wdB_no h5] at this
      exact this
    have hw : LexTo (if f.1 = 5 then fnT.getD f.2.1.toNat [] else agT.getD f.2.1.toNat []) [tkW s] := by
      rcases funT_cases h2 with ⟨rfl, rfl⟩ | ⟨rfl, rfl⟩ | ⟨rfl, rfl⟩ | ⟨rfl, rfl⟩ | ⟨rfl, rfl⟩ | ⟨rfl, rfl⟩ | ⟨rfl, rfl⟩ | ⟨rfl, rfl⟩ | ⟨rfl, rfl⟩ | ⟨rfl, rfl⟩
      all_goals exact LexTo.word _ (by decide) (by decide) (by decide)
    exact hw.cat ha.2 ha.1
  | star k L h1 =>
    rw [prB_no (by rw [ln_star]; exact h1), wdB_no (by rw [ln_star]; exact h1), pr_star, wd_star]
    exact (LexTo.word [67, 79, 85, 78, 84] (by decide) (by decide) (by decide)).cat (s' := [40] ++ ([42] ++ [41])) (.mk' (.inr (.inl rfl)) _) ((LexAny.sym (.inl rfl)).cat ((LexTo.sym (c := 42) (by decide)).cat (.mk' (.inr (.inr (.inl rfl))) _) (LexTo.sym (c := 41) (by decide))))
  | br k L x h1 h2 h3 ih =>
    have h4 := (fit_ln h3).1
    rw [prB_no h4, wdB_no h4] at ih
    rw [wdB_br h4 h1, show prB L x = [40] ++ prE litV x ++ [41] from brT_br h4 h1]
    exact lex_brack ih
/-- What is read is read again from its text. -/
theorem print_again (hw : Words nm) {k : Nat} {x : Ex} (h : Fit nm k 1 x) : ∃ xs, lexT (prE litV x) = .ok xs ∧ (readF nm xs k).or 0 = .ok (x, xs.length) := by
  have h1 := (fit_ln h).1
  have hl := fit_lex h
  rw [prB_no h1, wdB_no h1] at hl
  obtain ⟨xs, h2, h3⟩ := hl [] (.inl rfl) 0
  refine ⟨xs, ?_, read_again hw h h2⟩
  rw [List.append_nil] at h3
  unfold lexT
  rw [h3]
  simp [toksP, Except.map]
end
end Go.Proofs.YtcefmhofidoloaaGreatDoor.Exp

/- No part of the reader ends behind the words; what is the same as itself; how Tokens ends. -/
set_option linter.unusedVariables false
set_option linter.unusedSimpArgs false
namespace Go.Proofs.YtcefmhofidoloaaGreatDoor.Exp
open Go.RowKit Go.Proofs.YtcefmhofidoloaaGreatDoor.Base Go.Proofs.YtcefmhofidoloaaGreatDoor.Lex

/-- A part ends where there are words up to there. -/
def InP (l : Toks) (f : Nat → Res Ex) : Prop := ∀ i e j, f i = .ok (e, j) → j ≤ l.length
structure Ins13 (l : Toks) (p : PF) : Prop where
  or : InP l p.or
  not : InP l p.not
  sign : InP l p.sign
theorem must_le {l : Toks} {i k : Nat} {s : List UInt8} {j : Nat} (h : mustT l i k s = .ok j) : j ≤ l.length := by
  obtain ⟨h1, h2⟩ := mustT_ok h
  have := isT_lt h1
  omega
theorem chainL_le {ops : List Sg} {f : Nat → Res Ex} {l : Toks} (hf : InP l f) : ∀ (n : Nat) (e : Ex) (i : Nat) (x : Ex) (j : Nat), i ≤ l.length → chainL ops f l n e i = .ok (x, j) → j ≤ l.length
  | 0, e, i, x, j, hi, h => by rw [chainL] at h; injection h with h; injection h with _ h; omega
  | n + 1, e, i, x, j, hi, h => by
    rw [chainL] at h
    split at h
    · injection h with h; injection h with _ h; omega
    · split at h
      · cases h
      · rename_i y k hk
        exact chainL_le hf n _ _ _ _ (hf _ _ _ hk) h
theorem chainP_le {ops : List Sg} {f : Nat → Res Ex} {l : Toks} (hf : InP l f) : InP l (chainP ops f l) := by
  intro i e j h
  unfold chainP at h
  split at h
  · cases h
  · rename_i y k hk
    exact chainL_le hf _ _ _ _ _ (hf _ _ _ hk) h
theorem nameT_le {nm : List UInt8 → Bool} {l : Toks} {i : Nat} {s : List UInt8} {j : Nat} (h : nameT nm l i = .ok (s, j)) : j ≤ l.length := by
  have hj := nameT_ok h
  unfold nameT at h
  split at h
  · rename_i x hx
    have := (List.getElem?_eq_some_iff.mp hx).1
    omega
  · cases h
section
variable {nm : List UInt8 → Bool} {l : Toks} {sub : Option PF}
theorem callP_le (f : Int × Int × Nat) : InP l (callP l sub f) := by
  intro i e j h
  unfold callP at h
  split at h
  · cases h
  · split at h
    · split at h
      · cases h
      · rename_i a ha
        injection h with h; injection h with _ h; rw [← h]; exact must_le ha
    · split at h
      · cases h
      · split at h
        · cases h
        · rename_i a ha
          injection h with h; injection h with _ h; rw [← h]; exact must_le ha
theorem colP_le : InP l (colP nm l) := by
  intro i e j h
  unfold colP at h
  split at h
  · cases h
  · rename_i n k hk
    split at h
    · split at h
      · cases h
      · rename_i m q hq
        injection h with h; injection h with _ h; rw [← h]; exact nameT_le hq
    · injection h with h; injection h with _ h; rw [← h]; exact nameT_le hk
theorem itemP_le : InP l (itemP nm l sub) := by
  intro i e j h
  unfold itemP at h
  split at h
  · cases h
  · rename_i x hx
    have hi := (List.getElem?_eq_some_iff.mp hx).1
    split at h
    · injection h with h; injection h with _ h; omega
    · split at h
      · injection h with h; injection h with _ h; omega
      · split at h
        · injection h with h; injection h with _ h; omega
        · split at h
          · unfold wordP at h
            split at h
            · injection h with h; injection h with _ h; omega
            · split at h
              · injection h with h; injection h with _ h; omega
              · split at h
                · injection h with h; injection h with _ h; omega
                · split at h
                  · split at h
                    · exact callP_le _ _ _ _ h
                    · exact colP_le _ _ _ h
                  · exact colP_le _ _ _ h
          · split at h
            · unfold brackP at h
              split at h
              · cases h
              · split at h
                · cases h
                · split at h
                  · cases h
                  · rename_i a ha
                    injection h with h; injection h with _ h; rw [← h]; exact must_le ha
            · cases h
theorem signP_le (hs : ∀ p, sub = some p → Ins13 l p) : InP l (signP nm l sub) := by
  intro i e j h
  unfold signP at h
  split at h
  · split at h
    · cases h
    · rename_i p
      split at h
      · cases h
      · rename_i y k hk
        injection h with h; injection h with _ h; rw [← h]; exact (hs p rfl).sign _ _ _ hk
  · exact itemP_le _ _ _ h
theorem prodP_le (hs : ∀ p, sub = some p → Ins13 l p) : InP l (prodP nm l sub) := chainP_le (signP_le hs)
theorem sumP_le (hs : ∀ p, sub = some p → Ins13 l p) : InP l (sumP nm l sub) := chainP_le (prodP_le hs)
theorem catP_le (hs : ∀ p, sub = some p → Ins13 l p) : InP l (catP nm l sub) := chainP_le (sumP_le hs)
theorem testP_le (hs : ∀ p, sub = some p → Ins13 l p) : InP l (testP nm l sub) := by
  intro i e j h
  unfold testP at h
  split at h
  · cases h
  · rename_i y k hk
    split at h
    · split at h
      · cases h
      · rename_i a ha
        injection h with h; injection h with _ h; rw [← h]; exact must_le ha
    · split at h
      · injection h with h; injection h with _ h; rw [← h]; exact catP_le hs _ _ _ hk
      · split at h
        · cases h
        · rename_i z m hm
          injection h with h; injection h with _ h; rw [← h]; exact catP_le hs _ _ _ hm
theorem notP_le (hs : ∀ p, sub = some p → Ins13 l p) : InP l (notP nm l sub) := by
  intro i e j h
  unfold notP at h
  split at h
  · split at h
    · cases h
    · rename_i p
      split at h
      · cases h
      · rename_i y k hk
        injection h with h; injection h with _ h; rw [← h]; exact (hs p rfl).not _ _ _ hk
  · exact testP_le hs _ _ _ h
theorem andP_le (hs : ∀ p, sub = some p → Ins13 l p) : InP l (andP nm l sub) := chainP_le (notP_le hs)
theorem orP_le (hs : ∀ p, sub = some p → Ins13 l p) : InP l (orP nm l sub) := chainP_le (andP_le hs)
end
theorem readF_le (nm : List UInt8 → Bool) (l : Toks) : ∀ k, Ins13 l (readF nm l k)
  | 0 => ⟨orP_le (fun p h => by cases h), notP_le (fun p h => by cases h), signP_le (fun p h => by cases h)⟩
  | k + 1 => ⟨orP_le (fun p h => by cases h; exact readF_le nm l k), notP_le (fun p h => by cases h; exact readF_le nm l k), signP_le (fun p h => by cases h; exact readF_le nm l k)⟩
mutual
theorem sameE_refl : ∀ x : Ex, sameE x x = true
  | .mk k o v t n c ty a => by rw [sameE_eq]; simp [Ex.kind, Ex.op, Ex.v, Ex.table, Ex.name, Ex.args, sameL_refl a]
theorem sameL_refl : ∀ a : List Ex, sameL a a = true
  | [] => by simp [sameL]
  | x :: xs => by rw [sameL, sameE_refl x, sameL_refl xs]; rfl
end
/-- How Tokens ends, by cases. -/
theorem lexR_ways13 {l : List UInt8} {w w' : Go.World} {e : Go.Ending} (h : LexR l w e w') :
    Below w.heap.size w w' ∧ ((∃ A m c, e = .returned (.tuple #[.slice A m c, .nilIface]) ∧ TokSl w' A m (lexE l) ∧ l.length ≤ 16384) ∨
    (∃ N, e = .returned (.tuple #[.slice none 0 0, .iface 93 (.pointer (some ⟨N, 0, none⟩))]))) := by
  obtain ⟨hb, h⟩ := h
  refine ⟨hb, ?_⟩
  by_cases hl : 16384 < l.length
  · rw [if_pos hl] at h
    obtain ⟨N, rfl, _⟩ := h
    exact .inr ⟨N, rfl⟩
  rw [if_neg hl] at h
  cases hx : lexT l with
  | ok ts =>
    rw [hx] at h
    obtain ⟨A, m, c, rfl, ht⟩ := h
    exact .inl ⟨A, m, c, rfl, by rw [lexE_ok (by omega) hx]; exact ht, by omega⟩
  | error k =>
    rw [hx] at h
    obtain ⟨N, rfl, h1⟩ := h
    exact .inr ⟨N, rfl⟩
end Go.Proofs.YtcefmhofidoloaaGreatDoor.Exp

/- quarrylaw13.works. -/
set_option linter.unusedVariables false
set_option linter.unusedSimpArgs false
namespace Go.Proofs.YtcefmhofidoloaaGreatDoor.Exp
open Go.RowKit Go.Proofs.YtcefmhofidoloaaGreatDoor.Base Go.Proofs.YtcefmhofidoloaaGreatDoor.App Go.Proofs.YtcefmhofidoloaaGreatDoor.Byt Go.Proofs.YtcefmhofidoloaaGreatDoor.Lex

/-- What the laws of expressions want of a world. -/
structure LawW (w : World) : Prop where
  lex : LexW w
  ety : EtyW w
  pow : Lib.TabIs Tryz.prog w "internal/strconv.uint64pow10" .u64 Lib.pow10Tab
theorem LawW.below {w w' : World} (h : LawW w) (hb : Below w.heap.size w w') : LawW w' := ⟨h.lex.below hb, h.ety.below hb, tab_below h.pow hb⟩
theorem LawW.prw {w : World} (h : LawW w) : PrW w := ⟨h.lex.shaped, h.pow⟩

/-- What an expression that is read is: it can be written, and held against another. -/
structure Nice (x : Ex) : Prop where
  ok : okE x
  val : okV x
  few : fewE x
  size : (prE litV x).length ≤ 1099511627776
theorem goodl_lexE (l : List UInt8) : GoodL 32868 (lexE l) := by
  intro i x hx
  unfold lexE at hx
  split at hx
  · simp at hx
  · rename_i hlen
    cases hl : lexT l with
    | error k => rw [hl] at hx; simp at hx
    | ok ts =>
      rw [hl] at hx
      have hx : ts[i]? = some x := hx
      obtain ⟨hi, rfl⟩ := List.getElem?_eq_some_iff.mp hx
      obtain ⟨h1, h2⟩ := lexT_good hl i hi
      exact ⟨h1, by omega, by omega⟩
theorem lexE_len (l : List UInt8) : (lexE l).length ≤ 16384 := by
  unfold lexE
  split
  · simp
  · rename_i hlen
    cases hl : lexT l with
    | error k => simp
    | ok ts => have := lexT_len hl; simp only; omega
theorem opT_pos {nm : List UInt8 → Bool} {l : Toks} {k : Nat} {i : Nat} {e : Ex} {j : Nat} (h : (readF nm l k).or i = .ok (e, j)) : i < j := (readF_ahd nm l k).or _ _ _ h
theorem fit_of {l : List UInt8} {k : Nat} {i : Nat} {e : Ex} {j : Nat} (h : (readF nmOk (lexE l) k).or i = .ok (e, j)) : Fit nmOk k 1 e ∧ lnP litV e + 2 + i * 32868 ≤ j * 32868 := (readF_fit (by decide) (goodl_lexE l) k).or _ _ _ h
theorem nice_of {l : List UInt8} {e : Ex} {j : Nat} (h : (readF nmOk (lexE l) 32).or 0 = .ok (e, j)) : Nice e := by
  have hj : j ≤ 16384 := Nat.le_trans ((readF_le nmOk (lexE l) 32).or _ _ _ h) (lexE_len l)
  obtain ⟨h1, h2⟩ := fit_of h
  refine ⟨(readF_okE nmOk (lexE l) 32).or _ _ _ h, fit_okV h1, (readF_few nmOk (lexE l) 32).or _ _ _ h, ?_⟩
  have : j * 32868 ≤ 16384 * 32868 := Nat.mul_le_mul_right _ hj
  unfold lnP at h2
  omega
theorem words_nm : Words nmOk := ⟨by kernel_rfl, by kernel_rfl, by kernel_rfl, by kernel_rfl⟩
theorem nm_a : nmOk [97] = true := by kernel_rfl

theorem exV_zero : exV zeroE (.slice none 0 0) = .agg #[.int .i64 0, .int .i64 0, .int .i64 0, .int .i64 0, .string ⟨#[]⟩, .string ⟨#[]⟩, .string ⟨#[]⟩, .int .i64 0, .int .i64 0, .slice none 0 0] := rfl
def txt1 : List UInt8 := [40, 49, 32, 45, 32, 40, 50, 32, 45, 32, 51, 41, 41, 32, 61, 32, 52, 32, 120]
def txt2 : List UInt8 := [108, 101, 110, 103, 116, 104, 40, 97, 44, 32, 98, 41]
def num (n : Int) : Ex := litE ⟨2, n, []⟩
def exp1 : Ex := pairE 5 (pairE 12 (num 1) (pairE 12 (num 2) (num 3))) (num 4)
set_option maxRecDepth 100000 in
theorem read1 : (readF nmOk (lexE txt1) 32).or 0 = .ok (exp1, 11) := by kernel_rfl
set_option maxRecDepth 100000 in
theorem read2 : (readF nmOk (lexE txt2) 32).or 0 = .error (8, 20) := by kernel_rfl
theorem print1 : prE litV exp1 = [49, 32, 45, 32, 40, 50, 32, 45, 32, 51, 41, 32, 61, 32, 52] := by kernel_rfl

set_option maxRecDepth 100000 in
set_option maxHeartbeats 6400000 in
theorem works13_calls (w : World) (h : LawW w) :
    Calls Tryz.prog 20 #[] w fun e w' => e = .returned (.bool true) ∧ Below w.heap.size w w' := by
  have HW := Asd.mk h
  clear h
  have fe : ∀ w, (binOp .eql 35 (.agg #[.int .i64 8, .int .i64 20]) (.agg #[.int .i64 8, .int .i64 20])).run Tryz.prog w = .ok (.bool true) w := fun w => by rw [flt_eql]; simp
  have se : ∀ w, (binOp .eql 9 (.string ⟨([49, 32, 45, 32, 40, 50, 32, 45, 32, 51, 41, 32, 61, 32, 52] : List UInt8).toArray⟩) (.string ⟨#[49, 32, 45, 32, 40, 50, 32, 45, 32, 51, 41, 32, 61, 32, 52]⟩)).run Tryz.prog w = .ok (.bool true) w := fun w => by kernel_rfl
  go_enter Tryz.func20, Tryz.ntmps20
  go_wp2_with fail
  refine (words_calls ⟨#[40, 49, 32, 45, 32, 40, 50, 32, 45, 32, 51, 41, 41, 32, 61, 32, 52, 32, 120]⟩ _ HW.out.lex).mono ?_
  rintro e w1 ⟨hb1, A1, m1, c1, rfl, ht1⟩
  have HW1 := Asd.mk (HW.out.below hb1)
  have HB1 := Asd.mk hb1
  go_wp2_with fail
  refine (read_words A1 m1 c1 txt1 w1 HW1.out.lex.shaped ht1).mono ?_
  rintro e w2 ⟨hb2, hr⟩
  have HB2 : Asd (Below w.heap.size w w2) := Asd.mk (HB1.out.trans (hb2.mono HB1.out.size))
  have HW2 := Asd.mk (HW.out.below HB2.out)
  rw [read1] at hr
  obtain ⟨s, rfl, hh⟩ := hr
  have HN := Asd.mk (nice_of read1)
  have HPE := Asd.mk print1
  simp only at hh HN
  generalize exp1 = x at hh HN HPE ⊢
  obtain ⟨As, cs, rfl⟩ := held_len hh
  have HH := Asd.mk hh
  clear hb1 ht1 hb2 hh
  unfold exV
  have HAL := Asd.mk (blk_new w2 (.cells #[.int .i64 x.kind, .int .i64 x.op, .int .i64 x.v.kind, .int .i64 x.v.int, .string ⟨x.v.text.toArray⟩, .string ⟨x.table.toArray⟩, .string ⟨x.name.toArray⟩, .int .i64 x.col, .int .i64 x.ty, .slice As x.args.length cs] 58 (0, 0)))
  have HBA : Asd (Below w2.heap.size w2 _) := Asd.mk (below_alloc (Below.refl _ w2) (.cells #[.int .i64 x.kind, .int .i64 x.op, .int .i64 x.v.kind, .int .i64 x.v.int, .string ⟨x.v.text.toArray⟩, .string ⟨x.table.toArray⟩, .string ⟨x.name.toArray⟩, .int .i64 x.col, .int .i64 x.ty, .slice As x.args.length cs] 58 (0, 0)))
  go_upto_region 2 with fail
  generalize w2.alloc (.cells #[.int .i64 x.kind, .int .i64 x.op, .int .i64 x.v.kind, .int .i64 x.v.int, .string ⟨x.v.text.toArray⟩, .string ⟨x.table.toArray⟩, .string ⟨x.name.toArray⟩, .int .i64 x.col, .int .i64 x.ty, .slice As x.args.length cs] 58 (0, 0)) = w3 at HAL HBA ⊢
  have HW3 := Asd.mk (HW2.out.below HBA.out)
  have HB3 : Asd (Below w.heap.size w w3) := Asd.mk (HB2.out.trans (HBA.out.mono HB2.out.size))
  go_wp2_with fail
  refine (words_calls ⟨#[108, 101, 110, 103, 116, 104, 40, 97, 44, 32, 98, 41]⟩ _ HW3.out.lex).mono ?_
  rintro e w4 ⟨hb4, A2, m2, c2, rfl, ht2⟩
  have HW4 := Asd.mk (HW3.out.below hb4)
  have HB4 := Asd.mk hb4
  go_wp2_with fail
  refine (read_words A2 m2 c2 txt2 w4 HW4.out.lex.shaped ht2).mono ?_
  rintro e w5 ⟨hb5, hr⟩
  have HB5 : Asd (Below w3.heap.size w3 w5) := Asd.mk (HB4.out.trans (hb5.mono HB4.out.size))
  rw [read2] at hr
  obtain ⟨N, rfl, hN⟩ := hr
  have HNN := Asd.mk hN
  clear hb4 ht2 hb5 hN
  rw [exV_zero]
  have HBZ : Asd (Below w5.heap.size w5 _) := Asd.mk (below_alloc (Below.refl _ w5) (.cells #[.int .i64 0, .int .i64 0, .int .i64 0, .int .i64 0, .string ⟨#[]⟩, .string ⟨#[]⟩, .string ⟨#[]⟩, .int .i64 0, .int .i64 0, .slice none 0 0] 58 (0, 0)))
  go_upto_region 3 with fail
  generalize w5.alloc (.cells #[.int .i64 0, .int .i64 0, .int .i64 0, .int .i64 0, .string ⟨#[]⟩, .string ⟨#[]⟩, .string ⟨#[]⟩, .int .i64 0, .int .i64 0, .slice none 0 0] 58 (0, 0)) = w6 at HBZ ⊢
  have HB36 : Asd (Below w3.heap.size w3 w6) := Asd.mk (HB5.out.trans (HBZ.out.mono HB5.out.size))
  have HW6 := Asd.mk (HW3.out.below HB36.out)
  have HAL6 := Asd.mk (blk_below HB36.out HAL.out)
  have HNN6 := Asd.mk (blk_below HBZ.out HNN.out)
  have e0 := (blk_cell HAL6.out 0).trans rfl
  have e1 := (blk_cell HAL6.out 1).trans rfl
  have e2 := (blk_cell HAL6.out 2).trans rfl
  have e3 := (blk_cell HAL6.out 3).trans rfl
  have e4 := (blk_cell HAL6.out 4).trans rfl
  have e5 := (blk_cell HAL6.out 5).trans rfl
  have e6 := (blk_cell HAL6.out 6).trans rfl
  have e7 := (blk_cell HAL6.out 7).trans rfl
  have e8 := (blk_cell HAL6.out 8).trans rfl
  have e9 := (blk_cell HAL6.out 9).trans rfl
  have HH6 := Asd.mk (held_below (held_below HH.out HBA.out) HB36.out)
  go_wp2_with fail
  refine (print_ok x HN.out.ok HN.out.val HN.out.size _ (.slice As x.args.length cs) w6 HW6.out.prw HH6.out).mono ?_
  rintro e w7 ⟨rfl, hb7⟩
  have HB7 : Asd (Below w.heap.size w w7) := Asd.mk (HB3.out.trans ((HB36.out.trans (hb7.mono HB36.out.size)).mono HB3.out.size))
  have HW7 := Asd.mk (HW6.out.below hb7)
  have HNN7 := Asd.mk (blk_below hb7 HNN6.out)
  rw [HPE.out]
  clear hb7 e0 e1 e2 e3 e4 e5 e6 e7 e8 e9
  go_wp2_with fail
  refine (seen_fault N 8 20 w7 HW7.out.ety HNN7.out).mono ?_
  rintro e w8 ⟨rfl, hb8⟩
  have HB8 : Asd (Below w.heap.size w w8) := Asd.mk (HB7.out.trans (hb8.mono HB7.out.size))
  clear hb8
  go_wp2
  go_ret
  exact ⟨ret_eq rfl, HB8.out⟩
end Go.Proofs.YtcefmhofidoloaaGreatDoor.Exp
