/- The words of a text in brackets are read as the words of the text, but for the depth. -/
import Derived.Test.YtcefmhofidoloaaGreatDoorQc10
set_option linter.unusedVariables false
set_option linter.unusedSimpArgs false
namespace Go.Proofs.YtcefmhofidoloaaGreatDoor.Exp
open Go.Proofs.YtcefmhofidoloaaGreatDoor.Lex

/-- The words l stand in l' from place d on; behind them stand closing brackets only. -/
structure Within (l l' : Toks) (d : Nat) : Prop where
  same : ∀ i x, l[i]? = some x → ∃ p, l'[i + d]? = some (x.1, p)
  behind : ∀ i x, l.length ≤ i → l'[i + d]? = some x → x.1 = tkS [41]
  size : l.length + d ≤ l'.length
/-- What is read is read again, or is too deep. -/
def SimR (d : Nat) (r r' : Res Ex) : Prop := ∀ e j, r = .ok (e, j) → r' = .ok (e, j + d) ∨ ∃ p, r' = .error (p, 21)
def SimP (d : Nat) (f f' : Nat → Res Ex) : Prop := ∀ i, SimR d (f i) (f' (i + d))
structure Sims (d : Nat) (p p' : PF) : Prop where
  or : SimP d p.or p'.or
  not : SimP d p.not p'.not
  sign : SimP d p.sign p'.sign
section
variable {l l' : Toks} {d : Nat}
theorem sim_is (h : Within l l' d) (i k : Nat) (s : List UInt8) (hn : ¬ (k = 5 ∧ s = [41])) : isT l' (i + d) k s = isT l i k s := by
  by_cases hi : i < l.length
  · obtain ⟨p, hp⟩ := h.same i l[i] (List.getElem?_eq_getElem hi)
    rw [isT_at hp]
    unfold isT
    rw [List.getElem?_eq_getElem hi]
  · have e : isT l i k s = false := isT_end (List.getElem?_eq_none (by omega)) _ _
    rw [e]
    cases hx : l'[i + d]? with
    | none => exact isT_end hx _ _
    | some x =>
      have := h.behind i x (by omega) hx
      unfold isT
      rw [hx]
      simp only [this]
      cases hc : ((5 : Nat) == k && ([41] : List UInt8) == s) with
      | false => rfl
      | true =>
        rw [Bool.and_eq_true, beq_iff_eq, beq_iff_eq] at hc
        exact absurd ⟨hc.1.symm, hc.2.symm⟩ hn
theorem sim_must (h : Within l l' d) {i k : Nat} {s : List UInt8} {j : Nat} (hm : mustT l i k s = .ok j) : mustT l' (i + d) k s = .ok (j + d) := by
  obtain ⟨h1, h2⟩ := mustT_ok hm
  have hi := isT_lt h1
  obtain ⟨p, hp⟩ := h.same i l[i] (List.getElem?_eq_getElem hi)
  have e : isT l' (i + d) k s = true := by
    rw [isT_at hp]
    unfold isT at h1
    rw [List.getElem?_eq_getElem hi] at h1
    exact h1
  unfold mustT
  rw [e, if_pos rfl, h2]
  congr 1
  omega
theorem sim_op (h : Within l l' d) (i : Nat) : ∀ ops : List Sg, (∀ x ∈ ops, ¬ (x.1 = 5 ∧ x.2.1 = [41])) → operT ops l' (i + d) = operT ops l i
  | [], _ => rfl
  | x :: ops, ho => by
    rw [operT, operT, sim_is h _ _ _ (ho x (by simp)), sim_op h i ops fun y hy => ho y (by simp [hy])]
theorem sim_name {nm : List UInt8 → Bool} (h : Within l l' d) {i : Nat} {s : List UInt8} {j : Nat} (hn : nameT nm l i = .ok (s, j)) : nameT nm l' (i + d) = .ok (s, j + d) := by
  have hj := nameT_ok hn
  unfold nameT at hn
  split at hn
  · rename_i x hx
    split at hn
    · rename_i hc
      injection hn with hn; injection hn with hn _
      obtain ⟨p, hp⟩ := h.same i x hx
      unfold nameT
      rw [hp]
      simp only
      rw [if_pos hc, hn]
      congr 2
      omega
    · cases hn
  · cases hn
theorem SimR.ok {r r' : Res Ex} {e : Ex} {j : Nat} (h : r' = .ok (e, j + d)) (hr : r = .ok (e, j)) : SimR d r r' := fun e' j' h' => by
  rw [hr] at h'
  injection h' with h'; injection h' with h1 h2
  subst h1 h2
  exact .inl h
theorem chainL_sim (h : Within l l' d) {ops : List Sg} (ho : ∀ x ∈ ops, ¬ (x.1 = 5 ∧ x.2.1 = [41])) {f f' : Nat → Res Ex} (ha : Ahd f) (hf : SimP d f f') : ∀ (n n' : Nat) (e : Ex) (i : Nat), l.length ≤ i + n → l'.length ≤ i + d + n' → SimR d (chainL ops f l n e i) (chainL ops f' l' n' e (i + d))
  | 0, n', e, i, h1, h2 => by
    have hop : operT ops l' (i + d) = none := by rw [sim_op h i ops ho]; exact operT_none (by omega) ops
    refine SimR.ok (e := e) (j := i) ?_ (by rw [chainL])
    cases n' with
    | zero => rw [chainL]
    | succ n' => rw [chainL, hop]
  | n + 1, n', e, i, h1, h2 => by
    have hop := sim_op h i ops ho
    rw [chainL]
    cases ho2 : operT ops l i with
    | none =>
      rw [ho2] at hop
      simp only
      refine SimR.ok (e := e) (j := i) ?_ rfl
      cases n' with
      | zero => rw [chainL]
      | succ n' => rw [chainL, hop]
    | some o =>
      have hlt := operT_lt ho2
      have hsz := h.size
      obtain ⟨n', rfl⟩ : ∃ m, n' = m + 1 := ⟨n' - 1, by omega⟩
      rw [ho2] at hop
      rw [chainL, hop]
      simp only
      cases hfi : f (i + 1) with
      | error x => intro e j hh; cases hh
      | ok y =>
        obtain ⟨y, q⟩ := y
        have hq := ha _ _ _ hfi
        simp only
        rw [show i + d + 1 = i + 1 + d by omega]
        rcases hf (i + 1) y q hfi with h3 | ⟨p, h3⟩
        · rw [h3]
          simp only
          exact chainL_sim h ho ha hf n n' _ q (by omega) (by omega)
        · rw [h3]
          intro e j _
          exact .inr ⟨p, rfl⟩
theorem chainP_sim (h : Within l l' d) {ops : List Sg} (ho : ∀ x ∈ ops, ¬ (x.1 = 5 ∧ x.2.1 = [41])) {f f' : Nat → Res Ex} (ha : Ahd f) (hf : SimP d f f') : SimP d (chainP ops f l) (chainP ops f' l') := by
  intro i
  unfold chainP
  cases hfi : f i with
  | error x => intro e j hh; cases hh
  | ok y =>
    obtain ⟨y, q⟩ := y
    simp only
    rcases hf i y q hfi with h3 | ⟨p, h3⟩
    · rw [h3]
      simp only
      exact chainL_sim h ho ha hf _ _ _ q (by omega) (by omega)
    · rw [h3]
      intro e j _
      exact .inr ⟨p, rfl⟩
theorem argsL_sim (h : Within l l' d) {p p' : PF} (hp : Sims d p p') : ∀ (n : Nat) (es : List Ex) (i : Nat) (x : List Ex) (j : Nat), argsL l p n es i = .ok (x, j) → argsL l' p' n es (i + d) = .ok (x, j + d) ∨ ∃ q, argsL l' p' n es (i + d) = .error (q, 21)
  | 0, es, i, x, j, hh => by
    rw [argsL] at hh
    injection hh with hh; injection hh with h1 h2
    subst h1 h2
    exact .inl (by rw [argsL])
  | n + 1, es, i, x, j, hh => by
    rw [argsL] at hh
    split at hh
    · cases hh
    · rename_i a ha
      split at hh
      · cases hh
      · rename_i y q hq
        rw [argsL, sim_must h ha]
        simp only
        rcases hp.or _ _ _ hq with h3 | ⟨p, h3⟩
        · rw [h3]
          simp only
          exact argsL_sim h hp n _ _ _ _ hh
        · rw [h3]
          exact .inr ⟨p, rfl⟩
variable {nm : List UInt8 → Bool}
theorem colP_sim (h : Within l l' d) : SimP d (colP nm l) (colP nm l') := by
  intro i e j hh
  unfold colP at hh
  split at hh
  · cases hh
  · rename_i n q hq
    have hd := sim_is h q 5 [46] (by decide)
    unfold colP
    rw [sim_name h hq]
    simp only
    rw [hd]
    split at hh
    · rename_i ht
      split at hh
      · cases hh
      · rename_i m r hr
        rw [if_pos ht, show q + d + 1 = q + 1 + d by omega, sim_name h hr]
        injection hh with hh; injection hh with h1 h2
        subst h1 h2
        exact .inl rfl
    · rename_i ht
      rw [if_neg ht]
      injection hh with hh; injection hh with h1 h2
      subst h1 h2
      exact .inl rfl
/-- The depths below: there are none, or as many above. -/
def Sub (d : Nat) (sub sub' : Option PF) : Prop := ∀ p', sub' = some p' → ∃ p, sub = some p ∧ Sims d p p'
theorem callP_sim (h : Within l l' d) {sub sub' : Option PF} (hs : Sub d sub sub') (f : Int × Int × Nat) : SimP d (callP l sub f) (callP l' sub' f) := by
  intro i e j hh
  cases hsub : sub' with
  | none => exact .inr ⟨_, rfl⟩
  | some p' =>
    obtain ⟨p, rfl, hp⟩ := hs p' hsub
    unfold callP at hh ⊢
    simp only at hh ⊢
    rw [show i + d + 1 = i + 1 + d by omega, sim_is h (i + 1) 5 [42] (by decide)]
    split at hh
    · rename_i hc
      rw [if_pos hc, show i + d + 2 = i + 2 + d by omega]
      split at hh
      · cases hh
      · rename_i a ha
        rw [sim_must h ha]
        injection hh with hh; injection hh with h1 h2
        subst h1 h2
        exact .inl rfl
    · rename_i hc
      rw [if_neg hc]
      split at hh
      · cases hh
      · rename_i es q hq
        have hargs : argsP l' p' f.2.2 (i + 1 + d) = .ok (es, q + d) ∨ ∃ r, argsP l' p' f.2.2 (i + 1 + d) = .error (r, 21) := by
          unfold argsP at hq ⊢
          split at hq
          · cases hq
          · rename_i y m hm
            rcases hp.or _ _ _ hm with h3 | ⟨r, h3⟩
            · rw [h3]
              exact argsL_sim h hp _ _ _ _ _ hq
            · rw [h3]
              exact .inr ⟨r, rfl⟩
        rcases hargs with h3 | ⟨r, h3⟩
        · rw [h3]
          simp only
          split at hh
          · cases hh
          · rename_i a ha
            rw [sim_must h ha]
            injection hh with hh; injection hh with h1 h2
            subst h1 h2
            exact .inl rfl
        · rw [h3]
          exact .inr ⟨r, rfl⟩
theorem wordP_sim (h : Within l l' d) {sub sub' : Option PF} (hs : Sub d sub sub') (s : List UInt8) : SimP d (wordP nm l sub s) (wordP nm l' sub' s) := by
  intro i e j hh
  unfold wordP at hh ⊢
  have next : ∀ v : Vl, Except.ok (litE v, i + 1) = (Except.ok (e, j) : Res Ex) → (Except.ok (litE v, i + d + 1) : Res Ex) = Except.ok (e, j + d) := fun v h => by
    injection h with h; injection h with h1 h2
    subst h1 h2
    rw [show i + 1 + d = i + d + 1 by omega]
  split at hh
  · rename_i hc; rw [if_pos hc]; exact .inl (next _ hh)
  · rename_i hc
    rw [if_neg hc]
    split at hh
    · rename_i hc; rw [if_pos hc]; exact .inl (next _ hh)
    · rename_i hc
      rw [if_neg hc]
      split at hh
      · rename_i hc; rw [if_pos hc]; exact .inl (next _ hh)
      · rename_i hc
        rw [if_neg hc]
        cases hf : funT s with
        | none =>
          rw [hf] at hh
          exact colP_sim h i e j hh
        | some f =>
          rw [hf] at hh
          simp only at hh ⊢
          rw [show i + d + 1 = i + 1 + d by omega, sim_is h (i + 1) 5 [40] (by decide)]
          split at hh
          · rename_i hc
            rw [if_pos hc]
            exact callP_sim h hs f (i + 1) e j hh
          · rename_i hc
            rw [if_neg hc]
            exact colP_sim h i e j hh
theorem brackP_sim (h : Within l l' d) {sub sub' : Option PF} (hs : Sub d sub sub') : SimP d (brackP l sub) (brackP l' sub') := by
  intro i e j hh
  cases hsub : sub' with
  | none => exact .inr ⟨_, rfl⟩
  | some p' =>
    obtain ⟨p, rfl, hp⟩ := hs p' hsub
    unfold brackP at hh ⊢
    simp only at hh ⊢
    split at hh
    · cases hh
    · rename_i y q hq
      rw [show i + d + 1 = i + 1 + d by omega]
      rcases hp.or _ _ _ hq with h3 | ⟨r, h3⟩
      · rw [h3]
        simp only
        split at hh
        · cases hh
        · rename_i a ha
          rw [sim_must h ha]
          injection hh with hh; injection hh with h1 h2
          subst h1 h2
          exact .inl rfl
      · rw [h3]
        exact .inr ⟨r, rfl⟩
theorem itemP_sim (h : Within l l' d) {sub sub' : Option PF} (hs : Sub d sub sub') : SimP d (itemP nm l sub) (itemP nm l' sub') := by
  intro i e j hh
  cases hx : l[i]? with
  | none => unfold itemP at hh; rw [hx] at hh; cases hh
  | some x =>
    obtain ⟨p, hp⟩ := h.same i x hx
    have next : ∀ v : Vl, Except.ok (litE v, i + 1) = (Except.ok (e, j) : Res Ex) → (Except.ok (litE v, i + d + 1) : Res Ex) = Except.ok (e, j + d) := fun v h => by
      injection h with h; injection h with h1 h2
      subst h1 h2
      rw [show i + 1 + d = i + d + 1 by omega]
    unfold itemP at hh ⊢
    rw [hx] at hh
    rw [hp]
    simp only at hh ⊢
    split at hh
    · rename_i hc; rw [if_pos hc]; exact .inl (next _ hh)
    · rename_i hc
      rw [if_neg hc]
      split at hh
      · rename_i hc; rw [if_pos hc]; exact .inl (next _ hh)
      · rename_i hc
        rw [if_neg hc]
        split at hh
        · rename_i hc; rw [if_pos hc]; exact .inl (next _ hh)
        · rename_i hc
          rw [if_neg hc]
          split at hh
          · rename_i hc
            rw [if_pos hc]
            exact wordP_sim h hs _ i e j hh
          · rename_i hc
            rw [if_neg hc, sim_is h i 5 [40] (by decide)]
            split at hh
            · rename_i hc
              rw [if_pos hc]
              exact brackP_sim h hs i e j hh
            · cases hh
theorem signP_sim (h : Within l l' d) {sub sub' : Option PF} (hs : Sub d sub sub') : SimP d (signP nm l sub) (signP nm l' sub') := by
  intro i e j hh
  unfold signP at hh ⊢
  rw [sim_is h i 5 [45] (by decide)]
  split at hh
  · rename_i hc
    rw [if_pos hc]
    cases hsub : sub' with
    | none => exact .inr ⟨_, rfl⟩
    | some p' =>
      obtain ⟨p, rfl, hp⟩ := hs p' hsub
      simp only at hh ⊢
      split at hh
      · cases hh
      · rename_i y q hq
        rw [show i + d + 1 = i + 1 + d by omega]
        rcases hp.sign _ _ _ hq with h3 | ⟨r, h3⟩
        · rw [h3]
          injection hh with hh; injection hh with h1 h2
          subst h1 h2
          exact .inl rfl
        · rw [h3]
          exact .inr ⟨r, rfl⟩
  · rename_i hc
    rw [if_neg hc]
    exact itemP_sim h hs i e j hh
/-- The depths ahead. -/
structure Ah (sub : Option PF) : Prop where
  of : ∀ p, sub = some p → Ahds p
theorem prodP_sim (h : Within l l' d) {sub sub' : Option PF} (ha : Ah sub) (hs : Sub d sub sub') : SimP d (prodP nm l sub) (prodP nm l' sub') := chainP_sim h (by decide) (signP_ahd ha.of) (signP_sim h hs)
theorem sumP_sim (h : Within l l' d) {sub sub' : Option PF} (ha : Ah sub) (hs : Sub d sub sub') : SimP d (sumP nm l sub) (sumP nm l' sub') := chainP_sim h (by decide) (prodP_ahd ha.of) (prodP_sim h ha hs)
theorem catP_sim (h : Within l l' d) {sub sub' : Option PF} (ha : Ah sub) (hs : Sub d sub sub') : SimP d (catP nm l sub) (catP nm l' sub') := chainP_sim h (by decide) (sumP_ahd ha.of) (sumP_sim h ha hs)
theorem testP_sim (h : Within l l' d) {sub sub' : Option PF} (ha : Ah sub) (hs : Sub d sub sub') : SimP d (testP nm l sub) (testP nm l' sub') := by
  intro i e j hh
  unfold testP at hh ⊢
  split at hh
  · cases hh
  · rename_i y m hm
    rcases catP_sim h ha hs i y m hm with h3 | ⟨r, h3⟩
    · rw [h3]
      simp only
      rw [sim_is h m 1 [105, 115] (by decide), show m + d + 1 = m + 1 + d by omega, sim_is h (m + 1) 1 [110, 111, 116] (by decide)]
      split at hh
      · rename_i hc
        rw [if_pos hc]
        split at hh
        · cases hh
        · rename_i a ha2
          have e2 : (if isT l (m + 1) 1 [110, 111, 116] = true then m + d + 2 else m + 1 + d) = (if isT l (m + 1) 1 [110, 111, 116] = true then m + 2 else m + 1) + d := by split <;> omega
          rw [e2, sim_must h ha2]
          injection hh with hh; injection hh with h1 h2
          subst h1 h2
          exact .inl rfl
      · rename_i hc
        rw [if_neg hc, sim_op h m sgTest (by decide)]
        cases hop : operT sgTest l m with
        | none =>
          rw [hop] at hh
          injection hh with hh; injection hh with h1 h2
          subst h1 h2
          exact .inl rfl
        | some o =>
          rw [hop] at hh
          simp only at hh ⊢
          split at hh
          · cases hh
          · rename_i z q hq
            rcases catP_sim h ha hs (m + 1) z q hq with h4 | ⟨r, h4⟩
            · rw [h4]
              injection hh with hh; injection hh with h1 h2
              subst h1 h2
              exact .inl rfl
            · rw [h4]
              exact .inr ⟨r, rfl⟩
    · rw [h3]
      exact .inr ⟨r, rfl⟩
theorem notP_sim (h : Within l l' d) {sub sub' : Option PF} (ha : Ah sub) (hs : Sub d sub sub') : SimP d (notP nm l sub) (notP nm l' sub') := by
  intro i e j hh
  unfold notP at hh ⊢
  rw [sim_is h i 1 [110, 111, 116] (by decide)]
  split at hh
  · rename_i hc
    rw [if_pos hc]
    cases hsub : sub' with
    | none => exact .inr ⟨_, rfl⟩
    | some p' =>
      obtain ⟨p, rfl, hp⟩ := hs p' hsub
      simp only at hh ⊢
      split at hh
      · cases hh
      · rename_i y q hq
        rw [show i + d + 1 = i + 1 + d by omega]
        rcases hp.not _ _ _ hq with h3 | ⟨r, h3⟩
        · rw [h3]
          injection hh with hh; injection hh with h1 h2
          subst h1 h2
          exact .inl rfl
        · rw [h3]
          exact .inr ⟨r, rfl⟩
  · rename_i hc
    rw [if_neg hc]
    exact testP_sim h ha hs i e j hh
theorem andP_sim (h : Within l l' d) {sub sub' : Option PF} (ha : Ah sub) (hs : Sub d sub sub') : SimP d (andP nm l sub) (andP nm l' sub') := chainP_sim h (by decide) (notP_ahd ha.of) (notP_sim h ha hs)
theorem orP_sim (h : Within l l' d) {sub sub' : Option PF} (ha : Ah sub) (hs : Sub d sub sub') : SimP d (orP nm l sub) (orP nm l' sub') := chainP_sim h (by decide) (andP_ahd ha.of) (andP_sim h ha hs)
/-- Fewer depths. -/
theorem readF_sim (h : Within l l' d) : ∀ (k' k : Nat), k' ≤ k → Sims d (readF nm l k) (readF nm l' k') := by
  intro k'
  induction k' with
  | zero =>
    intro k _
    rw [readF_eq, readF_eq]
    have ha : Ah (subF nm l k) := ⟨subF_ahd nm l k⟩
    have hs : Sub d (subF nm l k) (subF nm l' 0) := fun p' h => by cases h
    exact ⟨orP_sim h ha hs, notP_sim h ha hs, signP_sim h hs⟩
  | succ k' ih =>
    intro k hk
    obtain ⟨k, rfl⟩ : ∃ m, k = m + 1 := ⟨k - 1, by omega⟩
    rw [readF_eq, readF_eq]
    have ha : Ah (subF nm l (k + 1)) := ⟨subF_ahd nm l (k + 1)⟩
    have hs : Sub d (subF nm l (k + 1)) (subF nm l' (k' + 1)) := fun p' h => by cases h; exact ⟨_, rfl, ih k (by omega)⟩
    exact ⟨orP_sim h ha hs, notP_sim h ha hs, signP_sim h hs⟩

/-! From an item up. -/
theorem chain_pass {ops : List Sg} {f : Nat → Res Ex} {l : Toks} {i : Nat} (h : ∀ e j, f i = .ok (e, j) → operT ops l j = none) : chainP ops f l i = f i := by
  unfold chainP
  cases hf : f i with
  | error x => rfl
  | ok y =>
    obtain ⟨e, j⟩ := y
    simp only
    have := h e j hf
    cases hn : l.length - j with
    | zero => rw [chainL]
    | succ n => rw [chainL, this]
/-- What stands in brackets ahead of a closing bracket or of nothing is read as an expression. -/
theorem up_item {l : Toks} {sub : Option PF} {i : Nat} (hn : isT l i 1 [110, 111, 116] = false) (hm : isT l i 5 [45] = false) (h : ∀ e j, itemP nm l sub i = .ok (e, j) → ∃ rest, At l j rest ∧ Fol 1 rest) : orP nm l sub i = itemP nm l sub i ∧ notP nm l sub i = itemP nm l sub i := by
  have h8 : signP nm l sub i = itemP nm l sub i := by unfold signP; rw [hm, if_neg (by decide)]
  have go : ∀ (ops : List Sg) (f : Nat → Res Ex), (∀ x ∈ ops, 1 ≤ lnK x.1 x.2.1) → f i = itemP nm l sub i → chainP ops f l i = itemP nm l sub i := fun ops f ho hf => by
    rw [← hf]
    refine chain_pass fun e j hj => ?_
    obtain ⟨rest, h1, h2⟩ := h e j (by rw [← hf]; exact hj)
    exact fol_op h2 h1 ops ho
  have h7 : prodP nm l sub i = itemP nm l sub i := go _ _ (by decide) h8
  have h6 : sumP nm l sub i = itemP nm l sub i := go _ _ (by decide) h7
  have h5 : catP nm l sub i = itemP nm l sub i := go _ _ (by decide) h6
  have h4 : testP nm l sub i = itemP nm l sub i := by
    unfold testP
    rw [h5]
    cases hi : itemP nm l sub i with
    | error x => rfl
    | ok y =>
      obtain ⟨e, j⟩ := y
      obtain ⟨rest, h1, h2⟩ := h e j hi
      simp only
      rw [fol_is h2 h1 1 [105, 115] (by decide), if_neg (by decide), fol_op h2 h1 sgTest (by decide)]
  have h3 : notP nm l sub i = itemP nm l sub i := by
    unfold notP
    rw [hn, if_neg (by decide)]
    exact h4
  exact ⟨go _ _ (by decide) (go _ _ (by decide) h3), h3⟩
end
end Go.Proofs.YtcefmhofidoloaaGreatDoor.Exp
