/- Nesting: the plain law of ExprDeep. -/
import Derived.Test.YtcefmhofidoloaaGreatDoorQc10
import Derived.Test.YtcefmhofidoloaaGreatDoorQdBrkP
set_option linter.unusedVariables false
set_option linter.unusedSimpArgs false
namespace Go.Proofs.YtcefmhofidoloaaGreatDoor.Exp
open Go.Proofs.YtcefmhofidoloaaGreatDoor.Lex

def aheadT (k : Nat) : List UInt8 := if k = 0 then [40] else if k = 1 then [97, 98, 115, 40] else [40, 110, 111, 116, 32]
def aheadW (k : Nat) : List Tk := if k = 0 then [tkS [40]] else if k = 1 then [tkW [97, 98, 115], tkS [40]] else [tkS [40], tkW [110, 111, 116]]
def depK (k : Nat) : Nat := if k = 0 then 1 else if k = 1 then 1 else 2
/-- A text within so many brackets, functions and NOTs. -/
def nestT : List Nat → List UInt8 → List UInt8
  | [], s => s
  | k :: ks, s => aheadT k ++ (nestT ks s ++ [41])
def nestW : List Nat → List Tk → List Tk
  | [], s => s
  | k :: ks, s => aheadW k ++ (nestW ks s ++ [tkS [41]])
def dep : List Nat → Nat
  | [] => 0
  | k :: ks => depK k + dep ks
theorem nest_lex {s : List UInt8} {ws : List Tk} (h : LexTo s ws) : ∀ ks, LexTo (nestT ks s) (nestW ks ws)
  | [] => h
  | k :: ks => by
    have ih := (nest_lex h ks).cat (.mk' (.inr (.inr (.inl rfl))) []) (LexTo.sym (c := 41) (by decide))
    show LexTo (aheadT k ++ (nestT ks s ++ [41])) (aheadW k ++ (nestW ks ws ++ [tkS [41]]))
    unfold aheadT aheadW
    split
    · exact (LexAny.sym (.inl rfl)).cat ih
    · split
      · exact (LexTo.word [97, 98, 115] (by decide) (by decide) (by decide)).cat (s' := [40] ++ (nestT ks s ++ [41])) (.mk' (.inr (.inl rfl)) _) ((LexAny.sym (.inl rfl)).cat ih)
      · exact (LexAny.sym (.inl rfl)).cat (s' := [110, 111, 116] ++ ([32] ++ (nestT ks s ++ [41]))) ((LexTo.word [110, 111, 116] (by decide) (by decide) (by decide)).cat (.mk' (.inl rfl) _) (LexAny.blank.cat ih))
section
variable {nm : List UInt8 → Bool}
theorem or_of_not {l : Toks} {sub : Option PF} {i : Nat} (h : ∀ e j, notP nm l sub i = .ok (e, j) → ∃ rest, At l j rest ∧ Fol 1 rest) : orP nm l sub i = notP nm l sub i := by
  have go : ∀ (ops : List Sg) (f : Nat → Res Ex), (∀ x ∈ ops, 1 ≤ lnK x.1 x.2.1) → f i = notP nm l sub i → chainP ops f l i = notP nm l sub i := fun ops f ho hf => by
    rw [← hf]
    refine chain_pass fun e j hj => ?_
    obtain ⟨rest, h1, h2⟩ := h e j (by rw [← hf]; exact hj)
    exact fol_op h2 h1 ops ho
  exact go _ _ (by decide) (go _ _ (by decide) rfl)
/-- What a text at so many depths comes to. -/
def NR (l : Toks) (d k i n : Nat) (f : Nat → Res Ex) : Prop := (d ≤ k → ∃ e, f i = .ok (e, i + n)) ∧ (k < d → ∃ p, f i = .error (p, 21))
theorem NR.or {l : Toks} {d k i n : Nat} {sub : Option PF} {rest : List Tk} (h : NR l d k i n (notP nm l sub)) (ha : At l (i + n) rest) (hf : Fol 1 rest) : NR l d k i n (orP nm l sub) := by
  have e : orP nm l sub i = notP nm l sub i := or_of_not fun e j hj => by
    rcases Nat.lt_or_ge k d with hk | hk
    · obtain ⟨p, hp⟩ := h.2 hk
      rw [hp] at hj; cases hj
    · obtain ⟨x, hx⟩ := h.1 hk
      rw [hx] at hj
      injection hj with hj; injection hj with _ h2
      rw [← h2]
      exact ⟨rest, ha, hf⟩
  unfold NR
  rw [e]
  exact h
/-- The core is read at any depth. -/
def Core (nm : List UInt8 → Bool) (l : Toks) (ws : List Tk) : Prop := ∀ (k i : Nat) (rest : List Tk), At l i (ws ++ rest) → Fol 1 rest → ∃ e, notP nm l (subF nm l k) i = .ok (e, i + ws.length)
theorem close_ok {l : Toks} {i n : Nat} {rest : List Tk} (ha : At l (i + n) (tkS [41] :: rest)) : mustT l (i + n) 5 [41] = .ok (i + n + 1) := by
  obtain ⟨⟨p, hp⟩, _⟩ := ha.cons
  exact must_at hp
theorem nest_read {l : Toks} {ws : List Tk} (hc : Core nm l ws) : ∀ (ks : List Nat) (k i : Nat) (rest : List Tk), At l i (nestW ks ws ++ rest) → Fol 1 rest → NR l (dep ks) k i (nestW ks ws).length (notP nm l (subF nm l k))
  | [], k, i, rest, ha, hf => ⟨fun _ => hc k i rest ha hf, fun h => absurd h (Nat.not_lt_zero _)⟩
  | d :: ks, k, i, rest, ha, hf => by
    have e0 : nestW (d :: ks) ws = aheadW d ++ (nestW ks ws ++ [tkS [41]]) := rfl
    rw [e0] at ha ⊢
    simp only [List.append_assoc, List.singleton_append] at ha
    have fin : At l (i + (aheadW d ++ (nestW ks ws ++ [tkS [41]])).length) rest := by
      have := At.app (a := aheadW d ++ (nestW ks ws ++ [tkS [41]])) (b := rest) (by simpa using ha)
      exact this
    -- an item passes up
    have pass : ∀ {n : Nat}, isT l i 1 [110, 111, 116] = false → isT l i 5 [45] = false → NR l n k i (aheadW d ++ (nestW ks ws ++ [tkS [41]])).length (itemP nm l (subF nm l k)) → NR l n k i (aheadW d ++ (nestW ks ws ++ [tkS [41]])).length (notP nm l (subF nm l k)) := fun {n} h1 h2 h => by
      have e := (up_item (nm := nm) (l := l) (sub := subF nm l k) (i := i) h1 h2 (fun e j hj => by
        rcases Nat.lt_or_ge k n with hk | hk
        · obtain ⟨p, hp⟩ := h.2 hk
          rw [hp] at hj; cases hj
        · obtain ⟨x, hx⟩ := h.1 hk
          rw [hx] at hj
          injection hj with hj; injection hj with _ h2
          rw [← h2]
          exact ⟨rest, fin, hf⟩)).2
      unfold NR
      rw [e]
      exact h
    show NR l (depK d + dep ks) k i _ _
    by_cases d0 : d = 0
    · subst d0
      obtain ⟨⟨p, hp⟩, ha1⟩ := At.cons (by exact ha)
      refine pass (by rw [isT_at hp]; rfl) (by rw [isT_at hp]; rfl) ?_
      cases k with
      | zero =>
        refine ⟨fun h => absurd h (by simp [depK]), fun _ => ⟨_, by rw [brack_item hp]; rfl⟩⟩
      | succ k =>
        have ih := (nest_read hc ks k (i + 1) _ ha1 (Fol.cons _ (by decide))).or (At.app (a := nestW ks ws) (b := tkS [41] :: rest) ha1) (Fol.cons _ (by decide))
        have hm := close_ok (At.app (a := nestW ks ws) (b := tkS [41] :: rest) ha1)
        refine ⟨fun h => ?_, fun h => ?_⟩
        · obtain ⟨e, he⟩ := ih.1 (by simp [depK] at h; omega)
          refine ⟨e, ?_⟩
          rw [brack_item hp]
          unfold brackP
          rw [sub_or]
          simp only
          rw [readF_eq]
          simp only [layerP]
          rw [he]
          simp only
          rw [hm]
          simp only [aheadW, List.length_append, List.length_cons, List.length_nil, if_pos]
          rw [show i + 1 + (nestW ks ws).length + 1 = i + (0 + 1 + ((nestW ks ws).length + (0 + 1))) by omega]
        · obtain ⟨q, he⟩ := ih.2 (by simp [depK] at h; omega)
          refine ⟨q, ?_⟩
          rw [brack_item hp]
          unfold brackP
          rw [sub_or]
          simp only
          rw [readF_eq]
          simp only [layerP]
          rw [he]
    · by_cases d1 : d = 1
      · subst d1
        obtain ⟨⟨p, hp⟩, ha1⟩ := At.cons (by exact ha)
        obtain ⟨⟨p1, hp1⟩, ha2⟩ := At.cons (by exact ha1)
        refine pass (by rw [isT_at hp]; rfl) (by rw [isT_at hp]; rfl) ?_
        have hw : ∀ sub, itemP nm l sub i = callP l sub (5, 2, 1) (i + 1) := fun sub => word_fun (f := (5, 2, 1)) (by decide) l sub hp (by rw [isT_at hp1]; rfl)
        cases k with
        | zero =>
          refine ⟨fun h => absurd h (by simp [depK]), fun _ => ⟨_, by rw [hw]; rfl⟩⟩
        | succ k =>
          have ih := (nest_read hc ks k (i + 1 + 1) _ ha2 (Fol.cons _ (by decide))).or (At.app (a := nestW ks ws) (b := tkS [41] :: rest) ha2) (Fol.cons _ (by decide))
          have hm := close_ok (At.app (a := nestW ks ws) (b := tkS [41] :: rest) ha2)
          refine ⟨fun h => ?_, fun h => ?_⟩
          · obtain ⟨e, he⟩ := ih.1 (by simp [depK] at h; omega)
            refine ⟨callE 5 2 [e], ?_⟩
            rw [hw]
            unfold callP
            rw [sub_or]
            simp only
            rw [if_neg (by rintro ⟨h, _⟩; exact absurd h (by decide))]
            unfold argsP
            rw [readF_eq]
            simp only [layerP]
            rw [he]
            simp only [Nat.sub_self, argsL]
            rw [hm]
            simp only [aheadW, List.length_append, List.length_cons, List.length_nil]
            rw [if_neg (by decide), if_pos trivial]
            simp only [List.length_cons, List.length_nil]
            rw [show i + 1 + 1 + (nestW ks ws).length + 1 = i + (0 + 1 + 1 + ((nestW ks ws).length + (0 + 1))) by omega]
          · obtain ⟨q, he⟩ := ih.2 (by simp [depK] at h; omega)
            refine ⟨q, ?_⟩
            rw [hw]
            unfold callP
            rw [sub_or]
            simp only
            rw [if_neg (by rintro ⟨h, _⟩; exact absurd h (by decide))]
            unfold argsP
            rw [readF_eq]
            simp only [layerP]
            rw [he]
      · have ew : aheadW d = [tkS [40], tkW [110, 111, 116]] := by unfold aheadW; rw [if_neg d0, if_neg d1]
        have ed : depK d = 2 := by unfold depK; rw [if_neg d0, if_neg d1]
        rw [ew] at ha pass ⊢
        rw [ed]
        obtain ⟨⟨p, hp⟩, ha1⟩ := At.cons (by exact ha)
        obtain ⟨⟨p1, hp1⟩, ha2⟩ := At.cons (by exact ha1)
        refine pass (by rw [isT_at hp]; rfl) (by rw [isT_at hp]; rfl) ?_
        cases k with
        | zero =>
          refine ⟨fun h => by omega, fun _ => ⟨_, by rw [brack_item hp]; rfl⟩⟩
        | succ k =>
          have hnot : NR l (1 + dep ks) k (i + 1) (1 + (nestW ks ws).length) (notP nm l (subF nm l k)) := by
            cases k with
            | zero =>
              refine ⟨fun h => by omega, fun _ => ⟨stopAt l (i + 1), ?_⟩⟩
              unfold notP
              rw [isT_at hp1, if_pos (by decide)]
              rfl
            | succ k =>
              have ih := nest_read hc ks k (i + 1 + 1) _ ha2 (Fol.cons _ (by decide))
              refine ⟨fun h => ?_, fun h => ?_⟩
              · obtain ⟨e, he⟩ := ih.1 (by omega)
                refine ⟨unE 2 e, ?_⟩
                unfold notP
                rw [isT_at hp1, if_pos (by decide), sub_or]
                simp only
                rw [readF_eq]
                simp only [layerP]
                rw [he]
                simp only
                rw [show i + 1 + 1 + (nestW ks ws).length = i + 1 + (1 + (nestW ks ws).length) by omega]
              · obtain ⟨q, he⟩ := ih.2 (by omega)
                refine ⟨q, ?_⟩
                unfold notP
                rw [isT_at hp1, if_pos (by decide), sub_or]
                simp only
                rw [readF_eq]
                simp only [layerP]
                rw [he]
          have ha3 := (At.app (a := nestW ks ws) (b := tkS [41] :: rest) ha2)
          rw [show i + 1 + 1 + (nestW ks ws).length = i + 1 + (1 + (nestW ks ws).length) by omega] at ha3
          have ih := hnot.or ha3 (Fol.cons _ (by decide))
          have hm := close_ok ha3
          refine ⟨fun h => ?_, fun h => ?_⟩
          · obtain ⟨e, he⟩ := ih.1 (by omega)
            refine ⟨e, ?_⟩
            rw [brack_item hp]
            unfold brackP
            rw [sub_or]
            simp only
            rw [readF_eq]
            simp only [layerP]
            rw [he]
            simp only
            rw [hm]
            simp only [List.length_append, List.length_cons, List.length_nil]
            rw [show i + 1 + (1 + (nestW ks ws).length) + 1 = i + (0 + 1 + 1 + ((nestW ks ws).length + (0 + 1))) by omega]
          · obtain ⟨q, he⟩ := ih.2 (by omega)
            refine ⟨q, ?_⟩
            rw [brack_item hp]
            unfold brackP
            rw [sub_or]
            simp only
            rw [readF_eq]
            simp only [layerP]
            rw [he]
/-- a + 1 + 1 .. -/
def coreE : Nat → Ex
  | 0 => colE [] [97]
  | c + 1 => pairE 11 (coreE c) (litE ⟨2, 1, []⟩)
def coreT : Nat → List UInt8
  | 0 => [97]
  | c + 1 => coreT c ++ [32, 43, 32, 49]
theorem good_a : GoodT ⟨1, [97], 0⟩ := good_word (by decide) (by decide) (by decide)
theorem core_fit (ha : nm [97] = true) : ∀ (c k : Nat), Fit nm k 6 (coreE c)
  | 0, k => .col0 _ _ _ ⟨good_a, ha⟩ (by decide)
  | c + 1, k => .pair _ _ _ _ _ (by decide) (by decide) (core_fit ha c k) (.lit _ _ _ (.inr (.inr (.inr (.inl ⟨1, by decide, by decide, rfl⟩)))) (by decide))
theorem core_wd (ha : nm [97] = true) : ∀ c, wdB 6 (coreE (c + 1)) = wdB 6 (coreE c) ++ [tkS [43], ⟨2, [], 1⟩] := fun c => by
  rw [wdB_no (show (6 : Int) ≤ lnE (coreE (c + 1)) from by show (6 : Int) ≤ lnE (pairE 11 _ _); rw [ln_pair]; decide)]
  show wdE (pairE 11 (coreE c) (litE ⟨2, 1, []⟩)) = _
  rw [wd_pair]
  have : wdB (pairLn (11 : Int).toNat + 1) (litE ⟨2, 1, []⟩) = [⟨2, [], 1⟩] := by rw [wdB_no (by rw [ln_lit]; decide), wd_lit]; rfl
  rw [this]
  rfl
theorem core_lex (ha : nm [97] = true) : ∀ c, LexTo (coreT c) (wdB 6 (coreE c))
  | 0 => by
    have : wdB 6 (coreE 0) = [tkW [97]] := rfl
    rw [this]
    show LexTo [97] [tkW [97]]
    have := LexTo.good good_a
    simpa [prT] using this
  | c + 1 => by
    rw [core_wd ha c]
    have h1 : LexTo [49] [(⟨2, [], 1⟩ : Tk)] := by
      have := LexTo.good (good_num (v := 1) (by decide) (by decide))
      have e : prT ⟨2, [], 1⟩ = [49] := by decide +kernel
      rwa [e] at this
    exact (core_lex ha c).cat (s' := [32] ++ ([43] ++ ([32] ++ [49]))) (.mk' (.inl rfl) _) (LexAny.blank.cat ((LexTo.sym (c := 43) (by decide)).cat (.mk' (.inl rfl) _) (LexAny.blank.cat h1)))
theorem core_ok (hw : Words nm) (ha : nm [97] = true) (c : Nat) (l : Toks) : Core nm l (wdB 6 (coreE c)) := by
  intro k i rest hat hf
  have hln : 6 ≤ lnE (coreE c) := by
    cases c with
    | zero => decide
    | succ c => show (6 : Int) ≤ lnE (pairE 11 _ _); rw [ln_pair]; decide
  have h3 := (fit_reads hw (fit_low (core_fit ha c k) (show (3 : Int) ≤ 6 by decide)) (by decide)).1
  have e : wdB 3 (coreE c) = wdB 6 (coreE c) := by rw [wdB_no (by omega), wdB_no hln]
  have h4 := h3 l i rest (by rw [e]; exact hat) (hf.up (by decide))
  rw [e] at h4
  exact ⟨_, h4⟩
theorem lex_of_to {s : List UInt8} {ws : List Tk} (h : LexTo s ws) : ∃ xs, lexT s = .ok xs ∧ xs.map (·.1) = ws := by
  obtain ⟨xs, h2, h3⟩ := h [] (.inl rfl) 0
  refine ⟨xs, ?_, h2⟩
  rw [List.append_nil] at h3
  unfold lexT
  rw [h3]
  simp [toksP, Except.map]
/-- Nesting goes 32 deep. -/
theorem deep_law (hw : Words nm) (ha : nm [97] = true) (ks : List Nat) (c : Nat) : ∃ xs, lexT (nestT ks (coreT c)) = .ok xs ∧ (dep ks ≤ 32 → ∃ e j, (readF nm xs 32).or 0 = .ok (e, j)) ∧ (32 < dep ks → ∃ p, (readF nm xs 32).or 0 = .error (p, 21)) := by
  obtain ⟨xs, h1, h2⟩ := lex_of_to (nest_lex (core_lex ha c) ks)
  have hat : At xs 0 (nestW ks (wdB 6 (coreE c)) ++ []) := by unfold At; rw [List.drop_zero, h2, List.append_nil]
  have h3 := (nest_read (core_ok hw ha c xs) ks 32 0 [] hat (Fol.nil _)).or hat.app (Fol.nil _)
  refine ⟨xs, h1, fun h => ?_, fun h => ?_⟩
  · obtain ⟨e, he⟩ := h3.1 h
    exact ⟨e, _, by rw [readF_eq]; exact he⟩
  · obtain ⟨p, he⟩ := h3.2 h
    exact ⟨p, by rw [readF_eq]; exact he⟩
end
end Go.Proofs.YtcefmhofidoloaaGreatDoor.Exp
