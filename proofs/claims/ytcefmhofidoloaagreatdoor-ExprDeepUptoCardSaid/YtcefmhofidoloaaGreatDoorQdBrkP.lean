/- A text in brackets: the plain law of ExprBrackets. -/
import Derived.Test.YtcefmhofidoloaaGreatDoorQc10
import Derived.Test.YtcefmhofidoloaaGreatDoorQdSim
set_option linter.unusedVariables false
set_option linter.unusedSimpArgs false
namespace Go.Proofs.YtcefmhofidoloaaGreatDoor.Exp
open Go.Proofs.YtcefmhofidoloaaGreatDoor.Lex

section
variable {nm : List UInt8 → Bool}
theorem At.of {l : Toks} {pre ts : List Tk} (h : l.map (·.1) = pre ++ ts) : At l pre.length ts := by
  unfold At
  rw [List.map_drop, h]
  exact List.drop_left' rfl
theorem within_of {l l' : Toks} {pre post : List Tk} (h : l'.map (·.1) = pre ++ (l.map (·.1) ++ post)) (hp : ∀ t ∈ post, t = tkS [41]) : Within l l' pre.length := by
  have hl : l'.length = pre.length + (l.length + post.length) := by
    have := congrArg List.length h
    simpa using this
  have get : ∀ i, (l'[i + pre.length]?).map (·.1) = (l.map (·.1) ++ post)[i]? := fun i => by
    rw [← List.getElem?_map, h, List.getElem?_append_right (by omega), show i + pre.length - pre.length = i by omega]
  refine ⟨fun i x hx => ?_, fun i x hi hx => ?_, by omega⟩
  · have h1 := get i
    have hi := (List.getElem?_eq_some_iff.mp hx).1
    rw [List.getElem?_append_left (by simpa using hi), List.getElem?_map, hx] at h1
    obtain ⟨y, hy, e⟩ := Option.map_eq_some_iff.mp h1
    have e' : y.1 = x.1 := e
    exact ⟨y.2, by rw [hy, ← e']⟩
  · have h1 := get i
    rw [hx, List.getElem?_append_right (by simpa using hi)] at h1
    exact hp _ (List.mem_of_getElem? h1.symm)
theorem brack_item {l : Toks} {sub : Option PF} {i p : Nat} (h : l[i]? = some (tkS [40], p)) : itemP nm l sub i = brackP l sub i := by
  unfold itemP
  rw [h]
  simp only
  rw [if_neg (by decide), if_neg (by decide), if_neg (by decide), if_neg (by decide), isT_at h, if_pos (by decide)]
/-- An expression in brackets. -/
theorem brack_or {l : Toks} {k i p : Nat} (hi : l[i]? = some (tkS [40], p)) (h : ∀ e j, (readF nm l k).or (i + 1) = .ok (e, j) → ∃ rest, At l j (tkS [41] :: rest) ∧ Fol 1 rest) :
    (∀ x, (readF nm l k).or (i + 1) = .error x → (readF nm l (k + 1)).or i = .error x) ∧ (∀ e j, (readF nm l k).or (i + 1) = .ok (e, j) → (readF nm l (k + 1)).or i = .ok (e, j + 1)) := by
  have hb : ∀ e j, (readF nm l k).or (i + 1) = .ok (e, j) → brackP l (subF nm l (k + 1)) i = .ok (e, j + 1) := fun e j hj => by
    obtain ⟨rest, ha, _⟩ := h e j hj
    obtain ⟨⟨q, hq⟩, _⟩ := ha.cons
    unfold brackP
    rw [sub_or]
    simp only
    rw [hj]
    simp only
    rw [must_at hq]
  have he : ∀ x, (readF nm l k).or (i + 1) = .error x → brackP l (subF nm l (k + 1)) i = .error x := fun x hx => by
    unfold brackP
    rw [sub_or]
    simp only
    rw [hx]
  have up : (readF nm l (k + 1)).or i = itemP nm l (subF nm l (k + 1)) i := by
    have hu := up_item (nm := nm) (l := l) (sub := subF nm l (k + 1)) (i := i) (by rw [isT_at hi]; rfl) (by rw [isT_at hi]; rfl) (fun e j hj => by
      rw [brack_item hi] at hj
      cases hr : (readF nm l k).or (i + 1) with
      | error x => rw [he x hr] at hj; cases hj
      | ok y =>
        obtain ⟨e', j'⟩ := y
        rw [hb e' j' hr] at hj
        injection hj with hj; injection hj with h1 h2
        obtain ⟨rest, ha, hf⟩ := h e' j' hr
        rw [← h2]
        exact ⟨rest, ha.cons.2, hf⟩)
    rw [readF_eq]
    exact hu.1
  rw [up, brack_item hi]
  exact ⟨he, hb⟩
/-- In one pair of brackets, so many depths. -/
theorem brack_one {ts l : Toks} {a : Ex} {k : Nat} (h : (readF nm ts 32).or 0 = .ok (a, ts.length)) (hk : k ≤ 31) {pre post : List Tk} (hl : l.map (·.1) = pre ++ tkS [40] :: (ts.map (·.1) ++ tkS [41] :: post)) (hp : ∀ t ∈ post, t = tkS [41]) :
    (readF nm l (k + 1)).or pre.length = .ok (a, pre.length + ts.length + 2) ∨ ∃ p, (readF nm l (k + 1)).or pre.length = .error (p, 21) := by
  have hw : Within ts l (pre ++ [tkS [40]]).length := within_of (post := tkS [41] :: post) (by rw [hl]; simp) (by
    intro t ht
    rcases List.mem_cons.mp ht with h | h
    · exact h
    · exact hp t h)
  have hlen : (pre ++ [tkS [40]]).length = pre.length + 1 := by simp
  rw [hlen] at hw
  have ha : At l pre.length (tkS [40] :: (ts.map (·.1) ++ tkS [41] :: post)) := At.of hl
  obtain ⟨⟨p, hi⟩, ha1⟩ := ha.cons
  have ha2 := ha1.app
  rw [List.length_map] at ha2
  have hf : Fol 1 post := by
    cases post with
    | nil => exact Fol.nil _
    | cons t q => rw [hp t (by simp)]; exact Fol.cons _ (by decide)
  have hs := (readF_sim (nm := nm) hw k 32 (by omega)).or 0 a ts.length h
  rw [Nat.zero_add] at hs
  have hb := brack_or (nm := nm) (l := l) (k := k) hi (fun e j hj => by
    rcases hs with hs | ⟨q, hs⟩
    · rw [hs] at hj
      injection hj with hj; injection hj with h1 h2
      rw [← h2, show ts.length + (pre.length + 1) = pre.length + 1 + ts.length by omega]
      exact ⟨post, ha2, hf⟩
    · rw [hs] at hj; cases hj)
  rcases hs with hs | ⟨q, hs⟩
  · left
    rw [hb.2 _ _ hs]
    rw [show ts.length + (pre.length + 1) + 1 = pre.length + ts.length + 2 by omega]
  · exact .inr ⟨q, hb.1 _ hs⟩
theorem brack_law1 {ts l : Toks} {a : Ex} (h : (readF nm ts 32).or 0 = .ok (a, ts.length)) (hl : l.map (·.1) = tkS [40] :: (ts.map (·.1) ++ [tkS [41]])) :
    (readF nm l 32).or 0 = .ok (a, ts.length + 2) ∨ ∃ p, (readF nm l 32).or 0 = .error (p, 21) := by
  have := brack_one (k := 31) (pre := []) (post := []) h (by decide) hl (by simp)
  simpa using this
theorem brack_law2 {ts l : Toks} {a : Ex} (h : (readF nm ts 32).or 0 = .ok (a, ts.length)) (hl : l.map (·.1) = tkS [40] :: tkS [40] :: (ts.map (·.1) ++ [tkS [41], tkS [41]])) :
    (readF nm l 32).or 0 = .ok (a, ts.length + 4) ∨ ∃ p, (readF nm l 32).or 0 = .error (p, 21) := by
  have h1 := brack_one (k := 30) (pre := [tkS [40]]) (post := [tkS [41]]) h (by decide) (by rw [hl]; rfl) (by simp)
  have ha : At l 0 ([tkS [40]] ++ tkS [40] :: (ts.map (·.1) ++ [tkS [41], tkS [41]])) := by
    unfold At; rw [List.drop_zero, hl]; rfl
  obtain ⟨⟨p, hi⟩, ha1⟩ := At.cons (by exact ha)
  obtain ⟨_, ha2⟩ := At.cons (by exact ha1)
  have ha3 := ha2.app
  obtain ⟨_, ha4⟩ := At.cons (by exact ha3)
  rw [List.length_map] at ha4
  simp only [List.length_cons, List.length_nil, Nat.zero_add] at h1 ha4
  have hb := brack_or (nm := nm) (l := l) (k := 31) hi (fun e j hj => by
    rcases h1 with hs | ⟨q, hs⟩
    · rw [Nat.zero_add, hs] at hj
      injection hj with hj; injection hj with h1 h2
      rw [← h2, show 1 + ts.length + 2 = 1 + 1 + ts.length + 1 by omega]
      exact ⟨[], ha4, Fol.nil _⟩
    · rw [Nat.zero_add, hs] at hj; cases hj)
  rcases h1 with hs | ⟨q, hs⟩
  · left
    rw [hb.2 _ _ (by rw [Nat.zero_add]; exact hs)]
    rw [show 1 + ts.length + 2 + 1 = ts.length + 4 by omega]
  · exact .inr ⟨q, hb.1 _ (by rw [Nat.zero_add]; exact hs)⟩
end
theorem shT_map (d : Nat) (l : Toks) : (shT d l).map (·.1) = l.map (·.1) := by simp [shT]
theorem lex_any_ok {s r : List UInt8} {ws : List Tk} {ys : Toks} (h : LexAny s ws) (hr : lexT r = .ok ys) : ∃ xs, lexT (s ++ r) = .ok xs ∧ xs.map (·.1) = ws ++ ys.map (·.1) := by
  obtain ⟨xs, h1, h2⟩ := h r 0
  refine ⟨xs ++ shT s.length ys, ?_, by rw [List.map_append, h1, shT_map]⟩
  unfold lexT at hr ⊢
  rw [h2, toks_shift, hr]
  rfl
theorem lex_brack1 {t : List UInt8} {ts : Toks} (h : lexT t = .ok ts) : ∃ xs, lexT ([40] ++ t ++ [10, 41]) = .ok xs ∧ xs.map (·.1) = tkS [40] :: (ts.map (·.1) ++ [tkS [41]]) := by
  have h2 := lexT_cat h (b := [41]) (ys := [(tkS [41], 0)]) rfl
  obtain ⟨xs, h3, h4⟩ := lex_any_ok (LexAny.sym (c := 40) (.inl rfl)) h2
  refine ⟨xs, by rw [List.append_assoc]; exact h3, ?_⟩
  rw [h4, List.map_append, shT_map]
  rfl
theorem lex_brack2 {t : List UInt8} {ts : Toks} (h : lexT t = .ok ts) : ∃ xs, lexT ([40, 40] ++ t ++ [10, 41, 41]) = .ok xs ∧ xs.map (·.1) = tkS [40] :: tkS [40] :: (ts.map (·.1) ++ [tkS [41], tkS [41]]) := by
  have h2 := lexT_cat h (b := [41, 41]) (ys := [(tkS [41], 0), (tkS [41], 1)]) rfl
  obtain ⟨xs, h3, h4⟩ := lex_any_ok (LexAny.sym (c := 40) (.inl rfl)) h2
  obtain ⟨ys, h5, h6⟩ := lex_any_ok (LexAny.sym (c := 40) (.inl rfl)) h3
  refine ⟨ys, by rw [List.append_assoc]; exact h5, ?_⟩
  rw [h6, h4, List.map_append, shT_map]
  rfl
end Go.Proofs.YtcefmhofidoloaaGreatDoor.Exp
