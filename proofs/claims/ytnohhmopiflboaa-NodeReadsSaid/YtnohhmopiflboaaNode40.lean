/- What is written is read, and what is read is written. Plain words. -/
import Derived.Test.YtnohhmopiflboaaNode35
set_option linter.unusedVariables false
set_option linter.unusedSimpArgs false
namespace Go.Proofs.Ytnohhmopiflboaa.Nod
open Go.RowKit Go.Proofs.Ytnohhmopiflboaa.Base Go.Proofs.Ytnohhmopiflboaa.Byt Go.Proofs.Ytnohhmopiflboaa.Rd Go.Proofs.Ytnohhmopiflboaa.App

theorem takeP_app (a r : PB) : takeP a.length (a ++ r) = some (a, r) := by
  unfold takeP
  rw [if_neg (by simp)]
  simp
theorem numP_app {n : Int} (h0 : 0 ≤ n) (h1 : n < 65536) (r : PB) : numP (le2 n ++ r) = some (n, r) := by
  have ht : takeP 2 (le2 n ++ r) = some (le2 n, r) := takeP_app (le2 n) r
  simp only [numP, ht, Option.map_some, Option.some.injEq, Prod.mk.injEq, and_true]
  have e0 : (le2 n).getD 0 0 = UInt8.ofNat (n % 256).toNat := rfl
  have e1 : (le2 n).getD 1 0 = UInt8.ofNat (n / 256 % 256).toNat := rfl
  unfold num2
  rw [e0, e1, UInt8.toNat_ofNat', UInt8.toNat_ofNat']
  omega
theorem keyP_app {k : PB} (h : k.length < 256) (r : PB) : keyP (len1 k.length :: (k ++ r)) = some (k, r) := by
  have ht : takeP 1 (len1 k.length :: (k ++ r)) = some ([len1 k.length], k ++ r) := takeP_app [len1 k.length] (k ++ r)
  have e : (len1 k.length).toNat = k.length := by
    unfold len1
    rw [UInt8.toNat_ofNat', Nat.mod_eq_of_lt h, Nat.mod_eq_of_lt (by omega)]
  simp only [keyP, ht, Option.bind_some, List.getD_cons_zero, e]
  exact takeP_app k r
theorem cellP_app {c : PCell} (h : cellOk c = true) (r : PB) : cellP (cellB c ++ r) = some (c, r) := by
  obtain ⟨k, v, o, s⟩ := c
  simp only [cellOk, cRight, Bool.and_eq_true, Bool.or_eq_true, decide_eq_true_eq] at h
  obtain ⟨hk, h⟩ := h
  have e : cellB (k, v, o, s) ++ r = len1 k.length :: (k ++ (le2 s ++ ((if o = 0 then v else le2 o) ++ r))) := by simp [cellB]
  rw [e]
  rcases h with ⟨⟨ho, hv⟩, hs⟩ | ⟨⟨⟨ho, hv⟩, hs⟩, hs2⟩
  · subst ho
    have hsv : s.toNat = v.length := by omega
    unfold cellP
    rw [keyP_app (by omega)]
    dsimp only
    rw [numP_app (by omega) (by omega)]
    dsimp only
    rw [if_neg (by omega), if_pos rfl, hsv, takeP_app]
  · have hp := page_pos ho
    have hne : ¬ o = 0 := fun e => by rw [e] at ho; simp [isPage] at ho
    have hv0 : v = [] := List.length_eq_zero_iff.1 (by omega)
    subst hv0
    unfold cellP
    rw [keyP_app (by omega)]
    dsimp only
    rw [numP_app (by omega) (by omega)]
    dsimp only
    rw [if_pos hs, if_neg hne, numP_app (by omega) (by omega)]
theorem entP_app {k : PB} {p : Int} (h : keyOk k = true) (hp : isPage p = true) (r : PB) : entP (keyB k p ++ r) = some ((k, p), r) := by
  simp only [keyOk, decide_eq_true_eq] at h
  have hq := page_pos hp
  have e : keyB k p ++ r = len1 k.length :: (k ++ (le2 p ++ r)) := by simp [keyB]
  rw [e]
  unfold entP
  rw [keyP_app (by omega)]
  dsimp only
  rw [numP_app (by omega) (by omega)]
theorem manyP_app {α : Type} (f : PB → Option (α × PB)) (g : α → PB) : ∀ (cs : List α) (r : PB), (∀ c ∈ cs, ∀ r, f (g c ++ r) = some (c, r)) → manyP f cs.length ((cs.map g).flatten ++ r) = some (cs, r)
  | [], r, _ => by simp [manyP]
  | c :: cs, r, h => by
    simp only [List.length_cons, List.map_cons, List.flatten_cons, List.append_assoc, manyP]
    rw [h c (by simp)]
    dsimp only
    rw [manyP_app f g cs r (fun d hd => h d (by simp [hd]))]
    rfl
theorem zip_keys : ∀ (ks : List PB) (ps : List Int), List.zipWith keyB ks ps = (List.zip ks ps).map fun q => keyB q.1 q.2
  | [], _ => by simp
  | k :: ks, [] => by simp
  | k :: ks, p :: ps => by simp [zip_keys ks ps]
theorem zeros_noughts (n : Nat) : zeros (noughts n) = true := by simp [zeros, noughts]
theorem zeros_eq {r : PB} (h : zeros r = true) : r = noughts r.length := by
  apply List.ext_getElem
  · simp [noughts]
  · intro i h1 h2
    simp only [zeros, List.all_eq_true, beq_iff_eq] at h
    simp [noughts, h _ (List.getElem_mem h1)]

/-- What is written is read. -/
theorem read_enc {x : PNode} (h : checkN x = 0) (hs : Sane x) : readP (encB x) = some x := by
  obtain ⟨hf, _⟩ := checkN_zero h
  rw [encB, if_pos h, padB]
  cases hx : x.1 with
  | true =>
    have hr := leaf_right hf hx
    obtain ⟨_, _, hcnt⟩ := leaf_len h hs hx
    obtain ⟨x0, cs, ks, ps⟩ := x
    have hk := hr.nok
    have hp := hr.nop
    dsimp only at hx hk hp hcnt
    subst hx hk hp
    generalize 508 - (bodyB (true, cs, [], [])).length = z
    have e : bodyB (true, cs, [], []) ++ noughts z = 1 :: (le2 cs.length ++ ((cs.map cellB).flatten ++ noughts z)) := by simp [bodyB, headB, partsB]
    rw [e]
    unfold readP
    rw [show takeP 1 (1 :: (le2 cs.length ++ ((cs.map cellB).flatten ++ noughts z))) = some ([1], le2 cs.length ++ ((cs.map cellB).flatten ++ noughts z)) from takeP_app [1] _]
    dsimp only
    rw [if_pos (show ([1] : PB).getD 0 0 = 1 from rfl), numP_app (by omega) (by omega)]
    dsimp only
    rw [show ((cs.length : Int)).toNat = cs.length by omega, manyP_app cellP cellB cs _ (fun c hc r => cellP_app (hr.cells c hc) r)]
    simp [leafFin, zeros_noughts]
  | false =>
    have hr := inner_right hf hx
    obtain ⟨_, _, hcnt⟩ := inner_len h hs hx
    obtain ⟨x0, cs, ks, ps⟩ := x
    have hc := hr.noc
    have hkids := hr.kids
    have hkeys := hr.keys
    have hpages := hr.pages
    dsimp only at hx hc hcnt hkids hkeys hpages
    subst hx hc
    cases ps with
    | nil => simp at hkids
    | cons p0 ps =>
      have hl : ps.length = ks.length := by simpa using hkids
      have hp0 := page_pos (hpages p0 (by simp))
      generalize 508 - (bodyB (false, [], ks, p0 :: ps)).length = z
      have e : bodyB (false, [], ks, p0 :: ps) ++ noughts z = 2 :: (le2 ks.length ++ (le2 p0 ++ (((List.zip ks ps).map fun q => keyB q.1 q.2).flatten ++ noughts z))) := by
        simp [bodyB, headB, partsB, zip_keys]
      rw [e]
      unfold readP
      rw [show takeP 1 (2 :: (le2 ks.length ++ (le2 p0 ++ (((List.zip ks ps).map fun q => keyB q.1 q.2).flatten ++ noughts z)))) = some ([2], le2 ks.length ++ (le2 p0 ++ (((List.zip ks ps).map fun q => keyB q.1 q.2).flatten ++ noughts z))) from takeP_app [2] _]
      dsimp only
      rw [if_neg (show ¬ ([2] : PB).getD 0 0 = 1 by decide), if_pos (show ([2] : PB).getD 0 0 = 2 from rfl), numP_app (by omega) (by omega)]
      dsimp only
      rw [numP_app (by omega) (by omega)]
      dsimp only
      have hz : (List.zip ks ps).length = ks.length := by rw [List.length_zip]; omega
      have hm := manyP_app entP (fun q => keyB q.1 q.2) (List.zip ks ps) (noughts z) (fun q hq r => entP_app (hkeys _ (List.of_mem_zip hq).1) (hpages _ (by simp [(List.of_mem_zip hq).2])) r)
      rw [hz] at hm
      rw [show ((ks.length : Int)).toNat = ks.length by omega, hm]
      simp only [innerFin, Option.bind_some, zeros_noughts, if_true, Option.some.injEq, Prod.mk.injEq, true_and, List.cons.injEq]
      exact ⟨List.map_fst_zip (by omega), List.map_snd_zip (by omega)⟩
theorem body_len508 {x : PNode} (h : checkN x = 0) (hs : Sane x) : (encB x).length = 508 := by
  have := body_small h hs
  rw [encB, if_pos h]
  simp [padB, noughts]
  omega
theorem dec_enc {x : PNode} (h : checkN x = 0) (hs : Sane x) : decP (encB x) = some x := by
  have hl : (encB x).length = 508 := by
    have := body_len508 h hs
    exact this
  unfold decP
  rw [if_pos hl, read_enc h hs]
  simp [h]

/-! ### What is read is written -/
theorem cellP_bytes {r r1 : PB} {c : PCell} (h : cellP r = some (c, r1)) (hc : cellOk c = true) : r = cellB c ++ r1 := by
  unfold cellP at h
  split at h
  · cases h
  · rename_i k r2 hk
    obtain ⟨_, a2, _⟩ := keyP_len hk
    split at h
    · cases h
    · rename_i s r3 hs
      obtain ⟨_, b2, _, b4⟩ := numP_len hs
      split at h
      · split at h
        · cases h
        · rename_i hbig o r4 ho
          obtain ⟨_, _, _, d4⟩ := numP_len ho
          injection h with h
          injection h with h1 h2
          subst h1 h2
          have hne : ¬ o = 0 := fun e => by
            subst e
            simp only [cellOk, cRight, Bool.and_eq_true, Bool.or_eq_true, decide_eq_true_eq] at hc
            rcases hc.2 with hh | hh
            · have := hh.2; simp at this; omega
            · simp [isPage] at hh
          rw [a2, b4, d4]
          simp [cellB, hne]
      · split at h
        · cases h
        · rename_i hsm v r4 hv
          obtain ⟨d1, _, d3⟩ := takeP_len hv
          injection h with h
          injection h with h1 h2
          subst h1 h2
          rw [a2, b4, d3]
          simp [cellB]
theorem entP_bytes {r r1 : PB} {c : PB × Int} (h : entP r = some (c, r1)) : r = keyB c.1 c.2 ++ r1 := by
  unfold entP at h
  split at h
  · cases h
  · rename_i k r2 hk
    obtain ⟨_, a2, _⟩ := keyP_len hk
    split at h
    · cases h
    · rename_i s r3 hs
      obtain ⟨_, b2, _, b4⟩ := numP_len hs
      injection h with h
      injection h with h1 h2
      subst h1 h2
      rw [a2, b4]
      simp [keyB]
theorem manyP_bytes {α : Type} (f : PB → Option (α × PB)) (g : α → PB) (ok : α → Prop) (hf : ∀ r c r1, f r = some (c, r1) → ok c → r = g c ++ r1) :
    ∀ (n : Nat) (r : PB) (cs : List α) (r' : PB), manyP f n r = some (cs, r') → (∀ c ∈ cs, ok c) → r = (cs.map g).flatten ++ r' ∧ cs.length = n
  | 0, r, cs, r', h, _ => by
    injection h with h
    injection h with h1 h2
    subst h1 h2
    simp
  | n + 1, r, cs, r', h, hok => by
    simp only [manyP] at h
    split at h
    · cases h
    · rename_i c r1 hc
      simp only [Option.map_eq_some_iff] at h
      obtain ⟨⟨ds, r2⟩, h1, h2⟩ := h
      injection h2 with h3 h4
      dsimp only at h3 h4
      subst h3 h4
      obtain ⟨b1, b2⟩ := manyP_bytes f g ok hf n r1 ds r2 h1 (fun d hd => hok d (by simp [hd]))
      refine ⟨?_, by simp [b2]⟩
      rw [hf r c r1 hc (hok c (by simp)), b1]
      simp
theorem pad_of {body b r : PB} (hb : b = body ++ r) (hz : zeros r = true) (hl : b.length = 508) : padB body = b := by
  have h1 : r.length = 508 - body.length := by rw [hb, List.length_append] at hl; omega
  rw [padB, hb, ← h1, ← zeros_eq hz]
theorem zip_back : ∀ es : List (PB × Int), List.zipWith keyB (es.map (·.1)) (es.map (·.2)) = es.map fun q => keyB q.1 q.2
  | [] => rfl
  | e :: es => by simp [zip_back es]
theorem dec_back {b : PB} {y : PNode} (h : decP b = some y) : checkN y = 0 ∧ encB y = b := by
  unfold decP at h
  split at h
  · rename_i hl
    simp only [Option.bind_eq_some_iff] at h
    obtain ⟨x, hx, h2⟩ := h
    split at h2
    · rename_i hck
      injection h2 with h2
      subst h2
      refine ⟨hck, ?_⟩
      obtain ⟨hf, _⟩ := checkN_zero hck
      rw [encB, if_pos hck]
      unfold readP at hx
      split at hx
      · cases hx
      · rename_i k r0 h0
        obtain ⟨l1, _, l3⟩ := takeP_len h0
        match k, l1 with
        | [kb], _ =>
          split at hx
          · rename_i hkb
            have hk1 : kb = 1 := hkb
            subst hk1
            split at hx
            · cases hx
            · rename_i n r1 hn
              obtain ⟨_, n2, _, n4⟩ := numP_len hn
              simp only [leafFin, Option.bind_eq_some_iff] at hx
              obtain ⟨⟨cs, r2⟩, h1, h2⟩ := hx
              split at h2
              · rename_i hz
                injection h2 with h2
                subst h2
                have hr := leaf_right hf rfl
                obtain ⟨m1, m2⟩ := manyP_bytes cellP cellB (fun c => cellOk c = true) (fun r c r1 h hc => cellP_bytes h hc) _ _ _ _ h1 hr.cells
                refine pad_of (r := r2) ?_ hz hl
                rw [l3, n4, m1]
                have e : (cs.length : Int) = n := by omega
                simp [bodyB, headB, partsB, e]
              · cases h2
          · split at hx
            · rename_i hkb
              have hk1 : kb = 2 := hkb
              subst hk1
              split at hx
              · cases hx
              · rename_i n r1 hn
                obtain ⟨_, n2, _, n4⟩ := numP_len hn
                split at hx
                · cases hx
                · rename_i p0 r2 hp
                  obtain ⟨_, _, _, p4⟩ := numP_len hp
                  simp only [innerFin, Option.bind_eq_some_iff] at hx
                  obtain ⟨⟨es, r3⟩, h1, h2⟩ := hx
                  split at h2
                  · rename_i hz
                    injection h2 with h2
                    subst h2
                    obtain ⟨m1, m2⟩ := manyP_bytes entP (fun q => keyB q.1 q.2) (fun _ => True) (fun r c r1 h _ => entP_bytes h) _ _ _ _ h1 (fun _ _ => trivial)
                    refine pad_of (r := r3) ?_ hz hl
                    rw [l3, n4, p4, m1]
                    have e : (es.length : Int) = n := by omega
                    simp [bodyB, headB, partsB, e, zip_back]
                  · cases h2
            · cases hx
    · cases h2
  · cases h
end Go.Proofs.Ytnohhmopiflboaa.Nod
