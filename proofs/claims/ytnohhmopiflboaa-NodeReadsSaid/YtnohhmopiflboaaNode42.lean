/- The reference's reader, plainly: it reads on behind an end, and says so at last. -/
import Derived.Test.YtnohhmopiflboaaNode40
import Derived.Test.YtnohhmopiflboaaNode29
set_option linter.unusedVariables false
set_option linter.unusedSimpArgs false
namespace Go.Proofs.Ytnohhmopiflboaa.Nod
open Go.RowKit Go.Proofs.Ytnohhmopiflboaa.Base Go.Proofs.Ytnohhmopiflboaa.Byt Go.Proofs.Ytnohhmopiflboaa.Rd Go.Proofs.Ytnohhmopiflboaa.App

abbrev SSt := PB × Bool
def sTake (n : Nat) (s : SSt) : PB × SSt := if s.2 = true ∧ n ≤ s.1.length then (s.1.take n, (s.1.drop n, true)) else (noughts n, (s.1, false))
def sTwo (s : SSt) : Int × SSt := (num2 (sTake 2 s).1, (sTake 2 s).2)
def sKey (s : SSt) : PB × SSt := sTake ((sTake 1 s).1.getD 0 0).toNat (sTake 1 s).2
def sCell (s : SSt) : PCell × SSt :=
  if 64 < (sTwo (sKey s).2).1 then (((sKey s).1, [], (sTwo (sTwo (sKey s).2).2).1, (sTwo (sKey s).2).1), (sTwo (sTwo (sKey s).2).2).2)
  else (((sKey s).1, (sTake (sTwo (sKey s).2).1.toNat (sTwo (sKey s).2).2).1, 0, (sTwo (sKey s).2).1), (sTake (sTwo (sKey s).2).1.toNat (sTwo (sKey s).2).2).2)
def sEnt (s : SSt) : (PB × Int) × SSt := (((sKey s).1, (sTwo (sKey s).2).1), (sTwo (sKey s).2).2)
def sMany {α : Type} (f : SSt → α × SSt) : Nat → SSt → List α × SSt
  | 0, s => ([], s)
  | n + 1, s => if s.2 = true then ((f s).1 :: (sMany f n (f s).2).1, (sMany f n (f s).2).2) else ([], s)
def sNode (s : SSt) : PNode × SSt :=
  if (sTake 1 s).1.getD 0 0 = 1 then
    ((true, (sMany sCell (sTwo (sTake 1 s).2).1.toNat (sTwo (sTake 1 s).2).2).1, [], []), (sMany sCell (sTwo (sTake 1 s).2).1.toNat (sTwo (sTake 1 s).2).2).2)
  else
    ((false, [], (sMany sEnt (sTwo (sTake 1 s).2).1.toNat (sTwo (sTwo (sTake 1 s).2).2).2).1.map (·.1), (sTwo (sTwo (sTake 1 s).2).2).1 :: (sMany sEnt (sTwo (sTake 1 s).2).1.toNat (sTwo (sTwo (sTake 1 s).2).2).2).1.map (·.2)), (sMany sEnt (sTwo (sTake 1 s).2).1.toNat (sTwo (sTwo (sTake 1 s).2).2).2).2)

theorem sTake_len (n : Nat) (s : SSt) : (sTake n s).1.length = n := by
  unfold sTake
  split
  · rename_i h
    simp
    omega
  · simp [noughts]
theorem sTwo_lt (s : SSt) : 0 ≤ (sTwo s).1 ∧ (sTwo s).1 < 65536 := num2_lt _
theorem sKey_len (s : SSt) : (sKey s).1.length < 256 := by
  unfold sKey
  rw [sTake_len]
  exact UInt8.toNat_lt _

/-! ### Where the reading is right, both read the same -/
theorem sTake_of {n : Nat} {xs a r : PB} (h : takeP n xs = some (a, r)) : sTake n (xs, true) = (a, (r, true)) := by
  unfold takeP at h
  split at h
  · cases h
  · injection h with h
    injection h with h1 h2
    subst h1 h2
    unfold sTake
    rw [if_pos ⟨rfl, by simp; omega⟩]
theorem sTwo_of {n : Int} {xs r : PB} (h : numP xs = some (n, r)) : sTwo (xs, true) = (n, (r, true)) := by
  simp only [numP, Option.map_eq_some_iff] at h
  obtain ⟨p, h1, h2⟩ := h
  have h3 := sTake_of (a := p.1) (r := p.2) h1
  injection h2 with h4 h5
  unfold sTwo
  rw [h3]
  exact Prod.ext h4 (Prod.ext h5 rfl)
theorem sKey_of {k xs r : PB} (h : keyP xs = some (k, r)) : sKey (xs, true) = (k, (r, true)) := by
  simp only [keyP, Option.bind_eq_some_iff] at h
  obtain ⟨p, h1, h2⟩ := h
  have h3 := sTake_of (a := p.1) (r := p.2) h1
  unfold sKey
  rw [h3]
  exact sTake_of h2
theorem sCell_of {c : PCell} {xs r : PB} (h : cellP xs = some (c, r)) : sCell (xs, true) = (c, (r, true)) := by
  unfold cellP at h
  split at h
  · cases h
  · rename_i k r1 hk
    split at h
    · cases h
    · rename_i s r2 hs
      have e1 := sKey_of hk
      have e2 := sTwo_of hs
      unfold sCell
      rw [e1]
      dsimp only
      rw [e2]
      dsimp only
      split at h
      · rename_i h64
        split at h
        · cases h
        · rename_i o r3 ho
          have e3 := sTwo_of ho
          injection h with h
          injection h with h4 h5
          subst h4 h5
          rw [if_pos h64, e3]
      · rename_i h64
        split at h
        · cases h
        · rename_i v r3 hv
          have e3 := sTake_of hv
          injection h with h
          injection h with h4 h5
          subst h4 h5
          rw [if_neg h64, e3]
theorem sEnt_of {c : PB × Int} {xs r : PB} (h : entP xs = some (c, r)) : sEnt (xs, true) = (c, (r, true)) := by
  unfold entP at h
  split at h
  · cases h
  · rename_i k r1 hk
    split at h
    · cases h
    · rename_i s r2 hs
      have e1 := sKey_of hk
      have e2 := sTwo_of hs
      injection h with h
      injection h with h4 h5
      subst h4 h5
      unfold sEnt
      rw [e1]
      dsimp only
      rw [e2]
theorem sMany_of {α : Type} {f : PB → Option (α × PB)} {g : SSt → α × SSt} (hf : ∀ xs c r, f xs = some (c, r) → g (xs, true) = (c, (r, true))) :
    ∀ (n : Nat) (xs : PB) (cs : List α) (r : PB), manyP f n xs = some (cs, r) → sMany g n (xs, true) = (cs, (r, true))
  | 0, xs, cs, r, h => by
    simp only [manyP] at h
    injection h with h
    injection h with h1 h2
    subst h1 h2
    rfl
  | n + 1, xs, cs, r, h => by
    simp only [manyP] at h
    split at h
    · cases h
    · rename_i c r1 hc
      simp only [Option.map_eq_some_iff] at h
      obtain ⟨p, h1, h2⟩ := h
      injection h2 with h3 h4
      have e1 := hf _ _ _ hc
      have e2 := sMany_of hf n r1 p.1 p.2 h1
      simp only [sMany, if_true, e1]
      rw [e2, ← h3, ← h4]
theorem sNode_of {xs : PB} {x : PNode} (h : readP xs = some x) : (sNode (xs, true)).1 = x ∧ (sNode (xs, true)).2.2 = true := by
  unfold readP at h
  split at h
  · cases h
  · rename_i k r0 hk
    have e0 := sTake_of hk
    unfold sNode
    rw [e0]
    dsimp only
    split at h
    · rename_i h1
      split at h
      · cases h
      · rename_i n r1 hn
        have e1 := sTwo_of hn
        simp only [leafFin, Option.bind_eq_some_iff] at h
        obtain ⟨p, h2, h3⟩ := h
        have e2 := sMany_of (g := sCell) (fun _ _ _ => sCell_of) _ _ p.1 p.2 h2
        split at h3
        · injection h3 with h3
          rw [if_pos h1, e1]
          dsimp only
          rw [e2]
          exact ⟨h3, rfl⟩
        · cases h3
    · rename_i h1
      split at h
      · split at h
        · cases h
        · rename_i n r1 hn
          have e1 := sTwo_of hn
          split at h
          · cases h
          · rename_i p0 r2 hp
            have e2 := sTwo_of hp
            simp only [innerFin, Option.bind_eq_some_iff] at h
            obtain ⟨p, h2, h3⟩ := h
            have e3 := sMany_of (g := sEnt) (fun _ _ _ => sEnt_of) _ _ p.1 p.2 h2
            split at h3
            · injection h3 with h3
              rw [if_neg h1, e1]
              dsimp only
              rw [e2]
              dsimp only
              rw [e3]
              exact ⟨h3, rfl⟩
            · cases h3
      · cases h

/-! ### What is read is sane -/
theorem sMany_len {α : Type} (f : SSt → α × SSt) : ∀ (n : Nat) (s : SSt), (sMany f n s).1.length ≤ n
  | 0, s => by simp [sMany]
  | n + 1, s => by
    simp only [sMany]
    split
    · have := sMany_len f n (f s).2
      simp only [List.length_cons]
      omega
    · simp
theorem sMany_all {α : Type} (f : SSt → α × SSt) (p : α → Prop) (hp : ∀ s, p (f s).1) : ∀ (n : Nat) (s : SSt), ∀ c ∈ (sMany f n s).1, p c
  | 0, s, c, hc => by simp [sMany] at hc
  | n + 1, s, c, hc => by
    simp only [sMany] at hc
    split at hc
    · simp only [List.mem_cons] at hc
      rcases hc with rfl | hc
      · exact hp s
      · exact sMany_all f p hp n (f s).2 c hc
    · cases hc
theorem two_wf (s : SSt) : (Lit.int .i64 (sTwo s).1).wf = true := by
  have := sTwo_lt s
  simp [Lit.wf, IntKind.min, IntKind.max, IntKind.signed, IntKind.bits]
  omega
theorem sNode_sane (s : SSt) : Sane (sNode s).1 := by
  have hn (t : SSt) : (sTwo t).1.toNat < 65536 := by have := sTwo_lt t; omega
  have hc : ∀ t, (sCell t).1.1.length ≤ reachBytes ∧ (sCell t).1.2.1.length ≤ reachBytes ∧ (Lit.int .i64 (sCell t).1.2.2.1).wf = true ∧ (Lit.int .i64 (sCell t).1.2.2.2).wf = true := fun t => by
    have h1 := sKey_len t
    unfold sCell
    split
    · exact ⟨by simp only [reachBytes]; omega, by simp [reachBytes], two_wf _, two_wf _⟩
    · rename_i h64
      exact ⟨by simp only [reachBytes]; omega, by simp only [reachBytes, sTake_len]; omega, rfl, two_wf _⟩
  unfold sNode
  split
  · have h1 := sMany_len sCell (sTwo (sTake 1 s).2).1.toNat (sTwo (sTake 1 s).2).2
    have h2 := hn (sTake 1 s).2
    exact ⟨by simp only [reachBytes]; omega, by simp [reachBytes], by simp [reachBytes], fun c hcm => sMany_all sCell (fun c => c.1.length ≤ reachBytes ∧ c.2.1.length ≤ reachBytes ∧ (Lit.int .i64 c.2.2.1).wf = true ∧ (Lit.int .i64 c.2.2.2).wf = true) hc _ _ c hcm, (fun k hk => by cases hk), (fun k hk => by cases hk)⟩
  · have h1 := sMany_len sEnt (sTwo (sTake 1 s).2).1.toNat (sTwo (sTwo (sTake 1 s).2).2).2
    have h2 := hn (sTake 1 s).2
    refine ⟨by simp [reachBytes], by simp only [reachBytes, List.length_map]; omega, by simp only [reachBytes, List.length_cons, List.length_map]; omega, (fun c hc => by cases hc), fun k hk => ?_, fun n hk => ?_⟩
    · obtain ⟨q, hq, rfl⟩ := List.mem_map.1 hk
      have := sMany_all sEnt (fun q => q.1.length < 256) (fun t => sKey_len t) _ _ q hq
      simp only [reachBytes]
      omega
    · simp only [List.mem_cons] at hk
      rcases hk with rfl | hk
      · exact two_wf _
      · obtain ⟨q, hq, rfl⟩ := List.mem_map.1 hk
        exact sMany_all sEnt (fun q => (Lit.int .i64 q.2).wf = true) (fun t => two_wf _) _ _ q hq

/-- What the reference answers: the same. -/
theorem dec_ref (b : PB) : decP b = if (sNode (b, true)).2.2 = true ∧ checkN (sNode (b, true)).1 = 0 ∧ encB (sNode (b, true)).1 = b then some (sNode (b, true)).1 else none := by
  split
  · rename_i h
    have := dec_enc h.2.1 (sNode_sane _)
    rw [h.2.2] at this
    exact this
  · rename_i h
    cases hd : decP b with
    | none => rfl
    | some y =>
      exfalso
      apply h
      have h2 := dec_back hd
      have hr : readP b = some y := by
        unfold decP at hd
        split at hd
        · simp only [Option.bind_eq_some_iff] at hd
          obtain ⟨x, hx, h3⟩ := hd
          split at h3
          · injection h3 with h3
            rw [hx, h3]
          · cases h3
        · cases hd
      have h3 := sNode_of hr
      rw [h3.1]
      exact ⟨h3.2, h2⟩
end Go.Proofs.Ytnohhmopiflboaa.Nod
