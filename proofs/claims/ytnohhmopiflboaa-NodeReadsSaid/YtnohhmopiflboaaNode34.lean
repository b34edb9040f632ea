/- What is read is of a size that may be read again. Plain words. -/
import Derived.Test.YtnohhmopiflboaaNode31
set_option linter.unusedVariables false
set_option linter.unusedSimpArgs false
namespace Go.Proofs.Ytnohhmopiflboaa.Nod
open Go.RowKit Go.Proofs.Ytnohhmopiflboaa.Base Go.Proofs.Ytnohhmopiflboaa.Byt Go.Proofs.Ytnohhmopiflboaa.Rd Go.Proofs.Ytnohhmopiflboaa.App

theorem takeP_len {n : Nat} {r a b : PB} (h : takeP n r = some (a, b)) : a.length = n ∧ b.length + n = r.length ∧ r = a ++ b := by
  simp only [takeP] at h
  split at h
  · cases h
  · injection h with h
    injection h with h1 h2
    subst h1 h2
    refine ⟨by simp; omega, by simp; omega, by simp⟩
theorem numP_len {r r1 : PB} {n : Int} (h : numP r = some (n, r1)) : r1.length + 2 = r.length ∧ 0 ≤ n ∧ n < 65536 ∧ r = le2 n ++ r1 := by
  have hb := numP_lt h
  simp only [numP, Option.map_eq_some_iff] at h
  obtain ⟨⟨a, b⟩, h1, h2⟩ := h
  injection h2 with h3 h4
  dsimp only at h3 h4
  subst h4
  obtain ⟨l1, l2, l3⟩ := takeP_len h1
  refine ⟨l2, hb.1, hb.2, ?_⟩
  rw [l3]
  congr 1
  match a, l1 with
  | [x, y], _ =>
    have e : num2 [x, y] = (x.toNat : Int) + 256 * (y.toNat : Int) := rfl
    have hx := x.toNat_lt
    have hy := y.toNat_lt
    rw [← h3, e]
    simp only [le2]
    have e1 : (((x.toNat : Int) + 256 * (y.toNat : Int)) % 256).toNat = x.toNat := by omega
    have e2 : (((x.toNat : Int) + 256 * (y.toNat : Int)) / 256 % 256).toNat = y.toNat := by omega
    rw [e1, e2]
    simp
theorem keyP_len {r k r1 : PB} (h : keyP r = some (k, r1)) : k.length + 1 + r1.length = r.length ∧ r = len1 k.length :: (k ++ r1) ∧ k.length < 256 := by
  simp only [keyP, Option.bind_eq_some_iff] at h
  obtain ⟨⟨a, b⟩, h1, h2⟩ := h
  obtain ⟨l1, l2, l3⟩ := takeP_len h1
  dsimp only at h2
  obtain ⟨m1, m2, m3⟩ := takeP_len h2
  match a, l1 with
  | [x], _ =>
    have hx := x.toNat_lt
    simp only [List.getD_cons_zero] at m1 m2
    refine ⟨by omega, ?_, by omega⟩
    rw [l3, m3]
    have e : len1 k.length = x := by
      unfold len1
      rw [m1, Nat.mod_eq_of_lt (by omega)]
      simp
    rw [e]
    rfl
theorem wf_small {n : Int} (h0 : 0 ≤ n) (h1 : n < 65536) : (Lit.int .i64 n).wf = true := by
  simp [Lit.wf, IntKind.min, IntKind.max, IntKind.signed, IntKind.bits]
  omega
def SmallC (m : Nat) (c : PCell) : Prop := c.1.length ≤ m ∧ c.2.1.length ≤ m ∧ (Lit.int .i64 c.2.2.1).wf = true ∧ (Lit.int .i64 c.2.2.2).wf = true
theorem cellP_len {r r1 : PB} {c : PCell} (h : cellP r = some (c, r1)) : r1.length + 3 ≤ r.length ∧ SmallC r.length c := by
  unfold cellP at h
  split at h
  · cases h
  · rename_i k r2 hk
    obtain ⟨a1, _, _⟩ := keyP_len hk
    split at h
    · cases h
    · rename_i s r3 hs
      obtain ⟨b1, b2, b3, _⟩ := numP_len hs
      split at h
      · split at h
        · cases h
        · rename_i o r4 ho
          obtain ⟨d1, d2, d3, _⟩ := numP_len ho
          injection h with h
          injection h with h1 h2
          subst h1 h2
          exact ⟨by omega, by dsimp only; omega, by simp, wf_small d2 d3, wf_small b2 b3⟩
      · split at h
        · cases h
        · rename_i v r4 hv
          obtain ⟨d1, d2, _⟩ := takeP_len hv
          injection h with h
          injection h with h1 h2
          subst h1 h2
          exact ⟨by omega, by dsimp only; omega, by dsimp only; omega, wf_small (n := 0) (by omega) (by omega), wf_small b2 b3⟩
theorem entP_len {r r1 : PB} {c : PB × Int} (h : entP r = some (c, r1)) : r1.length + 3 ≤ r.length ∧ (c.1.length ≤ r.length ∧ 0 ≤ c.2 ∧ c.2 < 65536) := by
  unfold entP at h
  split at h
  · cases h
  · rename_i k r2 hk
    obtain ⟨a1, _, _⟩ := keyP_len hk
    split at h
    · cases h
    · rename_i s r3 hs
      obtain ⟨b1, b2, b3, _⟩ := numP_len hs
      injection h with h
      injection h with h1 h2
      subst h1 h2
      exact ⟨by omega, by dsimp only; omega, b2, b3⟩
theorem manyP_len {α : Type} (f : PB → Option (α × PB)) (Q : Nat → α → Prop) (hQ : ∀ m m' c, m ≤ m' → Q m c → Q m' c) (hf : ∀ r c r1, f r = some (c, r1) → r1.length + 3 ≤ r.length ∧ Q r.length c) :
    ∀ (n : Nat) (r : PB) (cs : List α) (r' : PB), manyP f n r = some (cs, r') → cs.length * 3 + r'.length ≤ r.length ∧ ∀ c ∈ cs, Q r.length c
  | 0, r, cs, r', h => by
    injection h with h
    injection h with h1 h2
    subst h1 h2
    simp
  | n + 1, r, cs, r', h => by
    simp only [manyP] at h
    split at h
    · cases h
    · rename_i c r1 hc
      simp only [Option.map_eq_some_iff] at h
      obtain ⟨⟨ds, r2⟩, h1, h2⟩ := h
      injection h2 with h3 h4
      dsimp only at h3 h4
      subst h3 h4
      obtain ⟨a1, a2⟩ := hf r c r1 hc
      obtain ⟨b1, b2⟩ := manyP_len f Q hQ hf n r1 ds r2 h1
      refine ⟨by simp only [List.length_cons]; omega, fun d hd => ?_⟩
      rcases List.mem_cons.1 hd with rfl | hd
      · exact a2
      · exact hQ _ _ _ (by omega) (b2 d hd)

theorem sane_read {xs : PB} {x : PNode} (h : readP xs = some x) (hl : xs.length ≤ 508) : Sane x := by
  unfold readP at h
  split at h
  · cases h
  · rename_i k r0 h0
    obtain ⟨l1, l2, _⟩ := takeP_len h0
    split at h
    · split at h
      · cases h
      · rename_i n r1 hn
        obtain ⟨n1, n2, n3, _⟩ := numP_len hn
        simp only [leafFin, Option.bind_eq_some_iff] at h
        obtain ⟨⟨cs, r2⟩, h1, h2⟩ := h
        split at h2
        · injection h2 with h2
          subst h2
          obtain ⟨c1, c2⟩ := manyP_len cellP SmallC (fun m m' c hm hc => ⟨by have := hc.1; omega, by have := hc.2.1; omega, hc.2.2.1, hc.2.2.2⟩) (fun r c r1 h => cellP_len h) _ _ _ _ h1
          refine ⟨by simp only [reachBytes]; omega, by simp, by simp, fun c hc => ?_, fun k hk => (by cases hk), fun n hn => (by cases hn)⟩
          obtain ⟨d1, d2, d3, d4⟩ := c2 c hc
          exact ⟨by simp only [reachBytes]; omega, by simp only [reachBytes]; omega, d3, d4⟩
        · cases h2
    · split at h
      · split at h
        · cases h
        · rename_i n r1 hn
          obtain ⟨n1, n2, n3, _⟩ := numP_len hn
          split at h
          · cases h
          · rename_i p0 r2 hp
            obtain ⟨p1, p2, p3, _⟩ := numP_len hp
            simp only [innerFin, Option.bind_eq_some_iff] at h
            obtain ⟨⟨es, r3⟩, h1, h2⟩ := h
            split at h2
            · injection h2 with h2
              subst h2
              obtain ⟨c1, c2⟩ := manyP_len entP (fun m c => c.1.length ≤ m ∧ 0 ≤ c.2 ∧ c.2 < 65536) (fun m m' c hm hc => ⟨by have := hc.1; omega, hc.2.1, hc.2.2⟩) (fun r c r1 h => entP_len h) _ _ _ _ h1
              refine ⟨by simp, by simp only [reachBytes, List.length_map]; omega, by simp only [reachBytes, List.length_map, List.length_cons]; omega, fun c hc => by (cases hc), fun k hk => ?_, fun n hn => ?_⟩
              · obtain ⟨e, he, rfl⟩ := List.mem_map.1 hk
                have := (c2 e he).1
                simp only [reachBytes]; omega
              · rcases List.mem_cons.1 hn with rfl | hn
                · exact wf_small p2 p3
                · obtain ⟨e, he, rfl⟩ := List.mem_map.1 hn
                  exact wf_small (c2 e he).2.1 (c2 e he).2.2
            · cases h2
      · cases h
end Go.Proofs.Ytnohhmopiflboaa.Nod
