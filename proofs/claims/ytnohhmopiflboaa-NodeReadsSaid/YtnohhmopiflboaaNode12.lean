/- A node that a call has built: all of it lies in blocks of the call's own. -/
import Derived.Test.YtnohhmopiflboaaNode11
import Derived.Test.YtnohhmopiflboaaApp
set_option linter.unusedVariables false
set_option linter.unusedSimpArgs false
namespace Go.Proofs.Ytnohhmopiflboaa.Nod
open Go.RowKit Go.Proofs.Ytnohhmopiflboaa.Base Go.Proofs.Ytnohhmopiflboaa.Byt Go.Proofs.Ytnohhmopiflboaa.Rd Go.Proofs.Ytnohhmopiflboaa.App

theorem rowB : RowT Try.prog 31 5 1 1 := ⟨Try.underlying31, by obtain ⟨i, h1, h2, h3, h4⟩ := info_parts info5; exact ⟨i, _, h1, h2, h3, h4, rfl⟩, by decide⟩
theorem rowK : RowT Try.prog 23 31 1 24 := ⟨Try.underlying23, by obtain ⟨i, h1, h2, h3, h4⟩ := info_parts info31; exact ⟨i, _, h1, h2, h3, h4, rfl⟩, by decide⟩
theorem infoI : (Try.prog.info? 3).map (fun i => (i.zero, i.size, i.bytes)) = some (some (.int .i64 0), 1, 8) := by kernel_rfl
theorem rowI : RowT Try.prog 24 3 1 8 := ⟨Try.underlying24, by obtain ⟨i, h1, h2, h3, h4⟩ := info_parts infoI; exact ⟨i, _, h1, h2, h3, h4, rfl⟩, by decide⟩
theorem infoC : (Try.prog.info? 61).map (fun i => (i.zero, i.size, i.bytes)) = some (some (.agg #[.slice none 0 0, .slice none 0 0, .int .i64 0, .int .i64 0]), 4, 64) := by kernel_rfl
theorem rowC : RowT Try.prog 27 61 4 64 := ⟨Try.underlying27, by obtain ⟨i, h1, h2, h3, h4⟩ := info_parts infoC; exact ⟨i, _, h1, h2, h3, h4, rfl⟩, by decide⟩
theorem infoRC : (Try.prog.info? 78).map (fun i => (i.zero, i.size, i.bytes)) = some (some (.agg #[.slice none 0 0, .slice none 0 0, .int .i64 0, .int .i64 0]), 4, 64) := by kernel_rfl
theorem rowRC : RowT Try.prog 22 78 4 64 := ⟨Try.underlying22, by obtain ⟨i, h1, h2, h3, h4⟩ := info_parts infoRC; exact ⟨i, _, h1, h2, h3, h4, rfl⟩, by decide⟩

/-- Bytes that came in, to be appended. -/
theorem src_bytes {w : World} {A : Option Addr} {n c : Nat} {xs : PB} (h : IsBytes w A n xs) (hc : A = none → c = 0) : Feeds w A n c 1 (bcells xs) :=
  ⟨by rw [bcells_length, h.1]; omega, fun a ha => by subst ha; exact bcells_news h, fun ha => by subst ha; exact ⟨(none_zero h).1, hc rfl⟩, bcells_one xs⟩
/-- Numbers that came in, to be appended. -/
def icells (xs : List Int) : List Value := xs.map (.int .i64)
theorem src_kids {w : World} {A : Option Addr} {n c : Nat} {xs : List Int} (h : IsSl (rInt .i64) 1 w A n xs) (hc : A = none → c = 0) : Feeds w A n c 1 (icells xs) := by
  refine ⟨by simp [icells, h.1], fun a ha j u hu => ?_, fun ha => ?_, fun u hu => ?_⟩
  · subst ha
    have hj : j < xs.length := by
      have := (List.getElem?_eq_some_iff.1 hu).1
      simpa [icells] using this
    obtain ⟨b, o, e, _, hcl⟩ := h.2 (by have := h.1; omega)
    cases e
    obtain ⟨es, _, h2, h3, _⟩ := hcl j hj
    have h4 := h2 0 (by omega)
    rw [h3] at h4
    rw [addr_add]
    simp only [Nat.mul_one, Nat.add_zero] at h4
    rw [h4, ← hu]
    simp [icells, hj]
  · subst ha
    refine ⟨?_, hc rfl⟩
    rcases Nat.eq_zero_or_pos n with h0 | h0
    · exact h0
    · obtain ⟨_, _, h1, _⟩ := h.2 h0; cases h1
  · simp [icells] at hu
    obtain ⟨y, _, rfl⟩ := hu
    rfl

/-- A row of the call's own that holds bytes reads as these. -/
theorem own_b {w : World} {B : Nat} {v : Value} {xs : PB} (h : OwnB w B v xs) (hl : xs.length ≤ reachBytes) : rB w [v] xs := by
  have hlen := h.1
  rcases h.2 with ⟨rfl, h0⟩ | ⟨g, cap, cur, rfl, hbg, hh, hcap, _, hsz, ht⟩
  · refine ⟨none, 0, 0, rfl, by simp, fun _ => rfl, h0, fun hp => by omega⟩
  · refine ⟨_, xs.length, cap, rfl, by omega, (fun h => by cases h), rfl, fun hp => ⟨g, 0, rfl, blk_lt hh, fun j hj => ⟨[bcell xs[j]], rfl, fun i hi => ?_, rfl⟩⟩⟩
    obtain rfl : i = 0 := by omega
    rw [Nat.zero_add, blk_cell hh]
    have : (cur.toList.take (xs.length * 1))[j]? = (bcells xs)[j]? := by rw [ht]
    rw [List.getElem?_take, if_pos (by omega), Array.getElem?_toList] at this
    simp only [Nat.mul_one, Nat.add_zero]
    rw [this]
    simp [bcells, hj]

/-! ### Rows of cells, of keys, of kids -/
abbrev PV := Value × Value × Int × Int
def cells4 : List PV → List Value
  | [] => []
  | p :: ps => p.1 :: p.2.1 :: .int .i64 p.2.2.1 :: .int .i64 p.2.2.2 :: cells4 ps
theorem cells4_snoc (ps : List PV) (p : PV) : cells4 (ps ++ [p]) = cells4 ps ++ [p.1, p.2.1, .int .i64 p.2.2.1, .int .i64 p.2.2.2] := by
  induction ps with
  | nil => rfl
  | cons q ps ih => simp [cells4, ih]
theorem cells4_length (ps : List PV) : (cells4 ps).length = ps.length * 4 := by
  induction ps with
  | nil => rfl
  | cons q ps ih => simp [cells4, ih]; omega
theorem cells4_get : ∀ (ps : List PV) (j i : Nat) (hj : j < ps.length), i < 4 → (cells4 ps)[j * 4 + i]? = [ps[j].1, ps[j].2.1, .int .i64 ps[j].2.2.1, .int .i64 ps[j].2.2.2][i]?
  | [], j, i, hj, _ => by simp at hj
  | q :: ps, 0, i, hj, hi => by
    match i, hi with
    | 0, _ => rfl
    | 1, _ => rfl
    | 2, _ => rfl
    | 3, _ => rfl
  | q :: ps, j + 1, i, hj, hi => by
    have e : (j + 1) * 4 + i = (j * 4 + i) + 4 := by omega
    rw [e]
    simp only [cells4, List.getElem?_cons_succ, List.getElem_cons_succ]
    exact cells4_get ps j i (by simpa using hj) hi

/-- v is a row of the call's own of cells of type T that read as xs. -/
structure OwnCells (T : TypeId) (W : World) (B : Nat) (v : Value) (xs : List PCell) (ps : List PV) : Prop where
  own : W.ownsRow B T 4 v xs.length (cells4 ps)
  len : ps.length = xs.length
  cell : ∀ j (h : j < xs.length) (h' : j < ps.length), OwnB W B ps[j].1 xs[j].1 ∧ OwnB W B ps[j].2.1 xs[j].2.1 ∧ ps[j].2.2 = xs[j].2.2
structure OwnKeys (W : World) (B : Nat) (v : Value) (xs : List PB) (ps : List Value) : Prop where
  own : W.ownsRow B 31 1 v xs.length ps
  key : ∀ j (h : j < xs.length) (h' : j < ps.length), OwnB W B ps[j] xs[j]
def OwnKids (W : World) (B : Nat) (v : Value) (xs : List Int) : Prop := W.ownsRow B 3 1 v xs.length (icells xs)

theorem OwnCells.nil (T : TypeId) (W : World) (B : Nat) : OwnCells T W B (.slice none 0 0) [] [] := ⟨World.ownsRow_nil _ _ _ _, rfl, fun j h => by simp at h⟩
theorem OwnKeys.nil (W : World) (B : Nat) : OwnKeys W B (.slice none 0 0) [] [] := ⟨World.ownsRow_nil _ _ _ _, fun j h => by simp at h⟩
theorem OwnKids.nil (W : World) (B : Nat) : OwnKids W B (.slice none 0 0) [] := World.ownsRow_nil _ _ _ _
theorem OwnCells.keep {T : TypeId} {W W' : World} {B : Nat} {v : Value} {xs : List PCell} {ps : List PV} (h : OwnCells T W B v xs ps) (h1 : KeepT T W W') (h2 : KeepT 5 W W') : OwnCells T W' B v xs ps :=
  ⟨h1.own h.own, h.len, fun j a b => ⟨h2.own (h.cell j a b).1, h2.own (h.cell j a b).2.1, (h.cell j a b).2.2⟩⟩
theorem OwnKeys.keep {W W' : World} {B : Nat} {v : Value} {xs : List PB} {ps : List Value} (h : OwnKeys W B v xs ps) (h1 : KeepT 31 W W') (h2 : KeepT 5 W W') : OwnKeys W' B v xs ps :=
  ⟨h1.own h.own, fun j a b => h2.own (h.key j a b)⟩
theorem OwnKids.keep {W W' : World} {B : Nat} {v : Value} {xs : List Int} (h : OwnKids W B v xs) (h1 : KeepT 3 W W') : OwnKids W' B v xs := h1.own h
theorem OwnCells.snoc {T : TypeId} {W W' : World} {B : Nat} {v v' : Value} {xs : List PCell} {ps : List PV} (h : OwnCells T W B v xs ps) (h2 : KeepT 5 W W') {p : PV} {x : PCell}
    (ho : W'.ownsRow B T 4 v' (xs.length + 1) (cells4 ps ++ [p.1, p.2.1, .int .i64 p.2.2.1, .int .i64 p.2.2.2])) (hk : OwnB W' B p.1 x.1) (hv : OwnB W' B p.2.1 x.2.1) (hn : p.2.2 = x.2.2) : OwnCells T W' B v' (xs ++ [x]) (ps ++ [p]) := by
  refine ⟨?_, by simp [h.len], fun j a b => ?_⟩
  · rw [cells4_snoc, List.length_append]; exact ho
  · by_cases hj : j < xs.length
    · have hj' : j < ps.length := by rw [h.len]; exact hj
      have := h.cell j hj hj'
      rw [List.getElem_append_left hj, List.getElem_append_left hj']
      exact ⟨h2.own this.1, h2.own this.2.1, this.2.2⟩
    · have hj2 : j = xs.length := by simp at a; omega
      subst hj2
      have e1 : (xs ++ [x])[xs.length] = x := by simp
      have e2 : (ps ++ [p])[xs.length]'b = p := by simp [← h.len]
      rw [e1, e2]
      exact ⟨hk, hv, hn⟩
theorem OwnKeys.snoc {W W' : World} {B : Nat} {v v' : Value} {xs : List PB} {ps : List Value} (h : OwnKeys W B v xs ps) (h2 : KeepT 5 W W') {p : Value} {x : PB}
    (ho : W'.ownsRow B 31 1 v' (xs.length + 1) (ps ++ [p])) (hk : OwnB W' B p x) : OwnKeys W' B v' (xs ++ [x]) (ps ++ [p]) := by
  have hl : ps.length = xs.length := by have := h.own.1; omega
  refine ⟨by rw [List.length_append]; exact ho, fun j a b => ?_⟩
  by_cases hj : j < xs.length
  · have hj' : j < ps.length := by omega
    rw [List.getElem_append_left hj, List.getElem_append_left hj']
    exact h2.own (h.key j hj hj')
  · have hj2 : j = xs.length := by simp at a; omega
    subst hj2
    have e1 : (xs ++ [x])[xs.length] = x := by simp
    have e2 : (ps ++ [p])[xs.length]'b = p := by simp [← hl]
    rw [e1, e2]
    exact hk

/-- What may be in a node, as far as its reading goes. -/
structure Sane (x : PNode) : Prop where
  cells : x.2.1.length * 64 ≤ reachBytes
  keys : x.2.2.1.length * 24 ≤ reachBytes
  kids : x.2.2.2.length * 8 ≤ reachBytes
  cell : ∀ c ∈ x.2.1, c.1.length ≤ reachBytes ∧ c.2.1.length ≤ reachBytes ∧ (Lit.int .i64 c.2.2.1).wf = true ∧ (Lit.int .i64 c.2.2.2).wf = true
  key : ∀ k ∈ x.2.2.1, k.length ≤ reachBytes
  kid : ∀ n ∈ x.2.2.2, (Lit.int .i64 n).wf = true
theorem NodeAt.sane {W : World} {x : PNode} {A1 A2 A3 : Option Addr} {n1 c1 n2 c2 n3 c3 : Nat} (h : NodeAt W x A1 n1 c1 A2 n2 c2 A3 n3 c3) : Sane x := by
  refine ⟨by rw [h.cells.1]; exact h.b1, by rw [h.keys.1]; exact h.b2, by rw [h.kids.1]; exact h.b3, fun c hc => ?_, fun k hk => ?_, fun n hn => ?_⟩
  · obtain ⟨j, hj, rfl⟩ := List.getElem_of_mem hc
    obtain ⟨b, o, _, _, hcl⟩ := h.cells.2 (by have := h.cells.1; omega)
    obtain ⟨es, _, _, c0, c1, c2, c3, _, h0, h1, ⟨_, h2⟩, ⟨_, h3⟩⟩ := hcl j hj
    obtain ⟨_, m0, _, _, l0, _, s0⟩ := h0
    obtain ⟨_, m1, _, _, l1, _, s1⟩ := h1
    have := s0.1
    have := s1.1
    exact ⟨by omega, by omega, h2, h3⟩
  · obtain ⟨j, hj, rfl⟩ := List.getElem_of_mem hk
    obtain ⟨b, o, _, _, hcl⟩ := h.keys.2 (by have := h.keys.1; omega)
    obtain ⟨es, hes, _, h0⟩ := hcl j hj
    match es, hes, h0 with
    | [c0], _, h0 =>
      obtain ⟨_, m0, _, _, l0, _, s0⟩ := h0
      have := s0.1
      omega
  · obtain ⟨j, hj, rfl⟩ := List.getElem_of_mem hn
    obtain ⟨b, o, _, _, hcl⟩ := h.kids.2 (by have := h.kids.1; omega)
    obtain ⟨es, _, _, _, h0⟩ := hcl j hj
    exact h0

/-- A node in blocks of the call's own. -/
structure OwnNode (T : TypeId) (W : World) (B : Nat) (v0 v1 v2 v3 : Value) (x : PNode) : Prop where
  leaf : v0 = .bool x.1
  cells : ∃ ps, OwnCells T W B v1 x.2.1 ps
  keys : ∃ ps, OwnKeys W B v2 x.2.2.1 ps
  kids : OwnKids W B v3 x.2.2.2
theorem OwnCells.read {T : TypeId} {W : World} {B : Nat} {v : Value} {xs : List PCell} {ps : List PV} (h : OwnCells T W B v xs ps) (hb : xs.length * 64 ≤ reachBytes)
    (hc : ∀ c ∈ xs, c.1.length ≤ reachBytes ∧ c.2.1.length ≤ reachBytes ∧ (Lit.int .i64 c.2.2.1).wf = true ∧ (Lit.int .i64 c.2.2.2).wf = true) : rCells W [v] xs := by
  have hlen := h.own.1
  rcases h.own.2 with ⟨rfl, h0⟩ | ⟨g, cap, cur, rfl, hbg, hh, hcap, _, hsz, ht⟩
  · exact ⟨none, 0, 0, rfl, by simp, fun _ => rfl, h0, fun hp => by omega⟩
  · refine ⟨_, xs.length, cap, rfl, hb, (fun h => by cases h), rfl, fun hp => ⟨g, 0, rfl, blk_lt hh, fun j hj => ?_⟩⟩
    have hj' : j < ps.length := by rw [h.len]; exact hj
    obtain ⟨a0, a1, a2⟩ := h.cell j hj hj'
    obtain ⟨b0, b1, b2, b3⟩ := hc _ (List.getElem_mem hj)
    refine ⟨[ps[j].1, ps[j].2.1, .int .i64 ps[j].2.2.1, .int .i64 ps[j].2.2.2], rfl, fun i hi => ?_, ⟨_, _, _, _, rfl, own_b a0 b0, own_b a1 b1, ⟨by rw [a2], b2⟩, ⟨by rw [a2], b3⟩⟩⟩
    rw [Nat.zero_add, blk_cell hh, ← cells4_get ps j i hj' hi, ← ht, List.getElem?_take, if_pos (by omega), Array.getElem?_toList]
theorem OwnKeys.read {W : World} {B : Nat} {v : Value} {xs : List PB} {ps : List Value} (h : OwnKeys W B v xs ps) (hb : xs.length * 24 ≤ reachBytes) (hc : ∀ k ∈ xs, k.length ≤ reachBytes) : rKeys W [v] xs := by
  have hlen := h.own.1
  rcases h.own.2 with ⟨rfl, h0⟩ | ⟨g, cap, cur, rfl, hbg, hh, hcap, _, hsz, ht⟩
  · exact ⟨none, 0, 0, rfl, by simp, fun _ => rfl, h0, fun hp => by omega⟩
  · refine ⟨_, xs.length, cap, rfl, hb, (fun h => by cases h), rfl, fun hp => ⟨g, 0, rfl, blk_lt hh, fun j hj => ?_⟩⟩
    have hj' : j < ps.length := by omega
    refine ⟨[ps[j]], rfl, fun i hi => ?_, own_b (h.key j hj hj') (hc _ (List.getElem_mem hj))⟩
    obtain rfl : i = 0 := by omega
    rw [Nat.zero_add, blk_cell hh, Nat.mul_one, Nat.add_zero]
    have : (cur.toList.take (xs.length * 1))[j]? = ps[j]? := by rw [ht]
    rw [List.getElem?_take, if_pos (by omega), Array.getElem?_toList] at this
    rw [this]
    simp [hj']
theorem OwnKids.read {W : World} {B : Nat} {v : Value} {xs : List Int} (h : OwnKids W B v xs) (hb : xs.length * 8 ≤ reachBytes) (hc : ∀ n ∈ xs, (Lit.int .i64 n).wf = true) : rKids W [v] xs := by
  have hlen := h.1
  rcases h.2 with ⟨rfl, h0⟩ | ⟨g, cap, cur, rfl, hbg, hh, hcap, _, hsz, ht⟩
  · exact ⟨none, 0, 0, rfl, by simp, fun _ => rfl, h0, fun hp => by omega⟩
  · refine ⟨_, xs.length, cap, rfl, hb, (fun h => by cases h), rfl, fun hp => ⟨g, 0, rfl, blk_lt hh, fun j hj => ?_⟩⟩
    refine ⟨[.int .i64 xs[j]], rfl, fun i hi => ?_, rfl, hc _ (List.getElem_mem hj)⟩
    obtain rfl : i = 0 := by omega
    rw [Nat.zero_add, blk_cell hh, Nat.mul_one, Nat.add_zero]
    have : (cur.toList.take (xs.length * 1))[j]? = (icells xs)[j]? := by rw [ht]
    rw [List.getElem?_take, if_pos (by omega), Array.getElem?_toList] at this
    rw [this]
    simp [icells, hj]
theorem OwnNode.read {T : TypeId} {W : World} {B : Nat} {v0 v1 v2 v3 : Value} {x : PNode} (h : OwnNode T W B v0 v1 v2 v3 x) (hs : Sane x) : rNode W [v0, v1, v2, v3] x := by
  obtain ⟨ps, hc⟩ := h.cells
  obtain ⟨qs, hk⟩ := h.keys
  exact ⟨v0, v1, v2, v3, rfl, by rw [h.leaf]; rfl, hc.read hs.cells hs.cell, hk.read hs.keys hs.key, h.kids.read hs.kids hs.kid⟩
/-- A row of the call's own is as it was where no block of the call's own has turned. -/
def Above (B : Nat) (W W' : World) : Prop := ∀ (g : Nat) (o : Obj), B ≤ g → W.heap[g]? = some o → W'.heap[g]? = some o
theorem Above.own {B : Nat} {W W' : World} (ha : Above B W W') {e : TypeId} {s : Nat} {v : Value} {n : Nat} {xs : List Value} (h : W.ownsRow B e s v n xs) : W'.ownsRow B e s v n xs := by
  refine ⟨h.1, ?_⟩
  rcases h.2 with h0 | ⟨g, cap, cur, hv, hb, hh, rest⟩
  · exact .inl h0
  · exact .inr ⟨g, cap, cur, hv, hb, ha g _ hb hh, rest⟩
theorem OwnNode.above {T : TypeId} {W W' : World} {B : Nat} {v0 v1 v2 v3 : Value} {x : PNode} (h : OwnNode T W B v0 v1 v2 v3 x) (ha : Above B W W') : OwnNode T W' B v0 v1 v2 v3 x := by
  obtain ⟨ps, hc⟩ := h.cells
  obtain ⟨qs, hk⟩ := h.keys
  exact ⟨h.leaf, ⟨ps, ha.own hc.own, hc.len, fun j a b => ⟨ha.own (hc.cell j a b).1, ha.own (hc.cell j a b).2.1, (hc.cell j a b).2.2⟩⟩, ⟨qs, ha.own hk.own, fun j a b => ha.own (hk.key j a b)⟩, ha.own h.kids⟩
theorem above_below {B : Nat} {W W' : World} (hb : Below W.heap.size W W') : Above B W W' := fun g o _ h => (hb.block g (blk_lt h)).trans h
end Go.Proofs.Ytnohhmopiflboaa.Nod
