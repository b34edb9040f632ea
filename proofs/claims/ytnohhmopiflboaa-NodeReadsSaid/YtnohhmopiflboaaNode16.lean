/- A node's load: what it is, how long it is. Plain words. -/
import Derived.Test.YtnohhmopiflboaaNode15
set_option linter.unusedVariables false
set_option linter.unusedSimpArgs false
namespace Go.Proofs.Ytnohhmopiflboaa.Nod
open Go.RowKit Go.Proofs.Ytnohhmopiflboaa.Base Go.Proofs.Ytnohhmopiflboaa.Byt Go.Proofs.Ytnohhmopiflboaa.Rd Go.Proofs.Ytnohhmopiflboaa.App

def len1 (n : Nat) : UInt8 := UInt8.ofNat (n % 256)
def cellB (c : PCell) : PB := len1 c.1.length :: (c.1 ++ (le2 c.2.2.2 ++ (if c.2.2.1 = 0 then c.2.1 else le2 c.2.2.1)))
def keyB (k : PB) (p : Int) : PB := len1 k.length :: (k ++ le2 p)
def headB (x : PNode) : PB := if x.1 then 1 :: le2 x.2.1.length else 2 :: (le2 x.2.2.1.length ++ le2 (x.2.2.2.headD 0))
def partsB (x : PNode) : List PB := if x.1 then x.2.1.map cellB else List.zipWith keyB x.2.2.1 x.2.2.2.tail
def bodyB (x : PNode) : PB := headB x ++ (partsB x).flatten
def padB (b : PB) : PB := b ++ noughts (508 - b.length)
def encB (x : PNode) : PB := if checkN x = 0 then padB (bodyB x) else []

theorem bcell_len1 (n : Nat) : bcell (len1 n) = .int .u8 ((n : Int) % 256) := by
  simp only [bcell, len1]
  congr 1
  rw [UInt8.toNat_ofNat']
  omega
theorem le2_len (n : Int) : (le2 n).length = 2 := rfl
theorem cellB_len (c : PCell) : ((cellB c).length : Int) = cellSz c := by
  obtain ⟨k, v, o, s⟩ := c
  simp only [cellB, cellSz, csz, List.length_cons, List.length_append, le2_len]
  split <;> simp [le2_len] <;> omega
theorem keyB_len (k : PB) (p : Int) : ((keyB k p).length : Int) = keySz k := by
  simp only [keyB, keySz, List.length_cons, List.length_append, le2_len]
  omega
theorem cells_len : ∀ cs : List PCell, (((cs.map cellB).flatten).length : Int) = sumI (cs.map cellSz)
  | [] => rfl
  | c :: cs => by
    have ih := cells_len cs
    have hc := cellB_len c
    simp only [List.map_cons, List.flatten_cons, List.length_append, sumI, List.foldr_cons] at ih ⊢
    omega
theorem keys_len : ∀ (ks : List PB) (ps : List Int), ps.length = ks.length → (((List.zipWith keyB ks ps).flatten).length : Int) = sumI (ks.map keySz)
  | [], _, _ => by simp [sumI]
  | k :: ks, [], h => by simp at h
  | k :: ks, p :: ps, h => by
    have ih := keys_len ks ps (by simpa using h)
    have hc := keyB_len k p
    simp only [List.zipWith_cons_cons, List.map_cons, List.flatten_cons, List.length_append, sumI, List.foldr_cons] at ih ⊢
    omega
theorem csz_small {c : PCell} (h : cellOk c = true) : 3 ≤ cellSz c ∧ cellSz c ≤ 200 := by
  obtain ⟨k, v, o, s⟩ := c
  simp only [cellOk, cRight, Bool.and_eq_true, Bool.or_eq_true, decide_eq_true_eq] at h
  simp only [cellSz, csz]
  split <;> omega
theorem ksz_small {k : PB} (h : keyOk k = true) : 3 ≤ keySz k ∧ keySz k ≤ 200 := by
  simp only [keyOk, decide_eq_true_eq] at h
  simp only [keySz]
  omega
theorem sum_small {l : List Int} (h : ∀ y ∈ l, 3 ≤ y ∧ y ≤ 200) : 3 * (l.length : Int) ≤ sumI l ∧ sumI l ≤ 200 * (l.length : Int) := by
  induction l with
  | nil => simp [sumI]
  | cons a l ih =>
    have h1 := h a (by simp)
    have h2 := ih (fun y hy => h y (by simp [hy]))
    simp only [sumI, List.foldr_cons, List.length_cons] at h2 ⊢
    omega

/-- What Check tells of a node that is right. -/
theorem checkN_zero {x : PNode} (h : checkN x = 0) : fieldsB x = true ∧ wrap64 (nodeSz x) ≤ 508 := by
  unfold checkN at h
  split at h
  · omega
  · split at h
    · omega
    · rename_i h1 h2
      exact ⟨by simpa using h1, by omega⟩
structure LeafRight (x : PNode) : Prop where
  cells : ∀ c ∈ x.2.1, cellOk c = true
  some : 0 < x.2.1.length
  nok : x.2.2.1 = []
  nop : x.2.2.2 = []
  rising : risingB (x.2.1.map (·.1)) = true
structure InnerRight (x : PNode) : Prop where
  noc : x.2.1 = []
  some : 0 < x.2.2.1.length
  kids : x.2.2.2.length = x.2.2.1.length + 1
  rising : risingB x.2.2.1 = true
  keys : ∀ k ∈ x.2.2.1, keyOk k = true
  pages : ∀ p ∈ x.2.2.2, isPage p = true
theorem leaf_right {x : PNode} (h : fieldsB x = true) (hx : x.1 = true) : LeafRight x := by
  simp only [fieldsB, hx, if_true, leafOk, Bool.and_eq_true, List.all_eq_true, decide_eq_true_eq] at h
  obtain ⟨⟨⟨h1, h2⟩, h3⟩, h4⟩ := h
  exact ⟨h1, h2, List.length_eq_zero_iff.1 (by omega), List.length_eq_zero_iff.1 (by omega), h4⟩
theorem inner_right {x : PNode} (h : fieldsB x = true) (hx : x.1 = false) : InnerRight x := by
  simp only [fieldsB, hx, Bool.false_eq_true, if_false, innerOk, Bool.and_eq_true, List.all_eq_true, decide_eq_true_eq] at h
  obtain ⟨⟨⟨⟨⟨h1, h2⟩, h3⟩, h4⟩, h5⟩, h6⟩ := h
  exact ⟨List.length_eq_zero_iff.1 h1, h2, h3, h4, h5, h6⟩
theorem leaf_len {x : PNode} (h : checkN x = 0) (hs : Sane x) (hx : x.1 = true) : (bodyB x).length ≤ 508 ∧ (bodyB x).length = 3 + ((x.2.1.map cellB).flatten).length ∧ 3 * x.2.1.length ≤ 508 := by
  obtain ⟨hf, hw⟩ := checkN_zero h
  have hr := leaf_right hf hx
  have hsum := sum_small (l := x.2.1.map cellSz) (fun y hy => by
    obtain ⟨c, hc, rfl⟩ := List.mem_map.1 hy
    exact csz_small (hr.cells c hc))
  have hc := cells_len x.2.1
  have hb := hs.cells
  simp only [reachBytes, List.length_map] at hb hsum
  have hn : nodeSz x = 3 + sumI (x.2.1.map cellSz) := by simp [nodeSz, hx]
  have hw2 : wrap64 (nodeSz x) = nodeSz x := by unfold wrap64; omega
  have hl : (bodyB x).length = 3 + ((x.2.1.map cellB).flatten).length := by simp [bodyB, headB, partsB, hx, le2_len]; omega
  refine ⟨?_, hl, ?_⟩ <;> omega
theorem inner_len {x : PNode} (h : checkN x = 0) (hs : Sane x) (hx : x.1 = false) : (bodyB x).length ≤ 508 ∧ (bodyB x).length = 5 + ((List.zipWith keyB x.2.2.1 x.2.2.2.tail).flatten).length ∧ 3 * x.2.2.1.length ≤ 508 := by
  obtain ⟨hf, hw⟩ := checkN_zero h
  have hr := inner_right hf hx
  have hsum := sum_small (l := x.2.2.1.map keySz) (fun y hy => by
    obtain ⟨c, hc, rfl⟩ := List.mem_map.1 hy
    exact ksz_small (hr.keys c hc))
  have hc := keys_len x.2.2.1 x.2.2.2.tail (by rw [List.length_tail, hr.kids]; omega)
  have hb := hs.keys
  simp only [reachBytes, List.length_map] at hb hsum
  have hn : nodeSz x = 5 + sumI (x.2.2.1.map keySz) := by simp [nodeSz, hx]
  have hw2 : wrap64 (nodeSz x) = nodeSz x := by unfold wrap64; omega
  have hl : (bodyB x).length = 5 + ((List.zipWith keyB x.2.2.1 x.2.2.2.tail).flatten).length := by simp [bodyB, headB, partsB, hx, le2_len]; omega
  refine ⟨?_, hl, ?_⟩ <;> omega
theorem flatten_take_le (L : List PB) (k : Nat) : ((L.take k).flatten).length ≤ (L.flatten).length := by
  have h : (L.take k ++ L.drop k).flatten = L.flatten := by rw [List.take_append_drop]
  have := congrArg List.length h
  rw [List.flatten_append, List.length_append] at this
  omega
theorem flatten_snoc (L : List PB) (k : Nat) (h : k < L.length) : (L.take (k + 1)).flatten = (L.take k).flatten ++ L[k] := by
  rw [take_snoc L k h, List.flatten_append, List.flatten_cons, List.flatten_nil, List.append_nil]
/-- A row that was just made holds the bytes. -/
theorem own_made {w : World} {B b : Nat} {xs : PB} (h : w.heap[b]? = some (.cells (bcells xs).toArray 5 (0, 0))) (hB : B ≤ b) (hl : xs.length ≤ 100000) : OwnB w B (.slice (some ⟨b, 0, none⟩) xs.length xs.length) xs :=
  ⟨by rw [bcells_length]; omega, .inr ⟨b, xs.length, _, rfl, hB, h, Nat.le_refl _, by unfold maxLen; omega, by simp [bcells], by rw [List.take_of_length_le (by simp [bcells])]⟩⟩
/-- What writes a row of the call's own. -/
theorem gives_below {w : World} {B : Nat} {v : Value} {xs ys : PB} {e : Ending} {w' : World} (ho : OwnB w B v ys) (hB : B ≤ w.heap.size) (h : Gives w B (fun j => some j = v.ownBlock) xs e w') : ∃ A c, e = .returned (.slice A xs.length c) ∧ OwnB w' B (.slice A xs.length c) xs ∧ Below B w w' ∧ ∀ t, t ≠ 5 → KeepT t w w' := by
  obtain ⟨v', rfl, ho', hf⟩ := h
  obtain ⟨A, c, rfl⟩ := own_form ho'
  refine ⟨A, c, rfl, ho', ⟨hf.os, hf.tape, hf.output, hf.size, fun k hk => ?_⟩, fun t ht g cs fr hg => (hf.block g (blk_lt hg) (fun he => own_typ ho hg (Ne.symm ht) he)).trans hg⟩
  exact hf.block k (by omega) (fun he => by have := World.ownsRow.lt ho k he.symm; omega)

/-! ### Rows of bytes in a walk -/
/-- The slice at A, m long, is the call's own and holds xs. -/
def OwnM (w : World) (B : Nat) (A : Option Addr) (m c : Nat) (xs : PB) : Prop := w.ownsRow B 5 1 (.slice A m c) m (bcells xs)
/-- Nothing below B has turned, and no block but of bytes. -/
structure Grew (B : Nat) (w w' : World) : Prop where
  below : Below B w w'
  keep : ∀ t, t ≠ 5 → KeepT t w w'
theorem Grew.refl (B : Nat) (w : World) : Grew B w w := ⟨Below.refl _ _, fun t _ => KeepT.refl t w⟩
theorem Grew.trans {B : Nat} {a b c : World} (h : Grew B a b) (k : Grew B b c) : Grew B a c := ⟨h.below.trans k.below, fun t ht => (h.keep t ht).trans (k.keep t ht)⟩
theorem Grew.alloc {B : Nat} {a b : World} (h : Grew B a b) (hB : B ≤ a.heap.size) (o : Obj) : Grew B a (b.alloc o) := ⟨h.below.alloc (Nat.le_trans hB h.below.size) o, fun t ht => (h.keep t ht).alloc o⟩
theorem Grew.drew {B : Nat} {a b : World} (h : Grew B a b) : Grew B a b.drew := ⟨h.below.drew, fun t ht => (h.keep t ht).drew⟩
theorem Grew.old {B : Nat} {a b c : World} (h : Grew B a b) (hB : B ≤ a.heap.size) (k : Below b.heap.size b c) : Grew B a c := ⟨h.below.trans (k.mono (Nat.le_trans hB h.below.size)), fun t ht => (h.keep t ht).below k⟩
theorem OwnM.len {w : World} {B : Nat} {A : Option Addr} {m c : Nat} {xs : PB} (h : OwnM w B A m c xs) : m = xs.length := by
  have h1 := h.1
  rw [bcells_length] at h1
  omega
theorem OwnM.own {w : World} {B : Nat} {A : Option Addr} {m c : Nat} {xs : PB} (h : OwnM w B A m c xs) : OwnB w B (.slice A m c) xs := by
  have hl := h.len
  subst hl
  exact h
theorem own_m {w : World} {B : Nat} {A : Option Addr} {m c : Nat} {xs : PB} (h : OwnB w B (.slice A m c) xs) (hm : m = xs.length) : OwnM w B A m c xs := by
  subst hm
  exact h
theorem OwnM.alloc {w : World} {B : Nat} {A : Option Addr} {m c : Nat} {xs : PB} (h : OwnM w B A m c xs) (o : Obj) : OwnM (w.alloc o) B A m c xs := World.ownsRow.alloc h o
theorem OwnM.drew {w : World} {B : Nat} {A : Option Addr} {m c : Nat} {xs : PB} (h : OwnM w B A m c xs) : OwnM w.drew B A m c xs := h
theorem OwnM.old {w w' : World} {B : Nat} {A : Option Addr} {m c : Nat} {xs : PB} (h : OwnM w B A m c xs) (hb : Below w.heap.size w w') : OwnM w' B A m c xs := own_below h hb
theorem grew_of {w w' : World} {B : Nat} {v : Value} {ys : PB} (ho : OwnB w B v ys) (hg : w.grownBy w' v.ownBlock) (hB : B ≤ w.heap.size) : Grew B w w' :=
  ⟨⟨hg.os, hg.tape, hg.output, hg.size, fun j hj => hg.block j (by omega) (fun hk => by have := World.ownsRow.lt ho j hk.symm; omega)⟩, fun t ht => (KeepT.refl t w).grown ho hg (Ne.symm ht)⟩

theorem two_m (B : Nat) (A : Option Addr) (m c : Nat) (xs : PB) (k : Int) (w : World) (h : OwnM w B A m c xs) (hB : B ≤ w.heap.size) (hl : m ≤ 100000) (hk : 0 ≤ k) :
    Calls Try.prog 35 #[.slice A m c, .int .i64 k] w fun e w' => ∃ A' c', e = .returned (.slice A' (m + 2) c') ∧ OwnM w' B A' (m + 2) c' (xs ++ le2 k) ∧ Grew B w w' := by
  have hm := h.len
  refine (two_calls B _ xs k w h.own hB (by omega) hk).mono ?_
  intro e w' hg
  obtain ⟨A', c', rfl, ho, hb, hk⟩ := gives_below h.own hB hg
  have he : (xs ++ le2 k).length = m + 2 := by rw [List.length_append, le2_len, hm]
  rw [he] at ho ⊢
  exact ⟨A', c', rfl, own_m ho he.symm, hb, hk⟩
theorem padded_m (B : Nat) (A : Option Addr) (m c : Nat) (xs : PB) (w : World) (h : OwnM w B A m c xs) (hB : B ≤ w.heap.size) (h0 : 0 < m) (hl : m ≤ 508) :
    Calls Try.prog 36 #[.slice A m c] w fun e w' => ∃ A' c', e = .returned (.slice A' 508 c') ∧ OwnM w' B A' 508 c' (padB xs) ∧ Grew B w w' := by
  have hm := h.len
  refine (padded_calls B _ xs w h.own hB (by omega) (by omega)).mono ?_
  intro e w' hg
  obtain ⟨A', c', rfl, ho, hb, hk⟩ := gives_below h.own hB hg
  have he : (xs ++ noughts (508 - xs.length)).length = 508 := by simp [noughts]; omega
  rw [he] at ho ⊢
  exact ⟨A', c', rfl, own_m ho he.symm, hb, hk⟩
theorem step_bytes {w : World} {ops : Array Oper} {o : Oper} {a : Act} {K : Act → World → Prop} {Q : Exit → Act → World → Prop} {E : Prop} (hgd : o.guard = none) (s x : Operand)
    (ho : o.op = .call { callee := .builtin .append, args := #[s, x], argTypes := #[31, 31] })
    (B : Nat) (A : Option Addr) (m c : Nat) {xs : PB} (hv : a.eval s = .slice A m c) (hown : OwnM w B A m c xs)
    (A2 : Option Addr) (m2 c2 : Nat) {ys : PB} (hx : a.eval x = .slice A2 m2 c2) (hs : Feeds w A2 m2 c2 1 (bcells ys)) (hl : m + m2 ≤ 100000) (hB : B ≤ w.heap.size)
    (h : ∀ A' c' w', OwnM w' B A' (m + m2) c' (xs ++ ys) → Grew B w w' → K (a.put o.dst (.slice A' (m + m2) c')) w') :
    if Region.wanted o (yielded ops a.tmps) = true then Oper.wp Try.prog o a w K Q else E :=
  step_src hgd s x _ ho rowB _ hv hown A2 m2 c2 hx hs (by unfold maxLen; omega) (by omega) hB fun A' c' w' h1 h2 => h A' c' w' (by unfold OwnM; rw [bcells_append]; exact h1) (grew_of hown.own h2 hB)
theorem wpList_bytes {w : World} {ops : Array Oper} {rest : List Oper} {o : Oper} {a : Act} {Q : Exit → Act → World → Prop} (hgd : o.guard = none) (s x : Operand)
    (ho : o.op = .call { callee := .builtin .append, args := #[s, x], argTypes := #[31, 31] })
    (B : Nat) (A : Option Addr) (m c : Nat) {xs : PB} (hv : a.eval s = .slice A m c) (hown : OwnM w B A m c xs)
    (A2 : Option Addr) (m2 c2 : Nat) {ys : PB} (hx : a.eval x = .slice A2 m2 c2) (hs : Feeds w A2 m2 c2 1 (bcells ys)) (hl : m + m2 ≤ 100000) (hB : B ≤ w.heap.size)
    (h : ∀ A' c' w', OwnM w' B A' (m + m2) c' (xs ++ ys) → Grew B w w' → wpList Try.prog ops Q rest (a.put o.dst (.slice A' (m + m2) c')) w') : wpList Try.prog ops Q (o :: rest) a w :=
  wpList_src hgd s x _ ho rowB _ hv hown A2 m2 c2 hx hs (by unfold maxLen; omega) (by omega) hB fun A' c' w' h1 h2 => h A' c' w' (by unfold OwnM; rw [bcells_append]; exact h1) (grew_of hown.own h2 hB)
/-- One byte, or two, in a block of their own. -/
theorem feeds_one {w : World} {b : Nat} {fr : Nat × Nat} (n : Nat) (h : w.heap[b]? = some (.cells #[.int .u8 ((n : Int) % 256)] 5 fr)) : Feeds w (some ⟨b, 0, none⟩) 1 1 1 (bcells [len1 n]) := by
  have e : bcells [len1 n] = [.int .u8 ((n : Int) % 256)] := by simp [bcells, bcell_len1]
  rw [e]
  exact Feeds.of_block h rfl (by simp [Value.oneCell'])
theorem feeds_two {w : World} {b : Nat} {k : Int} (h : w.heap[b]? = some (.cells (bcells (le2 k)).toArray 5 (0, 0))) : Feeds w (some ⟨b, 0, none⟩) 2 2 1 (bcells (le2 k)) :=
  Feeds.of_block h (by simp [bcells, le2]) (bcells_one _)
end Go.Proofs.Ytnohhmopiflboaa.Nod
