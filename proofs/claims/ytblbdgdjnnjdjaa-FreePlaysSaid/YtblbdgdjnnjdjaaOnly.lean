/- slices.ContainsFunc over whole numbers with a test that changes nothing; Only; Clone. -/
import Derived.Test.YtblbdgdjnnjdjaaSet
import Derived.Deep.LoopGhost
set_option linter.unusedVariables false
set_option linter.unusedSimpArgs false
namespace Go.Proofs.Ytblbdgdjnnjdjaa.Fre
open Go.RowKit Go.Proofs.Ytblbdgdjnnjdjaa.Base

/-- The slice at A, n long, reads as xs. -/
def IsInts (w : World) (A : Option Addr) (n : Nat) (xs : List Int) : Prop :=
  xs.length = n ∧ n ≤ maxLen ∧ (0 < n → ∃ b o, A = some ⟨b, o, none⟩ ∧ ∀ j, j < n → w.cell? ⟨b, o + j, none⟩ = some (.int .i64 (xs.getD j 0)))

theorem IsInts.drewN {w : World} {A : Option Addr} {n : Nat} {xs : List Int} (h : IsInts w A n xs) (m : Nat) : IsInts (w.drewN m) A n xs := h
theorem IsInts.fr {w w' : World} {S : Nat → Prop} {A : Option Addr} {n : Nat} {xs : List Int} (h : IsInts w A n xs) (hf : Fr S w w') (hs : ∀ a, A = some a → ¬ S a.block) : IsInts w' A n xs := by
  refine ⟨h.1, h.2.1, fun hn => ?_⟩
  obtain ⟨b, o, rfl, hc⟩ := h.2.2 hn
  refine ⟨b, o, rfl, fun j hj => ?_⟩
  rw [← hc j hj]
  have hlt : b < w.heap.size := World.block_lt_of_cell? w _ (hc j hj)
  exact World.cell?_of_block (w := w) (a := ⟨b, o + j, none⟩) (hf.block b hlt (hs _ rfl))

set_option maxHeartbeats 800000 in
theorem indexFunc_no (f : FuncId) (cap : Array Value) (A : Option Addr) (n c : Nat) (xs : List Int) (p : Int → Bool) (w : World) (hx : IsInts w A n xs)
    (hcf : ∀ (av : Array Value) (w : World), (callFunc f av).run Try.prog w = .ok (.enter f av) w)
    (hf : ∀ x, Calls Try.prog f (#[.int .i64 x] ++ cap) w fun e w' => e = .returned (.bool (p x)) ∧ w = w') (hno : ∀ j, j < n → p (xs.getD j 0) = false) :
    Calls Try.prog 25 #[.slice A n c, .func (.func f) #[] cap] w fun e w' => e = .returned (.int .i64 (-1)) ∧ w = w' := by
  have HF := Asd.mk hf
  have HX := Asd.mk hx
  have HN := Asd.mk hno
  have hm := hx.2.1
  unfold maxLen at hm
  clear hf hx hno
  go_enter Try.func25, Try.ntmps25
  go_wp2
  go_loop [8] (fun i => ∃ k : Nat, k ≤ n ∧ i = .int .i64 (k : Int)) (fun i => n - (intOf i).toNat)
  case atStart => exact ⟨0, by omega, rfl⟩
  case round =>
    obtain ⟨k, hk, rfl⟩ := hrel
    by_cases hlt : k < n
    · obtain ⟨b, o, rfl, hc⟩ := HX.out.2.2 (by omega)
      have ck := hc k hlt
      generalize hxk : xs.getD k 0 = x at ck
      have HNk := Asd.mk (hxk ▸ HN.out k hlt)
      clear hc hxk
      go_wp2_with fail
      refine (HF.out _).mono ?_
      rintro e w' ⟨rfl, rfl⟩
      rw [HNk.out]
      go_wp2
      go_round
      case rel => exact ⟨k + 1, by omega, by go_num⟩
      case measure => simp [intOf]; omega
    · go_wp2
      go_ret
      exact ⟨rfl, rfl⟩

set_option maxHeartbeats 800000 in
theorem indexFunc_yes (f : FuncId) (cap : Array Value) (A : Option Addr) (n c q : Nat) (xs : List Int) (p : Int → Bool) (w : World) (hx : IsInts w A n xs)
    (hcf : ∀ (av : Array Value) (w : World), (callFunc f av).run Try.prog w = .ok (.enter f av) w)
    (hf : ∀ x, Calls Try.prog f (#[.int .i64 x] ++ cap) w fun e w' => e = .returned (.bool (p x)) ∧ w = w') (hq : q < n) (hno : ∀ j, j < q → p (xs.getD j 0) = false) (hyes : p (xs.getD q 0) = true) :
    Calls Try.prog 25 #[.slice A n c, .func (.func f) #[] cap] w fun e w' => e = .returned (.int .i64 (q : Int)) ∧ w = w' := by
  have HF := Asd.mk hf
  have HX := Asd.mk hx
  have HN := Asd.mk hno
  have HY := Asd.mk hyes
  have hm := hx.2.1
  unfold maxLen at hm
  clear hf hx hno hyes
  go_enter Try.func25, Try.ntmps25
  go_wp2
  go_loop [8] (fun i => ∃ k : Nat, k ≤ q ∧ i = .int .i64 (k : Int)) (fun i => n - (intOf i).toNat)
  case atStart => exact ⟨0, by omega, rfl⟩
  case round =>
    obtain ⟨k, hk, rfl⟩ := hrel
    obtain ⟨b, o, rfl, hc⟩ := HX.out.2.2 (by omega)
    have ck := hc k (by omega)
    generalize hxk : xs.getD k 0 = x at ck
    by_cases hlt : k < q
    · have HNk := Asd.mk (hxk ▸ HN.out k hlt)
      clear hc hxk
      go_wp2_with fail
      refine (HF.out _).mono ?_
      rintro e w' ⟨rfl, rfl⟩
      rw [HNk.out]
      go_wp2
      go_round
      case rel => exact ⟨k + 1, by omega, by go_num⟩
      case measure => simp [intOf]; omega
    · obtain rfl : q = k := by omega
      have HNk := Asd.mk (hxk ▸ HY.out)
      clear hc hxk
      go_wp2_with fail
      refine (HF.out _).mono ?_
      rintro e w' ⟨rfl, rfl⟩
      rw [HNk.out]
      go_wp2
      go_ret
      exact ⟨rfl, rfl⟩

theorem find_first (p : Int → Bool) (xs : List Int) : (∀ j, j < xs.length → p (xs.getD j 0) = false) ∨ ∃ q, q < xs.length ∧ (∀ j, j < q → p (xs.getD j 0) = false) ∧ p (xs.getD q 0) = true := by
  induction xs with
  | nil => exact .inl fun j hj => absurd hj (by simp)
  | cons x xs ih =>
    cases hx : p x with
    | true => exact .inr ⟨0, by simp, fun j hj => absurd hj (by omega), by simpa using hx⟩
    | false =>
      rcases ih with h | ⟨q, hq, h1, h2⟩
      · refine .inl fun j hj => ?_
        cases j with
        | zero => simpa using hx
        | succ j => simpa using h j (by simpa using hj)
      · refine .inr ⟨q + 1, by simpa using hq, fun j hj => ?_, by simpa using h2⟩
        cases j with
        | zero => simpa using hx
        | succ j => simpa using h1 j (by omega)

theorem any_iff (p : Int → Bool) (xs : List Int) : xs.any p = true ↔ ∃ q, q < xs.length ∧ p (xs.getD q 0) = true := by
  rw [List.any_eq_true]
  constructor
  · rintro ⟨x, hx, hp⟩
    obtain ⟨q, hq, rfl⟩ := List.getElem_of_mem hx
    exact ⟨q, hq, by simpa [List.getD, hq] using hp⟩
  · rintro ⟨q, hq, hp⟩
    exact ⟨xs[q], List.getElem_mem hq, by simpa [List.getD, hq] using hp⟩

theorem contains_calls (f : FuncId) (cap : Array Value) (A : Option Addr) (n c : Nat) (xs : List Int) (p : Int → Bool) (w : World) (hx : IsInts w A n xs)
    (hcf : ∀ (av : Array Value) (w : World), (callFunc f av).run Try.prog w = .ok (.enter f av) w)
    (hf : ∀ x, Calls Try.prog f (#[.int .i64 x] ++ cap) w fun e w' => e = .returned (.bool (p x)) ∧ w = w') :
    Calls Try.prog 20 #[.slice A n c, .func (.func f) #[] cap] w fun e w' => e = .returned (.bool (xs.any p)) ∧ w = w' := by
  have hl := hx.1
  rcases find_first p xs with h | ⟨q, hq, h1, h2⟩
  · have HA : Asd (xs.any p = false) := Asd.mk (by
      rw [Bool.eq_false_iff, ne_eq, any_iff]; rintro ⟨q, hq, hp⟩; rw [h q hq] at hp; cases hp)
    have HC := Asd.mk (indexFunc_no f cap A n c xs p w hx hcf hf (fun j hj => h j (by omega)))
    clear hx hf h hcf hl
    go_enter Try.func20, Try.ntmps20
    go_wp2_with (go_at_call 25; refine HC.out.mono ?_; rintro e w' ⟨rfl, rfl⟩)
    go_ret
    exact ⟨ret_eq (by rw [HA.out]; rfl), rfl⟩
  · have HA : Asd (xs.any p = true) := Asd.mk ((any_iff p xs).2 ⟨q, hq, h2⟩)
    have HC := Asd.mk (indexFunc_yes f cap A n c q xs p w hx hcf hf (by omega) h1 h2)
    clear hx hf h1 h2 hcf hl
    go_enter Try.func20, Try.ntmps20
    go_wp2_with (go_at_call 25; refine HC.out.mono ?_; rintro e w' ⟨rfl, rfl⟩)
    go_ret
    exact ⟨ret_eq (by rw [HA.out]; rfl), rfl⟩

/-! ### The closure in Only -/
def inSet (k : Nat) (n : Int) : Bool := decide (2 ≤ n ∧ n < k)

theorem clos_calls (g b B : Nat) (u : List Bool) (left least : Nat) (n : Int) (w : World) (h : IsSet w g b u left least) (hB : w.cell? ⟨B, 0, none⟩ = some (.pointer (some ⟨g, 0, none⟩))) :
    Calls Try.prog 21 (#[.int .i64 n] ++ #[.pointer (some ⟨B, 0, none⟩)]) w fun e w' => e = .returned (.bool (!inSet u.length n)) ∧ w = w' := by
  have H := Asd.mk h
  clear h
  go_enter Try.func21, Try.ntmps21
  go_wp2_with (go_at_call 22; refine (has_calls _ _ _ _ _ _ _ H.out).mono ?_; rintro e w' ⟨rfl, rfl⟩)
  go_ret
  exact ⟨ret_eq (by simp [inSet]), rfl⟩

theorem enter_of {P : Program} {f : FuncId} {fn : Func} (hf : P.funcs[f]? = some fn) (hn : (fn.name == "runtime.NumGoroutine") = false) (hb : fn.body.isNone = false) (av : Array Value) (w : World) : (callFunc f av).run P w = .ok (.enter f av) w := by
  have h1 : fn.name ≠ "runtime.NumGoroutine" := by simpa using hn
  have h2 : fn.body ≠ none := by intro h; simp [h] at hb
  simp [callFunc, hf, h1, h2]

theorem clos_enter (av : Array Value) (w : World) : (callFunc 21 av).run Try.prog w = .ok (.enter 21 av) w := by
  exact enter_of Try.func21 (by kernel_rfl) (by kernel_rfl) av w

def free (u : List Bool) : Nat := (u.drop 2).count false
def marks (k : Nat) (xs : List Int) : List Bool := xs.foldl (fun u x => u.set x.toNat true) (List.replicate k false)
theorem marks_length (k : Nat) (xs : List Int) : (marks k xs).length = k := by
  unfold marks
  have : ∀ u : List Bool, (xs.foldl (fun u x => u.set x.toNat true) u).length = u.length := by
    induction xs with
    | nil => intro u; rfl
    | cons x xs ih => intro u; simp only [List.foldl_cons]; rw [ih]; simp
  rw [this]; simp
theorem marks_snoc (k : Nat) (xs : List Int) (x : Int) : marks k (xs ++ [x]) = (marks k xs).set x.toNat true := by simp [marks]
theorem free_le (u : List Bool) : free u ≤ u.length := by
  unfold free
  have := List.count_le_length (a := false) (l := u.drop 2)
  simp at this; omega
theorem free_new (k : Nat) : free (List.replicate k false) = k - 2 := by simp [free]
theorem free_take (u : List Bool) (n : Nat) (h2 : 2 ≤ n) (hn : n < u.length) (h : u.getD n false = false) : free u = free (u.set n true) + 1 := by
  unfold free
  have e : (u.set n true).drop 2 = (u.drop 2).set (n - 2) true := by
    rw [List.drop_set]; simp [show ¬ n < 2 by omega]
  have hl : n - 2 < (u.drop 2).length := by simp; omega
  have hv : (u.drop 2)[n - 2] = false := by
    rw [List.getElem_drop]; simp only [show 2 + (n - 2) = n by omega]
    simpa [List.getD, hn] using h
  have hpos : 0 < (u.drop 2).count false := List.count_pos_iff.2 (hv ▸ List.getElem_mem hl)
  rw [e, List.count_set hl, hv]
  simp; omega
theorem free_give (u : List Bool) (n : Nat) (h2 : 2 ≤ n) (hn : n < u.length) (h : u.getD n false = true) : free (u.set n false) = free u + 1 := by
  have := free_take (u.set n false) n h2 (by simpa using hn) (by simp [List.getD, hn])
  rw [this, List.set_set]
  have e : u.set n true = u := by
    have hv : u[n] = true := by simpa [List.getD, hn] using h
    rw [← hv]; exact List.set_getElem_self hn
  rw [e]
theorem set_same (u : List Bool) (n : Nat) (h : u.getD n false = true) : u.set n true = u := by
  by_cases hn : n < u.length
  · have hv : u[n] = true := by simpa [List.getD, hn] using h
    rw [← hv]; exact List.set_getElem_self hn
  · exact List.set_eq_of_length_le (by omega)
theorem take_snoc_int (xs : List Int) (j : Nat) (h : j < xs.length) : xs.take (j + 1) = xs.take j ++ [xs.getD j 0] := by
  rw [List.take_succ_eq_append_getElem h]; simp [List.getD, h]

set_option maxHeartbeats 800000 in
theorem only_no (g b : Nat) (u : List Bool) (left least : Nat) (A : Option Addr) (n c : Nat) (xs : List Int) (w : World) (h : IsSet w g b u left least) (hx : IsInts w A n xs) (hno : xs.all (inSet u.length) = false) :
    Calls Try.prog 8 #[.pointer (some ⟨g, 0, none⟩), .slice A n c] w fun e w' => e = .returned (.int .i64 2) ∧ Fr (fun _ => False) w w' := by
  have hg := h.head
  have lt1 : g < w.heap.size := by obtain ⟨_, hh⟩ := h.head; exact blk_lt hh
  have hfr : Fr (fun _ => False) w (w.alloc (.cells #[.pointer (some ⟨g, 0, none⟩)] 25)) := (Fr.refl _ _).alloc _
  have h' : IsSet (w.alloc (.cells #[.pointer (some ⟨g, 0, none⟩)] 25)) g b u left least := by
    obtain ⟨⟨c, hg⟩, ⟨cur, hb, hrow⟩, hne, hlen, hl4, hm4⟩ := h
    exact ⟨⟨c, blk_alloc hg _⟩, ⟨cur, blk_alloc hb _, hrow⟩, hne, hlen, hl4, hm4⟩
  have hany : xs.any (fun x => !inSet u.length x) = true := by
    rw [← Bool.not_eq_false', ← List.not_all_eq_any_not] at *; simpa using hno
  have HC := Asd.mk (contains_calls 21 #[.pointer (some ⟨w.heap.size, 0, none⟩)] A n c xs (fun x => !inSet u.length x) _ (hx.fr hfr (by simp)) clos_enter
    (fun x => clos_calls g b w.heap.size u left least x _ h' (by rw [blk_cell (blk_new w _)]; rfl)))
  have HA := Asd.mk hany
  clear hg h h' hx hno hany hfr
  go_enter Try.func8, Try.ntmps8
  go_wp2_with (go_at_call 20; refine HC.out.mono ?_; rintro e w' ⟨rfl, rfl⟩; rw [HA.out])
  go_ret
  exact ⟨rfl, (Fr.refl _ _).alloc _⟩

/-- 'clear' makes the list all false. -/
theorem clear_step {w : World} {g b k c l m B : Nat} {cur : Array Value} (hg : w.heap[g]? = some (.cells #[.slice (some ⟨b, 0, none⟩) k c, .int .i64 (l : Int), .int .i64 (m : Int)] 43 (0, 0)))
    (hb : w.heap[b]? = some (.cells cur 4 (0, 0))) (hB : w.heap[B]? = some (.cells #[.pointer (some ⟨g, 0, none⟩)] 25 (0, 0))) (hne : g ≠ b) (hk : 0 < k) (hkc : k ≤ cur.size) :
    ∃ W cur', (Builtin.clear_ #[41] 0 #[.slice (some ⟨b, 0, none⟩) k c]).run Try.prog w = .ok (.tuple #[]) W ∧ W.heap[g]? = some (.cells #[.slice (some ⟨b, 0, none⟩) k c, .int .i64 (l : Int), .int .i64 (m : Int)] 43 (0, 0)) ∧
      W.heap[b]? = some (.cells cur' 4 (0, 0)) ∧ cur'.toList.take k = bools (List.replicate k false) ∧ W.heap[B]? = some (.cells #[.pointer (some ⟨g, 0, none⟩)] 25 (0, 0)) ∧ Fr (fun i => i = b) w W := by
  have hBb : B ≠ b := by
    rintro rfl
    rw [hb] at hB
    simp at hB
  refine ⟨w.setCells b 0 (List.replicate k (.bool false)), _, Lib.run_clear_slice (P := Try.prog) w 41 4 0 (.bool false) Try.underlying41 (fun w => by kernel_rfl) rfl rfl b 0 k c hk (fun j hj => by
      rw [blk_cell hb]; simp; omega) (fun j hj => blk_frozen hb _), ?_, setCells_heap _ 0 hb, ?_, ?_, ?_⟩
  · rw [heap_setCells b _ _ _ _ hne]; exact hg
  · have := putCells_take (List.replicate k (.bool false)) cur (by simpa using hkc)
    simpa [bools] using this
  · rw [heap_setCells b _ _ _ _ hBb]; exact hB
  · refine ⟨?_, ?_, ?_, ?_, ?_⟩
    · exact setCells_os ..
    · exact setCells_tape ..
    · exact setCells_output ..
    · exact Nat.le_of_eq (setCells_size ..).symm
    · intro i hi hu
      exact heap_setCells b _ _ _ _ hu

/-- Where the loop of Only stands: the list is G, the box still leads to the head. -/
def LoopG (g b B : Nat) (w wr : World) (G : List Bool) : Prop :=
  IsSet wr g b G (free G) 2 ∧ Fr (Only2 g b) w wr ∧ wr.heap[B]? = some (.cells #[.pointer (some ⟨g, 0, none⟩)] 25 (0, 0))

theorem loop_start {w W : World} {g b c' : Nat} {l m : Nat} {cur' : Array Value} {k : Nat} (h2 : 2 ≤ k) (h4 : k ≤ 4096) (hg2 : W.heap[g]? = some (.cells #[.slice (some ⟨b, 0, none⟩) k c', .int .i64 (l : Int), .int .i64 (m : Int)] 43 (0, 0)))
    (hb2 : W.heap[b]? = some (.cells cur' 4 (0, 0))) (hrow2 : cur'.toList.take k = bools (List.replicate k false)) (hB2 : W.heap[w.heap.size]? = some (.cells #[.pointer (some ⟨g, 0, none⟩)] 25 (0, 0))) (hfr : Fr (Only2 g b) w W) (hne : g ≠ b) (lt1 : g < w.heap.size) :
    LoopG g b w.heap.size w (((W.setCell ⟨g, 1, none⟩ (.int .i64 ((k : Int) - 2))).setCell ⟨g, 2, none⟩ (.int .i64 2)).drew) (marks k []) := by
  have e1 := blk_set hg2 1 (.int .i64 ((k : Int) - 2))
  have e2 := blk_set e1 2 (.int .i64 2)
  have r1 := blk_far hb2 (p := ⟨g, 1, none⟩) (Ne.symm hne) (.int .i64 ((k : Int) - 2))
  have r2 := blk_far r1 (p := ⟨g, 2, none⟩) (Ne.symm hne) (.int .i64 2)
  have s1 := blk_far hB2 (p := ⟨g, 1, none⟩) (show w.heap.size ≠ g by omega) (.int .i64 ((k : Int) - 2))
  have s2 := blk_far s1 (p := ⟨g, 2, none⟩) (show w.heap.size ≠ g by omega) (.int .i64 2)
  have hz : marks k [] = List.replicate k false := by simp [marks]
  rw [hz]
  refine ⟨⟨⟨c', ?_⟩, ⟨cur', r2, ?_⟩, hne, by simpa using h4, ?_, by omega⟩, ((hfr.setCell (Or.inl rfl) _).setCell (Or.inl rfl) _).drew, s2⟩
  · rw [free_new]
    refine e2.trans ?_
    simp
    omega
  · simpa using hrow2
  · rw [free_new]; omega

theorem loop_store {w wr : World} {g b B : Nat} {G : List Bool} {m : Nat} (h : LoopG g b B w wr G) (hm2 : 2 ≤ m) (hm : m < G.length) (hu : G.getD m false = false) (hBg : B ≠ g) (hBb : B ≠ b) (k : Int) (hk : k = ((free (G.set m true) : Nat) : Int)) :
    LoopG g b B w ((wr.setCell ⟨b, m, none⟩ (.bool true)).setCell ⟨g, 1, none⟩ (.int .i64 k)) (G.set m true) := by
  subst hk
  obtain ⟨⟨⟨c, hg⟩, ⟨cur, hb, hrow⟩, hne, hlen, hl4, hm4⟩, hf, hB⟩ := h
  have e1 := blk_far hg (p := ⟨b, m, none⟩) hne (.bool true)
  have e2 := blk_set e1 1 (.int .i64 ((free (G.set m true) : Nat) : Int))
  have f1 := blk_set hb m (.bool true)
  have f2 := blk_far f1 (p := ⟨g, 1, none⟩) (Ne.symm hne) (.int .i64 ((free (G.set m true) : Nat) : Int))
  have s1 := blk_far hB (p := ⟨b, m, none⟩) hBb (.bool true)
  have s2 := blk_far s1 (p := ⟨g, 1, none⟩) hBg (.int .i64 ((free (G.set m true) : Nat) : Int))
  refine ⟨⟨⟨c, by simpa using e2⟩, ⟨_, f2, take_set cur G m hm true hrow⟩, hne, by simpa using hlen, ?_, by omega⟩, (hf.setCell (Or.inr rfl) _).setCell (Or.inl rfl) _, s2⟩
  have := free_le (G.set m true); simp at this; omega

set_option maxHeartbeats 1600000 in
theorem only_yes (g b : Nat) (u : List Bool) (left least : Nat) (A : Option Addr) (n c : Nat) (xs : List Int) (w : World) (h : IsSet w g b u left least) (hx : IsInts w A n xs) (h2 : 2 ≤ u.length)
    (hsep : ∀ a, A = some a → a.block ≠ g ∧ a.block ≠ b) (hall : xs.all (inSet u.length) = true) :
    Calls Try.prog 8 #[.pointer (some ⟨g, 0, none⟩), .slice A n c] w (Fits g b w (.int .i64 0) (marks u.length xs) (free (marks u.length xs)) 2) := by
  have lt1 : g < w.heap.size := by obtain ⟨_, hh⟩ := h.head; exact blk_lt hh
  have lt2 : b < w.heap.size := by obtain ⟨_, hh, _⟩ := h.row; exact blk_lt hh
  have hfr : Fr (fun _ => False) w (w.alloc (.cells #[.pointer (some ⟨g, 0, none⟩)] 25)) := (Fr.refl _ _).alloc _
  have h' : IsSet (w.alloc (.cells #[.pointer (some ⟨g, 0, none⟩)] 25)) g b u left least := by
    obtain ⟨⟨c, hg⟩, ⟨cur, hb, hrow⟩, hne, hlen, hl4, hm4⟩ := h
    exact ⟨⟨c, blk_alloc hg _⟩, ⟨cur, blk_alloc hb _, hrow⟩, hne, hlen, hl4, hm4⟩
  have hany : xs.any (fun x => !inSet u.length x) = false := by
    rw [← List.not_all_eq_any_not, hall]; rfl
  have HC := Asd.mk (contains_calls 21 #[.pointer (some ⟨w.heap.size, 0, none⟩)] A n c xs (fun x => !inSet u.length x) _ (hx.fr hfr (by simp)) clos_enter
    (fun x => clos_calls g b w.heap.size u left least x _ h' (by rw [blk_cell (blk_new w _)]; rfl)))
  have HA := Asd.mk hany
  have HX := Asd.mk hx
  have HALL := Asd.mk hall
  have HSEP := Asd.mk hsep
  have hm := hx.2.1
  unfold maxLen at hm
  obtain ⟨⟨c', hg⟩, ⟨cur, hb, hrow⟩, hne, hlen, hl4, hm4⟩ := h'
  have c0 := (blk_cell hg 0).trans rfl
  have hk : u.length ≤ cur.size := by
    have := congrArg List.length hrow
    simp [bools] at this; omega
  obtain ⟨W, cur', hrun, hg2, hb2, hrow2, hB2, hfr2⟩ := clear_step hg hb (blk_new w _) hne (by omega) hk
  have HSET := Asd.mk (loop_start h2 hlen hg2 hb2 hrow2 hB2 (hfr.trans hfr2 (U := Only2 g b) (by simp) (fun k hk _ => Or.inr hk)) hne lt1)
  have d0 := (blk_cell hg2 0).trans rfl
  have d1 := (blk_cell hg2 1).trans rfl
  have d2 := (blk_cell hg2 2).trans rfl
  have f1 := blk_frozen hg2 1
  have f2 := blk_frozen hg2 2
  have dB := (blk_cell hB2 0).trans rfl
  clear h hx hall hany hfr hg hb hrow hg2 hb2 hrow2 hfr2 hB2 hk hsep
  go_enter Try.func8, Try.ntmps8
  go_wp2_with (go_at_call 20; refine HC.out.mono ?_; rintro e w' ⟨rfl, rfl⟩; rw [HA.out])
  go_region
  go_wp2
  clear c0 d0 d1 d2 f1 f2 dB hrun HC HA hl4 hm4
  go_loopw [28] (fun i wr => ∃ j : Nat, j ≤ n ∧ i = .int .i64 (j : Int) ∧ LoopG g b w.heap.size w wr (marks u.length (xs.take j))) (fun i _ => n - (intOf i).toNat)
  case atStart => exact ⟨0, by omega, rfl, HSET.out⟩
  case round =>
    obtain ⟨j, hj, rfl, hlp⟩ := hrel
    have HLP := Asd.mk hlp
    clear HSET
    by_cases hlt : j < n
    · obtain ⟨hset, hfrj, hBj⟩ := hlp
      obtain ⟨⟨cj, hgj⟩, ⟨curj, hbj, hrowj⟩, _, _, hl4j, hm4j⟩ := hset
      obtain ⟨bx, ox, rfl, hcx⟩ := (HX.out.fr hfrj (fun a ha => by
        rintro (h | h)
        · exact (HSEP.out a ha).1 h
        · exact (HSEP.out a ha).2 h)).2.2 (by omega)
      have cx := hcx j hlt
      have hin : inSet u.length (xs.getD j 0) = true := by
        have hx1 := HX.out.1
        refine List.all_eq_true.1 HALL.out _ ?_
        simp [List.getD, show j < xs.length by omega]
      have hts := Asd.mk (take_snoc_int xs j (by have := HX.out.1; omega))
      generalize xs.getD j 0 = x at cx hin hts
      simp only [inSet, decide_eq_true_eq] at hin
      obtain ⟨m, rfl⟩ := Int.eq_ofNat_of_zero_le (show 0 ≤ x by omega)
      have hm2 : 2 ≤ m := by omega
      have hmu : m < u.length := by omega
      have HNX := Asd.mk (show marks u.length (xs.take (j + 1)) = (marks u.length (xs.take j)).set m true by rw [hts.out, marks_snoc]; simp)
      clear hin hcx hts
      have hml : m < (marks u.length (List.take j xs)).length := by rw [marks_length]; exact hmu
      have g0 := (blk_cell hgj 0).trans rfl
      have g1 := (blk_cell hgj 1).trans rfl
      have q1 := blk_frozen hgj 1
      have qb := blk_frozen hbj
      have gB := (blk_cell hBj 0).trans rfl
      have cm := cell_row hbj hrowj m hml
      generalize hG : marks u.length (List.take j xs) = G at *
      have HG := Asd.mk hG
      clear hgj hbj hrowj hBj hfrj hG
      cases hu : G.getD m false with
      | true =>
        rw [hu] at cm
        have HU := Asd.mk hu
        clear hu
        go_wp2
        go_roundw
        case rel => exact ⟨j + 1, by omega, by go_num, by rw [HNX.out, set_same G m HU.out]; exact HLP.out⟩
        case measure => simp [intOf]; omega
      | false =>
        rw [hu] at cm
        have hfree := free_take G m hm2 hml hu
        have HU := Asd.mk hu
        have HS := Asd.mk (loop_store HLP.out hm2 hml hu (by omega) (by omega))
        clear hu
        go_wp2
        go_roundw
        case rel => exact ⟨j + 1, by omega, by go_num, by rw [HNX.out]; exact HS.out _ (by omega)⟩
        case measure => simp [intOf]; omega
    · have hjn : xs.take j = xs := List.take_of_length_le (by have := HX.out.1; omega)
      rw [hjn] at hlp
      have HE := Asd.mk hlp
      clear hlp hjn
      go_wp2
      go_ret
      exact ⟨rfl, HE.out.1, HE.out.2.1⟩

/-! ### Clone -/
/-- The set at g', b' is new and like the one at g. -/
def Cloned (w : World) (u : List Bool) (left least : Nat) (e : Ending) (w' : World) : Prop :=
  ∃ g b, e = .returned (.pointer (some ⟨g, 0, none⟩)) ∧ IsSet w' g b u left least ∧ Below w.heap.size w w' ∧ w.heap.size ≤ g ∧ w.heap.size ≤ b

def Copied (w : World) (xs : List Value) (e : Ending) (w' : World) : Prop :=
  ∃ v, e = .returned v ∧ w'.ownsRow w.heap.size 4 1 v xs.length xs ∧ Below w.heap.size w w'

set_option maxHeartbeats 800000 in
theorem copy_calls (b n c : Nat) (cur : Array Value) (u : List Bool) (w : World) (hb : w.heap[b]? = some (.cells cur 4 (0, 0))) (hrow : cur.toList.take u.length = bools u) (hlen : u.length ≤ 4096) (hpos : 0 < u.length) :
    Calls Try.prog 24 #[.slice (some ⟨b, 0, none⟩) u.length c] w (Copied w (bools u)) := by
  obtain ⟨i0, hi, hz0, hz1, hz2⟩ := info_parts info4
  have hnil := Lib.run_eql_slice_nil (P := Try.prog) w 41 4 (some ⟨b, 0, none⟩) u.length c 0 0 Try.underlying41
  have lt := blk_lt hb
  have hsrc : ∀ (j : Nat) (x : Value), (bools u)[j]? = some x → (w.alloc (.cells #[] 4)).cell? ((⟨b, 0, none⟩ : Addr).add j) = some x := by
    intro j x hx
    have hj : j < u.length := by
      have := (List.getElem?_eq_some_iff.1 hx).1
      simpa [bools] using this
    have e : ((⟨b, 0, none⟩ : Addr).add j) = ⟨b, j, none⟩ := by unfold Addr.add; split <;> simp_all
    rw [e, cell_row (blk_alloc hb _) hrow j hj, ← hx]
    simp [bools, List.getD, hj]
  have HSRC := Asd.mk hsrc
  have HONE : Asd (∀ x ∈ bools u, x.oneCell' = true) := Asd.mk (by intro x hx; simp [bools] at hx; rcases hx with ⟨_, rfl⟩ | ⟨_, rfl⟩ <;> rfl)
  have HOWN := Asd.mk (World.ownsRow_made (base := w.heap.size) (e := 4) (size := 1) w #[] 0 (Nat.le_refl _) (by decide) rfl)
  have HLEN : Asd ((bools u).length = u.length * 1) := Asd.mk (by simp [bools])
  clear hb hrow hsrc
  go_enter Try.func24, Try.ntmps24
  go_wp2_with (at_builtin; refine wpList_append_own _ rfl (.tmp 5) (.tmp 6) 41 rfl w.heap.size 4 i0 (.bool false) 1 1 Try.underlying41 hi hz0 hz1 hz2 rfl (by decide) _ 0 [] rfl HOWN.out ⟨b, 0, none⟩ u.length c (bools u) rfl HLEN.out HSRC.out HONE.out ?c1 ?c2 ?c3 ?_)
  case c1 => unfold maxLen; omega
  case c2 => omega
  case c3 => simp
  · intro v' w1 hown' hgr _
    have HO := Asd.mk hown'
    clear hown'
    go_wp2
    go_ret
    refine ⟨_, rfl, ?_, ?_⟩
    · simpa [bools] using HO.out
    · exact (((Fr.refl (fun _ => False) w).alloc (.cells #[] 4)).trans (Fr.of_grown (S := fun k => k = w.heap.size) hgr (by simp [Value.ownBlock])) (U := fun k => k = w.heap.size) (by simp) (fun k hk _ => hk)).below (by simp)

set_option maxHeartbeats 800000 in
theorem clone_calls (g b : Nat) (u : List Bool) (left least : Nat) (w : World) (h : IsSet w g b u left least) (hpos : 0 < u.length) :
    Calls Try.prog 17 #[.pointer (some ⟨g, 0, none⟩)] w (Cloned w u left least) := by
  obtain ⟨⟨c, hg⟩, ⟨cur, hb, hrow⟩, hne, hlen, hl4, hm4⟩ := h
  have c0 := (blk_cell hg 0).trans rfl
  have c1 := (blk_cell hg 1).trans rfl
  have c2 := (blk_cell hg 2).trans rfl
  have lt1 := blk_lt hg
  have lt2 := blk_lt hb
  clear hg
  go_enter Try.func17, Try.ntmps17
  go_wp2_with fail
  refine (copy_calls b 0 c cur u _ (blk_alloc hb _) hrow hlen hpos).mono ?_
  rintro e w1 ⟨v, rfl, ⟨hl, h0 | ⟨gb, cap, cur2, rfl, hgb, hh, hcap, hmax, hsz, htake⟩⟩, hbel⟩
  · exact absurd h0.2 (by have : (bools u).length = u.length := by simp [bools]
                          omega)
  · have hk := (hbel.block w.heap.size (by simp)).trans (blk_new w _)
    have d0 := (blk_cell hk 0).trans rfl
    have q0 := blk_frozen hk 0
    have hs1 := hbel.size
    have HK := Asd.mk hk
    have HB := Asd.mk hbel
    have HH := Asd.mk hh
    have HT := Asd.mk htake
    have hbl : (bools u).length = u.length := by simp [bools]
    rw [hbl]
    simp only [World.size_alloc] at hgb hs1
    have HNE := Asd.mk (show gb ≠ w.heap.size by omega)
    have HGE := Asd.mk (show w.heap.size ≤ gb by omega)
    clear hk hbel hh htake hl hb hrow hbl
    go_wp2
    go_ret
    have e1 := blk_set HK.out 0 (.slice (some ⟨gb, 0, none⟩) u.length cap)
    have e2 := blk_far HH.out (p := ⟨w.heap.size, 0, none⟩) HNE.out (.slice (some ⟨gb, 0, none⟩) u.length cap)
    refine ⟨w.heap.size, gb, rfl, ⟨⟨cap, by simpa using e1⟩, ⟨cur2, e2, ?_⟩, Ne.symm HNE.out, hlen, hl4, hm4⟩, ?_, Nat.le_refl _, HGE.out⟩
    · simpa [bools] using HT.out
    · exact ((((Fr.refl (fun _ => False) w).alloc (.cells #[.slice (some ⟨b, 0, none⟩) u.length c, .int .i64 (left : Int), .int .i64 (least : Int)] 43)).trans (Fr.of_below (S := fun _ => False) HB.out) (U := fun _ => False) (by simp) (by simp)).setNew (Nat.le_refl _) _).below (by simp)
end Go.Proofs.Ytblbdgdjnnjdjaa.Fre
