/- What package free's functions do with a set that lies in two blocks: the head g and the list b. -/
import Derived.Test.YtblbdgdjnnjdjaaProg
import Derived.Test.YtblbdgdjnnjdjaaBase
import Derived.KernelRfl
import Derived.OwnWalk
import Derived.RegionTactic
import Derived.ChangeAlike
import Derived.Deep.QuietTactic
import Derived.BigQuiet
import Derived.BigRegion
import Derived.WalkSpells
import Derived.Lib.SliceRun
import Derived.Outline
set_option linter.unusedVariables false
set_option linter.unusedSimpArgs false
namespace Go.Proofs.Ytblbdgdjnnjdjaa.Fre
open Go.RowKit Go.Proofs.Ytblbdgdjnnjdjaa.Base

def bools (xs : List Bool) : List Value := xs.map fun x => .bool x

/-- The set at block g, its list at block b: which pages are used, how many are left, and below which none is free. -/
structure IsSet (w : World) (g b : Nat) (u : List Bool) (left least : Nat) : Prop where
  head : ∃ c, w.heap[g]? = some (.cells #[.slice (some ⟨b, 0, none⟩) u.length c, .int .i64 (left : Int), .int .i64 (least : Int)] 43 (0, 0))
  row : ∃ cur, w.heap[b]? = some (.cells cur 4 (0, 0)) ∧ cur.toList.take u.length = bools u
  ne : g ≠ b
  len : u.length ≤ 4096
  left4 : left ≤ 4096
  least4 : least ≤ 4096

theorem max2_int (k k' : IntKind) (x y : Int) : Builtin.max2 (.int k x) (.int k' y) = pure (.int k (if x < y then y else x)) := by simp only [Builtin.max2, gt_iff_lt]
theorem min2_int (k k' : IntKind) (x y : Int) : Builtin.min2 (.int k x) (.int k' y) = pure (.int k (if y < x then y else x)) := by simp only [Builtin.min2]
attribute [local go_sem] max2_int min2_int

theorem info4 : (Try.prog.info? 4).map (fun i => (i.zero, i.size, i.bytes)) = some (some (.bool false), 1, 1) := by kernel_rfl

theorem cell_row {w : World} {b : Nat} {cur : Array Value} {t : TypeId} {u : List Bool} (h : w.heap[b]? = some (.cells cur t (0, 0))) (ht : cur.toList.take u.length = bools u) (j : Nat) (hj : j < u.length) : w.cell? ⟨b, j, none⟩ = some (.bool (u.getD j false)) := by
  rw [blk_cell h]
  have : (cur.toList.take u.length)[j]? = (bools u)[j]? := by rw [ht]
  rw [List.getElem?_take, if_pos hj] at this
  rw [← Array.getElem?_toList, this]
  simp [bools, List.getD, List.getElem?_map, hj]

/-! ### has -/
set_option maxHeartbeats 400000 in
theorem has_calls (g b : Nat) (u : List Bool) (left least : Nat) (n : Int) (w : World) (h : IsSet w g b u left least) :
    Calls Try.prog 22 #[.pointer (some ⟨g, 0, none⟩), .int .i64 n] w fun e w' => e = .returned (.bool (decide (2 ≤ n ∧ n < u.length))) ∧ w = w' := by
  obtain ⟨⟨c, hg⟩, ⟨cur, hb, hrow⟩, hne, hlen, hl4, hm4⟩ := h
  have c0 := (blk_cell hg 0).trans rfl
  clear hg hb hrow
  by_cases h2 : 2 ≤ n
  · have hd : decide (2 ≤ n) = true := decide_eq_true h2
    go_enter Try.func22, Try.ntmps22
    go_wp2
    go_ret
    exact ⟨ret_eq (by simp [h2]), rfl⟩
  · have hd : decide (2 ≤ n) = false := decide_eq_false h2
    go_enter Try.func22, Try.ntmps22
    go_wp2
    go_ret
    exact ⟨ret_eq (by simp [h2]), rfl⟩

/-! ### Left -/
theorem left_calls (g b : Nat) (u : List Bool) (left least : Nat) (w : World) (h : IsSet w g b u left least) :
    Calls Try.prog 9 #[.pointer (some ⟨g, 0, none⟩)] w fun e w' => e = .returned (.int .i64 left) ∧ w = w' := by
  obtain ⟨⟨c, hg⟩, ⟨cur, hb, hrow⟩, hne, hlen, hl4, hm4⟩ := h
  have c0 := (blk_cell hg 1).trans rfl
  clear hg hb hrow
  go_enter Try.func9, Try.ntmps9
  go_wp2
  go_ret
  exact ⟨rfl, rfl⟩

/-! ### Free -/
set_option maxHeartbeats 400000 in
theorem free_calls (g b : Nat) (u : List Bool) (left least : Nat) (n : Int) (w : World) (h : IsSet w g b u left least) :
    Calls Try.prog 11 #[.pointer (some ⟨g, 0, none⟩), .int .i64 n] w fun e w' => e = .returned (.bool (decide (2 ≤ n ∧ n < u.length) && !u.getD n.toNat false)) ∧ w = w' := by
  have H := Asd.mk h
  obtain ⟨⟨c, hg⟩, ⟨cur, hb, hrow⟩, hne, hlen, hl4, hm4⟩ := h
  have c0 := (blk_cell hg 0).trans rfl
  by_cases h2 : 2 ≤ n ∧ n < u.length
  · have hd : decide (2 ≤ n ∧ n < u.length) = true := decide_eq_true h2
    obtain ⟨h3, h4⟩ := h2
    have c1 := cell_row hb hrow n.toNat (by omega)
    clear hg hb hrow
    go_enter Try.func11, Try.ntmps11
    go_wp2_with (go_at_call 22; refine (has_calls _ _ _ _ _ _ _ H.out).mono ?_; rintro e w' ⟨rfl, rfl⟩)
    go_ret
    exact ⟨ret_eq (by simp [h3, h4]), rfl⟩
  · have hd : decide (2 ≤ n ∧ n < u.length) = false := decide_eq_false h2
    clear hg hb hrow h2
    go_enter Try.func11, Try.ntmps11
    go_wp2_with (go_at_call 22; refine (has_calls _ _ _ _ _ _ _ H.out).mono ?_; rintro e w' ⟨rfl, rfl⟩)
    go_ret
    exact ⟨ret_eq (by simp [hd]), rfl⟩

/-! ### Take -/
def Only2 (g b : Nat) : Nat → Prop := fun k => k = g ∨ k = b

theorem IsSet.drewN {w : World} {g b : Nat} {u : List Bool} {left least : Nat} (h : IsSet w g b u left least) (m : Nat) : IsSet (w.drewN m) g b u left least := ⟨h.head, h.row, h.ne, h.len, h.left4, h.least4⟩

theorem take_set (cur : Array Value) (u : List Bool) (n : Nat) (hn : n < u.length) (v : Bool) (h : cur.toList.take u.length = bools u) : (cur.setIfInBounds n (.bool v)).toList.take (u.set n v).length = bools (u.set n v) := by
  simp only [Array.toList_setIfInBounds, List.length_set, List.take_set, h, bools, List.map_set]

/-- What a store into the list and two into the head make of a set. -/
theorem IsSet.stored {w : World} {g b : Nat} {u : List Bool} {left least : Nat} (h : IsSet w g b u left least) (n : Nat) (hn : n < u.length) (v : Bool) (l' m' : Nat) (h1 : l' ≤ 4096) (h2 : m' ≤ 4096) :
    IsSet (((w.setCell ⟨b, n, none⟩ (.bool v)).setCell ⟨g, 1, none⟩ (.int .i64 (l' : Int))).setCell ⟨g, 2, none⟩ (.int .i64 (m' : Int))) g b (u.set n v) l' m' := by
  obtain ⟨⟨c, hg⟩, ⟨cur, hb, hrow⟩, hne, hlen, hl4, hm4⟩ := h
  have e1 := blk_far hg (p := ⟨b, n, none⟩) hne (.bool v)
  have e2 := blk_set e1 1 (.int .i64 (l' : Int))
  have e3 := blk_set e2 2 (.int .i64 (m' : Int))
  have f1 := blk_set hb n (.bool v)
  have f2 := blk_far f1 (p := ⟨g, 1, none⟩) (Ne.symm hne) (.int .i64 (l' : Int))
  have f3 := blk_far f2 (p := ⟨g, 2, none⟩) (Ne.symm hne) (.int .i64 (m' : Int))
  exact ⟨⟨c, by simpa using e3⟩, ⟨_, f3, take_set cur u n hn v hrow⟩, hne, by simpa using hlen, h1, h2⟩

def Fits (g b : Nat) (w : World) (v : Value) (u : List Bool) (left least : Nat) (e : Ending) (w' : World) : Prop :=
  e = .returned v ∧ IsSet w' g b u left least ∧ Fr (Only2 g b) w w'

set_option maxHeartbeats 800000 in
theorem take_yes (g b : Nat) (u : List Bool) (left least n : Nat) (w : World) (h : IsSet w g b u (left + 1) least) (h1 : least ≤ n) (h2 : n < u.length) (h3 : u.getD n false = false) (h4 : ∀ k, least ≤ k → k < n → u.getD k false = true) :
    Calls Try.prog 10 #[.pointer (some ⟨g, 0, none⟩)] w (Fits g b w (.tuple #[.int .i64 (n : Int), .bool true]) (u.set n true) left (n + 1)) := by
  have H := Asd.mk h
  have H4 := Asd.mk h4
  have H3 := Asd.mk h3
  clear h4 h3
  obtain ⟨⟨c, hg⟩, ⟨cur, hb, hrow⟩, hne, hlen, hl4, hm4⟩ := h
  have c0 := (blk_cell hg 0).trans rfl
  have c1 := (blk_cell hg 1).trans rfl
  have c2 := (blk_cell hg 2).trans rfl
  have f1 := blk_frozen hg 1
  have f2 := blk_frozen hg 2
  have fb := blk_frozen hb
  have CR := Asd.mk (cell_row hb hrow)
  clear hg hb hrow
  go_enter Try.func10, Try.ntmps10
  go_wp2
  go_quiet (fail)
  go_wp2
  go_loop [16] (fun i => ∃ k : Nat, least + k ≤ n ∧ i = .int .i64 (k : Int)) (fun i => u.length - (intOf i).toNat)
  case atStart => exact ⟨0, by omega, rfl⟩
  case round =>
    obtain ⟨k, hk, rfl⟩ := hrel
    have ck := CR.out (least + k) (by omega)
    by_cases he : least + k = n
    · have hu : u.getD (least + k) false = false := by rw [he]; exact H3.out
      rw [hu] at ck
      clear hu
      have FN := Asd.mk he
      clear he
      go_wp2
      go_ret2
      obtain rfl := FN.out
      refine ⟨ret_eq (by simp), ?_, ?_⟩
      · simpa using (H.out.drewN _).stored (least + k) (by omega) true left (least + k + 1) (by omega) (by omega)
      · exact (((((Fr.refl _ _).drewN _).setCell (Or.inr rfl) _).setCell (Or.inl rfl) _).setCell (Or.inl rfl) _)
    · have hu : u.getD (least + k) false = true := H4.out _ (by omega) (by omega)
      rw [hu] at ck
      clear hu
      go_wp2
      go_round
      case rel => exact ⟨k + 1, by omega, by go_num⟩
      case measure => simp [intOf]; omega

def Stays (v : Value) (w : World) (e : Ending) (w' : World) : Prop := e = .returned v ∧ ∃ m, w' = w.drewN m

set_option maxHeartbeats 800000 in
theorem take_no (g b : Nat) (u : List Bool) (left least : Nat) (w : World) (h : IsSet w g b u left least) (h4 : ∀ k, least ≤ k → k < u.length → u.getD k false = true) :
    Calls Try.prog 10 #[.pointer (some ⟨g, 0, none⟩)] w (Stays (.tuple #[.int .i64 0, .bool false]) w) := by
  have H4 := Asd.mk h4
  clear h4
  obtain ⟨⟨c, hg⟩, ⟨cur, hb, hrow⟩, hne, hlen, hl4, hm4⟩ := h
  have c0 := (blk_cell hg 0).trans rfl
  have c2 := (blk_cell hg 2).trans rfl
  have CR := Asd.mk (cell_row hb hrow)
  clear hg hb hrow
  go_enter Try.func10, Try.ntmps10
  go_wp2
  go_quiet (fail)
  go_wp2
  go_loop [16] (fun i => ∃ k : Nat, i = .int .i64 (k : Int) ∧ k ≤ 5000) (fun i => u.length - (intOf i).toNat)
  case atStart => exact ⟨0, rfl, by omega⟩
  case round =>
    obtain ⟨k, rfl, hk5⟩ := hrel
    by_cases he : least + k < u.length
    · have ck := CR.out (least + k) (by omega)
      have hu : u.getD (least + k) false = true := H4.out _ (by omega) (by omega)
      rw [hu] at ck
      clear hu
      go_wp2
      go_round
      case rel => exact ⟨k + 1, by go_num, by omega⟩
      case measure => simp [intOf]; omega
    · go_wp2
      go_ret2
      exact ⟨rfl, _, rfl⟩

/-! ### Give -/
theorem drewN_zero (w : World) : w = w.drewN 0 := rfl

set_option maxHeartbeats 800000 in
theorem give_yes (g b : Nat) (u : List Bool) (left least n : Nat) (w : World) (h : IsSet w g b u left least) (hl : left < 4096) (h2 : 2 ≤ n) (h3 : n < u.length) (h4 : u.getD n false = true) :
    Calls Try.prog 12 #[.pointer (some ⟨g, 0, none⟩), .int .i64 (n : Int)] w (Fits g b w (.bool true) (u.set n false) (left + 1) (min least n)) := by
  have H := Asd.mk h
  obtain ⟨⟨c, hg⟩, ⟨cur, hb, hrow⟩, hne, hlen, hl4, hm4⟩ := h
  have c0 := (blk_cell hg 0).trans rfl
  have c1 := (blk_cell hg 1).trans rfl
  have c2 := (blk_cell hg 2).trans rfl
  have f1 := blk_frozen hg 1
  have f2 := blk_frozen hg 2
  have fb := blk_frozen hb
  have ck := cell_row hb hrow n h3
  rw [h4] at ck
  clear hg hb hrow h4
  have hd : decide (2 ≤ (n : Int) ∧ (n : Int) < u.length) = true := by simp; omega
  by_cases hm : n < least
  · have FM := Asd.mk (show min least n = n by omega)
    go_enter Try.func12, Try.ntmps12
    go_wp2_with (go_at_call 22; refine (has_calls _ _ _ _ _ _ _ H.out).mono ?_; rintro e w' ⟨rfl, rfl⟩)
    go_ret
    refine ⟨rfl, ?_, ?_⟩
    · rw [FM.out]; simpa using (H.out).stored n h3 false (left + 1) n (by omega) (by omega)
    · exact ((((Fr.refl _ _).setCell (Or.inr rfl) _).setCell (Or.inl rfl) _).setCell (Or.inl rfl) _)
  · have FM := Asd.mk (show min least n = least by omega)
    go_enter Try.func12, Try.ntmps12
    go_wp2_with (go_at_call 22; refine (has_calls _ _ _ _ _ _ _ H.out).mono ?_; rintro e w' ⟨rfl, rfl⟩)
    go_ret
    refine ⟨rfl, ?_, ?_⟩
    · rw [FM.out]; simpa using (H.out).stored n h3 false (left + 1) least (by omega) (by omega)
    · exact ((((Fr.refl _ _).setCell (Or.inr rfl) _).setCell (Or.inl rfl) _).setCell (Or.inl rfl) _)

set_option maxHeartbeats 800000 in
theorem give_no (g b : Nat) (u : List Bool) (left least : Nat) (n : Int) (w : World) (h : IsSet w g b u left least) (h4 : 2 ≤ n → n < u.length → u.getD n.toNat false = false) :
    Calls Try.prog 12 #[.pointer (some ⟨g, 0, none⟩), .int .i64 n] w fun e w' => e = .returned (.bool false) ∧ w = w' := by
  have H := Asd.mk h
  obtain ⟨⟨c, hg⟩, ⟨cur, hb, hrow⟩, hne, hlen, hl4, hm4⟩ := h
  have c0 := (blk_cell hg 0).trans rfl
  by_cases h2 : 2 ≤ n ∧ n < u.length
  · have hd : decide (2 ≤ n ∧ n < u.length) = true := decide_eq_true h2
    obtain ⟨h2, h3⟩ := h2
    have ck := cell_row hb hrow n.toNat (by omega)
    rw [h4 h2 h3] at ck
    clear hg hb hrow h4
    go_enter Try.func12, Try.ntmps12
    go_wp2_with (go_at_call 22; refine (has_calls _ _ _ _ _ _ _ H.out).mono ?_; rintro e w' ⟨rfl, rfl⟩)
    go_ret
    exact ⟨rfl, rfl⟩
  · have hd : decide (2 ≤ n ∧ n < u.length) = false := decide_eq_false h2
    clear hg hb hrow h4 h2
    go_enter Try.func12, Try.ntmps12
    go_wp2_with (go_at_call 22; refine (has_calls _ _ _ _ _ _ _ H.out).mono ?_; rintro e w' ⟨rfl, rfl⟩)
    go_ret
    exact ⟨rfl, rfl⟩

/-! ### New -/
/-- A fresh set. -/
def Fresh (w : World) (n : Nat) (e : Ending) (w' : World) : Prop :=
  ∃ g b, e = .returned (.pointer (some ⟨g, 0, none⟩)) ∧ IsSet w' g b (List.replicate n false) (n - 2) 2 ∧ Below w.heap.size w w' ∧ w.heap.size ≤ g ∧ w.heap.size ≤ b

theorem made_bools (n : Nat) : (madeCells (Value.cells (.bool false)) (n * 1)).toList = bools (List.replicate n false) := by
  apply List.ext_getElem
  · simp [madeCells, bools, Value.cells]
  · intro i h1 h2
    simp [madeCells, bools, Value.cells, Nat.mod_one]

theorem fresh_of {w w1 : World} {n : Nat} (h2 : 2 ≤ n) (h4 : n ≤ 4096) (hown : w1.ownsRow w.heap.size 4 1 (.slice (some ⟨w.heap.size, 0, none⟩) n n) n (madeCells (Value.cells (.bool false)) (n * 1)).toList) (hgr : w.grownBy w1 none) (k : Int) (hk : k = ((n - 2 : Nat) : Int)) :
    Fresh w n (.returned (.pointer (some ⟨w1.heap.size, 0, none⟩))) (w1.alloc (.cells #[.slice (some ⟨w.heap.size, 0, none⟩) n n, .int .i64 k, .int .i64 2] 43)) := by
  subst hk
  obtain ⟨_, h | ⟨g, cap, cur, hv, hb, hh, _, _, hsz, htake⟩⟩ := hown
  · exact absurd h.2 (by omega)
  · simp only [Value.slice.injEq, Option.some.injEq, Addr.mk.injEq] at hv
    obtain ⟨⟨rfl, _⟩, _, rfl⟩ := hv
    have hlt := blk_lt hh
    refine ⟨w1.heap.size, w.heap.size, rfl, ⟨⟨n, by simpa using blk_new w1 _⟩, ⟨cur, blk_alloc hh _, ?_⟩, by omega, by simpa using h4, by omega, by omega⟩, ((Fr.of_grown (S := fun _ => False) hgr (by simp)).alloc _).below (by simp), hgr.size, Nat.le_refl _⟩
    rw [← made_bools, ← htake]; simp

def new_arm (n : Nat) : Prop := n ≤ 4096

set_option maxHeartbeats 800000 in
theorem new_calls (p : Int) (n : Nat) (w : World) (hn : (n : Int) = max 2 (min p 4096)) :
    Calls Try.prog 7 #[.int .i64 p] w (Fresh w n) := by
  have h2 : 2 ≤ n := by omega
  have h4 : n ≤ 4096 := by omega
  obtain ⟨i0, hi, hz0, hz1, hz2⟩ := info_parts info4
  have HB : Asd (i0.bytes * n ≤ 281474976710656) := Asd.mk (by rw [hz2]; omega)
  have HM : Asd (n ≤ maxLen) := Asd.mk (by unfold maxLen; omega)
  by_cases hp : p ≤ 2
  · have HN : Asd ((2 : Int) = n) := Asd.mk (by omega)
    clear hn
    go_enter Try.func7, Try.ntmps7
    go_wp2_with (at_make; refine wpList_make_full _ rfl (.tmp 7) (.tmp 7) 41 rfl w.heap.size 4 i0 (.bool false) 1 Try.underlying41 hi hz0 hz1 .i64 .i64 2 2 n rfl rfl HN.out HN.out HB.out HM.out (Nat.le_refl _) ?_; intro w1 hown hgr)
    go_ret
    exact fresh_of h2 h4 hown hgr _ (by have := HN.out; omega)
  · by_cases hp4 : p ≤ 4096
    · have HN : Asd (p = n) := Asd.mk (by omega)
      clear hn
      go_enter Try.func7, Try.ntmps7
      go_wp2_with (at_make; refine wpList_make_full _ rfl (.tmp 7) (.tmp 7) 41 rfl w.heap.size 4 i0 (.bool false) 1 Try.underlying41 hi hz0 hz1 .i64 .i64 p p n rfl rfl HN.out HN.out HB.out HM.out (Nat.le_refl _) ?_; intro w1 hown hgr)
      go_ret
      exact fresh_of h2 h4 hown hgr _ (by have := HN.out; omega)
    · have hp5 : 4096 < p := by omega
      have HN : Asd ((4096 : Int) = n) := Asd.mk (by omega)
      clear hp4
      clear hn
      go_enter Try.func7, Try.ntmps7
      go_wp2_with (at_make; refine wpList_make_full _ rfl (.tmp 7) (.tmp 7) 41 rfl w.heap.size 4 i0 (.bool false) 1 Try.underlying41 hi hz0 hz1 .i64 .i64 4096 4096 n rfl rfl HN.out HN.out HB.out HM.out (Nat.le_refl _) ?_; intro w1 hown hgr)
      go_ret
      exact fresh_of h2 h4 hown hgr _ (by have := HN.out; omega)
end Go.Proofs.Ytblbdgdjnnjdjaa.Fre
