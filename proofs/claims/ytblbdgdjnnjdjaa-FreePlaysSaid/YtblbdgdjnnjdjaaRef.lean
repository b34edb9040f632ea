/- What the reference's functions do with a set that lies in two blocks. -/
import Derived.Test.YtblbdgdjnnjdjaaClones
set_option linter.unusedVariables false
set_option linter.unusedSimpArgs false
namespace Go.Proofs.Ytblbdgdjnnjdjaa.Fre
open Go.RowKit Go.Proofs.Ytblbdgdjnnjdjaa.Base
attribute [local go_sem] max2_int min2_int

/-- The reference's set at block g, its list at block b. -/
structure IsRef (w : World) (g b : Nat) (u : List Bool) : Prop where
  head : ∃ c, w.heap[g]? = some (.cells #[.slice (some ⟨b, 0, none⟩) u.length c] 46 (0, 0))
  row : ∃ cur, w.heap[b]? = some (.cells cur 4 (0, 0)) ∧ cur.toList.take u.length = bools u
  ne : g ≠ b
  len : u.length ≤ 4096

theorem IsRef.fr {w w' : World} {S : Nat → Prop} {g b : Nat} {u : List Bool} (h : IsRef w g b u) (hf : Fr S w w') (h1 : ¬ S g) (h2 : ¬ S b) : IsRef w' g b u := by
  obtain ⟨⟨c, hg⟩, ⟨cur, hb, hrow⟩, hne, hlen⟩ := h
  exact ⟨⟨c, blk_fr hg hf h1⟩, ⟨cur, blk_fr hb hf h2, hrow⟩, hne, hlen⟩
theorem IsRef.lt {w : World} {g b : Nat} {u : List Bool} (h : IsRef w g b u) : g < w.heap.size ∧ b < w.heap.size := by
  obtain ⟨⟨c, hg⟩, ⟨cur, hb, hrow⟩, _⟩ := h
  exact ⟨blk_lt hg, blk_lt hb⟩
theorem IsRef.drewN {w : World} {g b : Nat} {u : List Bool} (h : IsRef w g b u) (m : Nat) : IsRef (w.drewN m) g b u := ⟨h.head, h.row, h.ne, h.len⟩
theorem IsRef.drew {w : World} {g b : Nat} {u : List Bool} (h : IsRef w g b u) : IsRef w.drew g b u := ⟨h.head, h.row, h.ne, h.len⟩
theorem IsRef.set {w : World} {g b : Nat} {u : List Bool} (h : IsRef w g b u) (n : Nat) (hn : n < u.length) (v : Bool) : IsRef (w.setCell ⟨b, n, none⟩ (.bool v)) g b (u.set n v) := by
  obtain ⟨⟨c, hg⟩, ⟨cur, hb, hrow⟩, hne, hlen⟩ := h
  exact ⟨⟨c, by simpa using blk_far hg (p := ⟨b, n, none⟩) hne (.bool v)⟩, ⟨_, blk_set hb n (.bool v), take_set cur u n hn v hrow⟩, hne, by simpa using hlen⟩

def FitsR (g b : Nat) (w : World) (v : Value) (u : List Bool) (e : Ending) (w' : World) : Prop :=
  e = .returned v ∧ IsRef w' g b u ∧ Fr (fun k => k = b) w w'
def FreshR (w : World) (n : Nat) (e : Ending) (w' : World) : Prop :=
  ∃ g b, e = .returned (.pointer (some ⟨g, 0, none⟩)) ∧ IsRef w' g b (List.replicate n false) ∧ Below w.heap.size w w' ∧ w.heap.size ≤ g ∧ w.heap.size ≤ b

/-! ### New -/
theorem freshR_of {w w1 : World} {n : Nat} (h4 : n ≤ 4096) (hown : w1.ownsRow w.heap.size 4 1 (.slice (some ⟨w.heap.size, 0, none⟩) n n) n (madeCells (Value.cells (.bool false)) (n * 1)).toList) (hgr : w.grownBy w1 none) :
    FreshR w n (.returned (.pointer (some ⟨w1.heap.size, 0, none⟩))) (w1.alloc (.cells #[.slice (some ⟨w.heap.size, 0, none⟩) n n] 46)) := by
  obtain ⟨_, h | ⟨g, cap, cur, hv, hb, hh, _, _, hsz, htake⟩⟩ := hown
  · cases h.1
  · simp only [Value.slice.injEq, Option.some.injEq, Addr.mk.injEq] at hv
    obtain ⟨⟨rfl, _⟩, _, rfl⟩ := hv
    have hlt := blk_lt hh
    refine ⟨w1.heap.size, w.heap.size, rfl, ⟨⟨n, by simpa using blk_new w1 _⟩, ⟨cur, blk_alloc hh _, ?_⟩, by omega, by simpa using h4⟩, ((Fr.of_grown (S := fun _ => False) hgr (by simp)).alloc _).below (by simp), hgr.size, Nat.le_refl _⟩
    rw [← made_bools, ← htake]; simp

set_option maxHeartbeats 800000 in
theorem rnew_calls (p : Int) (n : Nat) (w : World) (hn : (n : Int) = max 0 (min p 4096)) :
    Calls Try.prog 13 #[.int .i64 p] w (FreshR w n) := by
  have h4 : n ≤ 4096 := by omega
  obtain ⟨i0, hi, hz0, hz1, hz2⟩ := info_parts info4
  have HB : Asd (i0.bytes * n ≤ 281474976710656) := Asd.mk (by rw [hz2]; omega)
  have HM : Asd (n ≤ maxLen) := Asd.mk (by unfold maxLen; omega)
  by_cases hp : p ≤ 0
  · have HN : Asd ((0 : Int) = n) := Asd.mk (by omega)
    clear hn
    go_enter Try.func13, Try.ntmps13
    go_wp2_with (at_make; refine wpList_make_full _ rfl (.tmp 5) (.tmp 5) 41 rfl w.heap.size 4 i0 (.bool false) 1 Try.underlying41 hi hz0 hz1 .i64 .i64 0 0 n rfl rfl HN.out HN.out HB.out HM.out (Nat.le_refl _) ?_; intro w1 hown hgr)
    go_ret
    exact freshR_of h4 hown hgr
  · by_cases hp4 : p ≤ 4096
    · have HN : Asd (p = n) := Asd.mk (by omega)
      clear hn
      go_enter Try.func13, Try.ntmps13
      go_wp2_with (at_make; refine wpList_make_full _ rfl (.tmp 5) (.tmp 5) 41 rfl w.heap.size 4 i0 (.bool false) 1 Try.underlying41 hi hz0 hz1 .i64 .i64 p p n rfl rfl HN.out HN.out HB.out HM.out (Nat.le_refl _) ?_; intro w1 hown hgr)
      go_ret
      exact freshR_of h4 hown hgr
    · have hp5 : 4096 < p := by omega
      have HN : Asd ((4096 : Int) = n) := Asd.mk (by omega)
      clear hn hp4
      go_enter Try.func13, Try.ntmps13
      go_wp2_with (at_make; refine wpList_make_full _ rfl (.tmp 5) (.tmp 5) 41 rfl w.heap.size 4 i0 (.bool false) 1 Try.underlying41 hi hz0 hz1 .i64 .i64 4096 4096 n rfl rfl HN.out HN.out HB.out HM.out (Nat.le_refl _) ?_; intro w1 hown hgr)
      go_ret
      exact freshR_of h4 hown hgr

/-! ### has, Free -/
set_option maxHeartbeats 400000 in
theorem rhas_calls (g b : Nat) (u : List Bool) (n : Int) (w : World) (h : IsRef w g b u) :
    Calls Try.prog 23 #[.pointer (some ⟨g, 0, none⟩), .int .i64 n] w fun e w' => e = .returned (.bool (decide (2 ≤ n ∧ n < u.length))) ∧ w = w' := by
  obtain ⟨⟨c, hg⟩, ⟨cur, hb, hrow⟩, hne, hlen⟩ := h
  have c0 := (blk_cell hg 0).trans rfl
  clear hg hb hrow
  by_cases h2 : 2 ≤ n
  · have hd : decide (2 ≤ n) = true := decide_eq_true h2
    go_enter Try.func23, Try.ntmps23
    go_wp2
    go_ret
    exact ⟨ret_eq (by simp [h2]), rfl⟩
  · have hd : decide (2 ≤ n) = false := decide_eq_false h2
    go_enter Try.func23, Try.ntmps23
    go_wp2
    go_ret
    exact ⟨ret_eq (by simp [h2]), rfl⟩

/-- Is n a page that is free? -/
def isFree (u : List Bool) (n : Int) : Bool := decide (2 ≤ n ∧ n < u.length) && !u.getD n.toNat false

set_option maxHeartbeats 400000 in
theorem rfree_calls (g b : Nat) (u : List Bool) (n : Int) (w : World) (h : IsRef w g b u) :
    Calls Try.prog 19 #[.pointer (some ⟨g, 0, none⟩), .int .i64 n] w fun e w' => e = .returned (.bool (isFree u n)) ∧ w = w' := by
  have H := Asd.mk h
  obtain ⟨⟨c, hg⟩, ⟨cur, hb, hrow⟩, hne, hlen⟩ := h
  have c0 := (blk_cell hg 0).trans rfl
  by_cases h2 : 2 ≤ n ∧ n < u.length
  · have hd : decide (2 ≤ n ∧ n < u.length) = true := decide_eq_true h2
    obtain ⟨h3, h4⟩ := h2
    have c1 := cell_row hb hrow n.toNat (by omega)
    clear hg hb hrow
    go_enter Try.func19, Try.ntmps19
    go_wp2_with (go_at_call 23; refine (rhas_calls _ _ _ _ _ H.out).mono ?_; rintro e w' ⟨rfl, rfl⟩)
    go_ret
    exact ⟨ret_eq (by simp [isFree, h3, h4]), rfl⟩
  · have hd : decide (2 ≤ n ∧ n < u.length) = false := decide_eq_false h2
    clear hg hb hrow h2
    go_enter Try.func19, Try.ntmps19
    go_wp2_with (go_at_call 23; refine (rhas_calls _ _ _ _ _ H.out).mono ?_; rintro e w' ⟨rfl, rfl⟩)
    go_ret
    exact ⟨ret_eq (by simp [isFree, hd]), rfl⟩

/-! ### Take -/
set_option maxHeartbeats 800000 in
theorem rtake_yes (g b : Nat) (u : List Bool) (n : Nat) (w : World) (h : IsRef w g b u) (h1 : 2 ≤ n) (h2 : n < u.length) (h3 : u.getD n false = false) (h4 : ∀ k, 2 ≤ k → k < n → u.getD k false = true) :
    Calls Try.prog 14 #[.pointer (some ⟨g, 0, none⟩)] w (FitsR g b w (.tuple #[.int .i64 (n : Int), .bool true]) (u.set n true)) := by
  have H := Asd.mk h
  have H4 := Asd.mk h4
  have H3 := Asd.mk h3
  clear h4 h3
  obtain ⟨⟨c, hg⟩, ⟨cur, hb, hrow⟩, hne, hlen⟩ := h
  have c0 := (blk_cell hg 0).trans rfl
  have fb := blk_frozen hb
  have CR := Asd.mk (cell_row hb hrow)
  clear hg hb hrow
  go_enter Try.func14, Try.ntmps14
  go_wp2
  go_loop [4] (fun i => ∃ k : Nat, 2 ≤ k ∧ k ≤ n ∧ i = .int .i64 (k : Int)) (fun i => u.length - (intOf i).toNat)
  case atStart => exact ⟨2, by omega, by omega, rfl⟩
  case round =>
    obtain ⟨k, hk2, hk, rfl⟩ := hrel
    have ck := CR.out k (by omega)
    by_cases he : k = n
    · subst he
      rw [H3.out] at ck
      go_wp2
      go_ret2
      exact ⟨rfl, H.out.set _ h2 true, (Fr.refl (fun k => k = b) _).setCell rfl _⟩
    · have hu : u.getD k false = true := H4.out _ (by omega) (by omega)
      rw [hu] at ck
      clear hu
      go_wp2
      go_round
      case rel => exact ⟨k + 1, by omega, by omega, by go_num⟩
      case measure => simp [intOf]; omega

set_option maxHeartbeats 800000 in
theorem rtake_no (g b : Nat) (u : List Bool) (w : World) (h : IsRef w g b u) (h4 : ∀ k, 2 ≤ k → k < u.length → u.getD k false = true) :
    Calls Try.prog 14 #[.pointer (some ⟨g, 0, none⟩)] w fun e w' => e = .returned (.tuple #[.int .i64 0, .bool false]) ∧ w = w' := by
  have H4 := Asd.mk h4
  clear h4
  obtain ⟨⟨c, hg⟩, ⟨cur, hb, hrow⟩, hne, hlen⟩ := h
  have c0 := (blk_cell hg 0).trans rfl
  have CR := Asd.mk (cell_row hb hrow)
  clear hg hb hrow
  go_enter Try.func14, Try.ntmps14
  go_wp2
  go_loop [4] (fun i => ∃ k : Nat, 2 ≤ k ∧ k ≤ 5000 ∧ i = .int .i64 (k : Int)) (fun i => u.length - (intOf i).toNat)
  case atStart => exact ⟨2, by omega, by omega, rfl⟩
  case round =>
    obtain ⟨k, hk2, hk, rfl⟩ := hrel
    by_cases he : k < u.length
    · have ck := CR.out k he
      have hu : u.getD k false = true := H4.out _ hk2 he
      rw [hu] at ck
      clear hu
      go_wp2
      go_round
      case rel => exact ⟨k + 1, by omega, by omega, by go_num⟩
      case measure => simp [intOf]; omega
    · go_wp2
      go_ret2
      exact ⟨rfl, rfl⟩

/-! ### Give -/
set_option maxHeartbeats 800000 in
theorem rgive_yes (g b : Nat) (u : List Bool) (n : Nat) (w : World) (h : IsRef w g b u) (h2 : 2 ≤ n) (h3 : n < u.length) (h4 : u.getD n false = true) :
    Calls Try.prog 15 #[.pointer (some ⟨g, 0, none⟩), .int .i64 (n : Int)] w (FitsR g b w (.bool true) (u.set n false)) := by
  have H := Asd.mk h
  obtain ⟨⟨c, hg⟩, ⟨cur, hb, hrow⟩, hne, hlen⟩ := h
  have c0 := (blk_cell hg 0).trans rfl
  have fb := blk_frozen hb
  have ck := cell_row hb hrow n h3
  rw [h4] at ck
  clear hg hb hrow h4
  have hd : decide (2 ≤ (n : Int) ∧ (n : Int) < u.length) = true := by simp; omega
  go_enter Try.func15, Try.ntmps15
  go_wp2_with (go_at_call 23; refine (rhas_calls _ _ _ _ _ H.out).mono ?_; rintro e w' ⟨rfl, rfl⟩)
  go_ret
  exact ⟨rfl, H.out.set _ h3 false, (Fr.refl (fun k => k = b) _).setCell rfl _⟩

set_option maxHeartbeats 800000 in
theorem rgive_no (g b : Nat) (u : List Bool) (n : Int) (w : World) (h : IsRef w g b u) (h4 : 2 ≤ n → n < u.length → u.getD n.toNat false = false) :
    Calls Try.prog 15 #[.pointer (some ⟨g, 0, none⟩), .int .i64 n] w fun e w' => e = .returned (.bool false) ∧ w = w' := by
  have H := Asd.mk h
  obtain ⟨⟨c, hg⟩, ⟨cur, hb, hrow⟩, hne, hlen⟩ := h
  have c0 := (blk_cell hg 0).trans rfl
  by_cases h2 : 2 ≤ n ∧ n < u.length
  · have hd : decide (2 ≤ n ∧ n < u.length) = true := decide_eq_true h2
    obtain ⟨h2, h3⟩ := h2
    have ck := cell_row hb hrow n.toNat (by omega)
    rw [h4 h2 h3] at ck
    clear hg hb hrow h4
    go_enter Try.func15, Try.ntmps15
    go_wp2_with (go_at_call 23; refine (rhas_calls _ _ _ _ _ H.out).mono ?_; rintro e w' ⟨rfl, rfl⟩)
    go_ret
    exact ⟨rfl, rfl⟩
  · have hd : decide (2 ≤ n ∧ n < u.length) = false := decide_eq_false h2
    clear hg hb hrow h4 h2
    go_enter Try.func15, Try.ntmps15
    go_wp2_with (go_at_call 23; refine (rhas_calls _ _ _ _ _ H.out).mono ?_; rintro e w' ⟨rfl, rfl⟩)
    go_ret
    exact ⟨rfl, rfl⟩

/-! ### Left -/
theorem free_take_snoc (u : List Bool) (k : Nat) (hk : k < u.length) : free (u.take (k + 1)) = free (u.take k) + (if isFree u (k : Int) then 1 else 0) := by
  rw [List.take_succ_eq_append_getElem hk]
  unfold free isFree
  by_cases h2 : 2 ≤ k
  · rw [List.drop_append_of_le_length (by simp; omega), List.count_append]
    have : (2 : Int) ≤ (k : Int) ∧ (k : Int) < u.length := by omega
    cases hv : u[k] <;> simp [List.getD, hk, hv, this]
  · have e : ¬ (2 : Int) ≤ (k : Int) := by omega
    rw [List.drop_eq_nil_of_le (by simp; omega), List.drop_eq_nil_of_le (by simp; omega)]
    simp [e]

set_option maxHeartbeats 800000 in
theorem rleft_calls (g b : Nat) (u : List Bool) (w : World) (h : IsRef w g b u) :
    Calls Try.prog 18 #[.pointer (some ⟨g, 0, none⟩)] w fun e w' => e = .returned (.int .i64 (free u : Int)) ∧ w = w' := by
  have H := Asd.mk h
  obtain ⟨⟨c, hg⟩, ⟨cur, hb, hrow⟩, hne, hlen⟩ := h
  have c0 := (blk_cell hg 0).trans rfl
  clear hg hb hrow
  go_enter Try.func18, Try.ntmps18
  go_wp2
  go_loop [3, 4] (fun q i => ∃ k f : Nat, k ≤ u.length ∧ f ≤ k ∧ Asd (f = free (u.take k)) ∧ i = .int .i64 (k : Int) ∧ q = .int .i64 (f : Int)) (fun _ i => u.length - (intOf i).toNat)
  case atStart => exact ⟨0, 0, by omega, by omega, ⟨by simp [free]⟩, rfl, rfl⟩
  case round =>
    obtain ⟨k, f, hk, hf, HF, rfl, rfl⟩ := hrel
    by_cases he : k < u.length
    · have HS := Asd.mk (free_take_snoc u k he)
      cases hv : isFree u (k : Int) with
      | true =>
        have HV := Asd.mk hv
        clear hv
        go_wp2_with (go_at_call 19; refine (rfree_calls _ _ _ _ _ H.out).mono ?_; rintro e w' ⟨rfl, rfl⟩; rw [HV.out])
        go_round
        case rel => exact ⟨k + 1, f + 1, by omega, by omega, ⟨by rw [HS.out, HV.out, HF.out]; rfl⟩, by go_num, by go_num⟩
        case measure => simp [intOf]; omega
      | false =>
        have HV := Asd.mk hv
        clear hv
        go_wp2_with (go_at_call 19; refine (rfree_calls _ _ _ _ _ H.out).mono ?_; rintro e w' ⟨rfl, rfl⟩; rw [HV.out])
        go_round
        case rel => exact ⟨k + 1, f, by omega, by omega, ⟨by rw [HS.out, HV.out, HF.out]; rfl⟩, by go_num, rfl⟩
        case measure => simp [intOf]; omega
    · go_wp2
      go_ret
      refine ⟨ret_eq ?_, rfl⟩
      have : u.take k = u := List.take_of_length_le (by omega)
      rw [HF.out, this]; rfl

theorem IsInts.fr' {w w' : World} {S : Nat → Prop} {A : Option Addr} {n : Nat} {xs : List Int} (h : IsInts w A n xs) (hf : Fr S w w') (hs : ∀ a, A = some a → 0 < n → ¬ S a.block) : IsInts w' A n xs := by
  refine ⟨h.1, h.2.1, fun hn => ?_⟩
  obtain ⟨b, o, rfl, hc⟩ := h.2.2 hn
  refine ⟨b, o, rfl, fun j hj => ?_⟩
  rw [← hc j hj]
  have hlt : b < w.heap.size := World.block_lt_of_cell? w _ (hc j hj)
  exact World.cell?_of_block (w := w) (a := ⟨b, o + j, none⟩) (hf.block b hlt (hs _ rfl hn))

/-! ### Only -/
theorem decide_inSet (k : Nat) (n : Int) : decide (2 ≤ n ∧ n < (k : Int)) = inSet k n := rfl

set_option maxHeartbeats 800000 in
theorem ronly_no (g b : Nat) (u : List Bool) (A : Option Addr) (n c q : Nat) (xs : List Int) (w : World) (h : IsRef w g b u) (hx : IsInts w A n xs) (hq : q < n) (hno : inSet u.length (xs.getD q 0) = false) (hbf : ∀ j, j < q → inSet u.length (xs.getD j 0) = true) :
    Calls Try.prog 16 #[.pointer (some ⟨g, 0, none⟩), .slice A n c] w fun e w' => e = .returned (.int .i64 2) ∧ w = w' := by
  have H := Asd.mk h
  have HX := Asd.mk hx
  have HN := Asd.mk hno
  have HBF := Asd.mk hbf
  have hm := hx.2.1
  unfold maxLen at hm
  clear h hx hno hbf
  go_enter Try.func16, Try.ntmps16
  go_wp2
  go_loop [5] (fun i => ∃ k : Nat, k ≤ q ∧ i = .int .i64 (k : Int)) (fun i => n - (intOf i).toNat)
  case atStart => exact ⟨0, by omega, rfl⟩
  case round =>
    obtain ⟨k, hk, rfl⟩ := hrel
    obtain ⟨bx, ox, rfl, hcx⟩ := HX.out.2.2 (by omega)
    have cx := hcx k (by omega)
    generalize hxk : xs.getD k 0 = x at cx
    by_cases hlt : k < q
    · have HV := Asd.mk (hxk ▸ HBF.out k hlt)
      clear hcx hxk
      go_wp2_with fail
      refine (rhas_calls _ _ _ _ _ H.out).mono ?_
      rintro e w' ⟨rfl, rfl⟩
      rw [decide_inSet, HV.out]
      go_wp2
      go_round
      case rel => exact ⟨k + 1, by omega, by go_num⟩
      case measure => simp [intOf]; omega
    · obtain rfl : q = k := by omega
      have HV := Asd.mk (hxk ▸ HN.out)
      clear hcx hxk
      go_wp2_with fail
      refine (rhas_calls _ _ _ _ _ H.out).mono ?_
      rintro e w' ⟨rfl, rfl⟩
      rw [decide_inSet, HV.out]
      go_wp2
      go_ret
      exact ⟨rfl, rfl⟩

/-- The list while it is cleared: k are false. -/
def clr (u : List Bool) (k : Nat) : List Bool := List.replicate k false ++ u.drop k
theorem clr_length (u : List Bool) (k : Nat) (h : k ≤ u.length) : (clr u k).length = u.length := by simp [clr]; omega
theorem clr_next (u : List Bool) (k : Nat) (h : k < u.length) : (clr u k).set k false = clr u (k + 1) := by
  unfold clr
  rw [List.set_append_right _ _ (by simp), List.length_replicate, Nat.sub_self, List.drop_eq_getElem_cons h, List.set_cons_zero, List.replicate_succ', List.append_assoc]
  rfl

set_option maxHeartbeats 1600000 in
theorem ronly_yes (g b : Nat) (u : List Bool) (A : Option Addr) (n c : Nat) (xs : List Int) (w : World) (h : IsRef w g b u) (hx : IsInts w A n xs) (hsep : ∀ a, A = some a → 0 < n → a.block ≠ b) (hall : ∀ j, j < n → inSet u.length (xs.getD j 0) = true) :
    Calls Try.prog 16 #[.pointer (some ⟨g, 0, none⟩), .slice A n c] w (FitsR g b w (.int .i64 0) (marks u.length xs)) := by
  have H := Asd.mk h
  have HX := Asd.mk hx
  have HALL := Asd.mk hall
  have HSEP := Asd.mk hsep
  have hm := hx.2.1
  have hlen := h.len
  unfold maxLen at hm
  clear h hx hall hsep
  go_enter Try.func16, Try.ntmps16
  go_wp2
  go_loop [5] (fun i => ∃ k : Nat, k ≤ n ∧ i = .int .i64 (k : Int)) (fun i => n - (intOf i).toNat)
  case atStart => exact ⟨0, by omega, rfl⟩
  case round =>
    obtain ⟨k, hk, rfl⟩ := hrel
    by_cases hlt : k < n
    · obtain ⟨bx, ox, rfl, hcx⟩ := HX.out.2.2 (by omega)
      have cx := hcx k (by omega)
      generalize hxk : xs.getD k 0 = x at cx
      have HV := Asd.mk (hxk ▸ HALL.out k hlt)
      clear hcx hxk
      go_wp2_with fail
      refine (rhas_calls _ _ _ _ _ H.out).mono ?_
      rintro e w' ⟨rfl, rfl⟩
      rw [decide_inSet, HV.out]
      go_wp2
      go_round
      case rel => exact ⟨k + 1, by omega, by go_num⟩
      case measure => simp [intOf]; omega
    · go_wp2
      go_loopw [6] (fun i wr => ∃ k : Nat, k ≤ u.length ∧ i = .int .i64 (k : Int) ∧ IsRef wr g b (clr u k) ∧ Fr (fun k => k = b) w wr) (fun i _ => u.length - (intOf i).toNat)
      case atStart => exact ⟨0, by omega, rfl, by simpa [clr] using H.out, Fr.refl _ _⟩
      case round =>
        obtain ⟨k2, hk2, rfl, hr, hf⟩ := hrel
        have HR := Asd.mk hr
        have HF := Asd.mk hf
        have HCL := Asd.mk (clr_length u k2 hk2)
        obtain ⟨⟨c2, hg⟩, ⟨cur, hb, hrow⟩, hne, _⟩ := hr
        rw [HCL.out] at hg
        have c0 := (blk_cell hg 0).trans rfl
        have fb := blk_frozen hb
        by_cases hlt2 : k2 < u.length
        · have ck := cell_row hb hrow k2 (by rw [HCL.out]; exact hlt2)
          have HN := Asd.mk (clr_next u k2 hlt2)
          clear hg hb hrow hf
          go_wp2
          go_roundw
          case rel => exact ⟨k2 + 1, by omega, by go_num, by rw [← HN.out]; exact HR.out.set k2 (by rw [HCL.out]; exact hlt2) false, HF.out.setCell rfl _⟩
          case measure => simp [intOf]; omega
        · have HZ := Asd.mk (show clr u k2 = marks u.length (xs.take 0) by
            have : k2 = u.length := by omega
            subst this
            simp [clr, marks])
          clear hg hb hrow hf
          go_wp2
          clear c0 fb
          go_loopw [7] (fun i wr => ∃ j : Nat, j ≤ n ∧ i = .int .i64 (j : Int) ∧ IsRef wr g b (marks u.length (xs.take j)) ∧ Fr (fun k => k = b) w wr) (fun i _ => n - (intOf i).toNat)
          case atStart => exact ⟨0, by omega, rfl, HZ.out ▸ HR.out, HF.out⟩
          case round =>
            obtain ⟨j, hj, rfl, hr3, hf3⟩ := hrel
            have HR3 := Asd.mk hr3
            have HF3 := Asd.mk hf3
            by_cases hlt3 : j < n
            · obtain ⟨⟨c3, hg⟩, ⟨cur3, hb, hrow⟩, _, _⟩ := hr3
              obtain ⟨bx, ox, rfl, hcx⟩ := (HX.out.fr' hf3 (fun a ha hp => HSEP.out a ha hp)).2.2 (by omega)
              have cx := hcx j hlt3
              have hin := HALL.out j hlt3
              have hts := Asd.mk (take_snoc_int xs j (by have := HX.out.1; omega))
              generalize xs.getD j 0 = x at cx hin hts
              simp only [inSet, decide_eq_true_eq] at hin
              obtain ⟨m, rfl⟩ := Int.eq_ofNat_of_zero_le (show 0 ≤ x by omega)
              have hmu : m < u.length := by omega
              have HNX := Asd.mk (show marks u.length (xs.take (j + 1)) = (marks u.length (xs.take j)).set m true by rw [hts.out, marks_snoc]; simp)
              have hml : m < (marks u.length (List.take j xs)).length := by rw [marks_length]; exact hmu
              have c0 := (blk_cell hg 0).trans rfl
              have fb := blk_frozen hb
              have cm := cell_row hb hrow m hml
              have HST := Asd.mk (HR3.out.set m hml true)
              generalize hG : marks u.length (List.take j xs) = G at *
              clear hg hb hrow hf3 hcx hts hin hG
              go_wp2
              go_region
              go_wp2
              go_roundw
              case rel => exact ⟨j + 1, by omega, by go_num, by rw [HNX.out]; exact HST.out.drew, (HF3.out.setCell rfl _).drew⟩
              case measure => simp [intOf]; omega
            · have hjn : xs.take j = xs := List.take_of_length_le (by have := HX.out.1; omega)
              rw [hjn] at hr3
              have HE := Asd.mk hr3
              clear hr3 hf3 hjn
              go_wp2
              go_ret
              exact ⟨rfl, HE.out, HF3.out⟩
end Go.Proofs.Ytblbdgdjnnjdjaa.Fre
