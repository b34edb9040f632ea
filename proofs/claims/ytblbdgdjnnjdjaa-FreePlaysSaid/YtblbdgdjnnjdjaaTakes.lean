/- FreeTakes, FreeClones: the walk of 'works' and of the two laws. -/
import Derived.Test.YtblbdgdjnnjdjaaOnly
import Derived.Laws.OwnMore
set_option linter.unusedVariables false
set_option linter.unusedSimpArgs false
namespace Go.Proofs.Ytblbdgdjnnjdjaa.Fre
open Go.RowKit Go.Proofs.Ytblbdgdjnnjdjaa.Base
attribute [local go_sem] max2_int min2_int

theorem IsSet.fr {w w' : World} {S : Nat → Prop} {g b : Nat} {u : List Bool} {left least : Nat} (h : IsSet w g b u left least) (hf : Fr S w w') (h1 : ¬ S g) (h2 : ¬ S b) : IsSet w' g b u left least := by
  obtain ⟨⟨c, hg⟩, ⟨cur, hb, hrow⟩, hne, hlen, hl4, hm4⟩ := h
  exact ⟨⟨c, blk_fr hg hf h1⟩, ⟨cur, blk_fr hb hf h2, hrow⟩, hne, hlen, hl4, hm4⟩
theorem IsSet.alloc {w : World} {g b : Nat} {u : List Bool} {left least : Nat} (h : IsSet w g b u left least) (o : Obj) : IsSet (w.alloc o) g b u left least :=
  h.fr ((Fr.refl (fun _ => False) w).alloc o) (by simp) (by simp)
theorem IsInts.one (w : World) (x : Int) : IsInts (w.alloc (.cells #[.int .i64 x] 3)) (some ⟨w.heap.size, 0, none⟩) 1 [x] :=
  ⟨rfl, by decide, fun _ => ⟨_, _, rfl, fun j hj => by
    obtain rfl : j = 0 := by omega
    rw [blk_cell (blk_new w _)]; rfl⟩⟩
theorem IsSet.lt {w : World} {g b : Nat} {u : List Bool} {left least : Nat} (h : IsSet w g b u left least) : g < w.heap.size ∧ b < w.heap.size := by
  obtain ⟨⟨c, hg⟩, ⟨cur, hb, hrow⟩, _⟩ := h
  exact ⟨blk_lt hg, blk_lt hb⟩
/-- What turns a new set and what it leads to turns nothing old. -/
theorem new_below {w w1 w2 : World} {g b : Nat} (h : Below w.heap.size w w1) (hf : Fr (Only2 g b) w1 w2) (hg : w.heap.size ≤ g) (hb : w.heap.size ≤ b) : Below w.heap.size w w2 :=
  ((Fr.of_below (S := fun k => w.heap.size ≤ k) h).trans hf (U := fun k => w.heap.size ≤ k) (fun k hk _ => hk) (fun k hk _ => by rcases hk with rfl | rfl <;> assumption)).below (fun k hk => hk)

/-- True, and nothing old has turned. -/
def Yes (w : World) (e : Ending) (w' : World) : Prop := e = .returned (.bool true) ∧ Below w.heap.size w w'

set_option maxHeartbeats 1600000 in
theorem works_calls (w : World) : Calls Try.prog 6 #[] w (Yes w) := by
  go_enter Try.func6, Try.ntmps6
  go_wp2_with fail
  refine (new_calls 5 5 _ (by omega)).mono ?_
  rintro e w1 ⟨g, b, rfl, hset, hbel, hg, hb⟩
  have HS1 := Asd.mk hset
  have HB1 := Asd.mk hbel
  clear hset hbel
  go_wp2_with fail
  refine (left_calls _ _ _ _ _ _ HS1.out).mono ?_
  rintro e w' ⟨rfl, rfl⟩
  go_wp2_with fail
  refine (take_yes g b _ 2 2 2 _ HS1.out (by omega) (by simp) (by decide) (fun k h1 h2 => by omega)).mono ?_
  rintro e w2 ⟨rfl, hset, hfr⟩
  have HS2 := Asd.mk hset
  have HF2 := Asd.mk hfr
  clear hset hfr
  go_wp2_with fail
  refine (free_calls _ _ _ _ _ _ _ HS2.out).mono ?_
  rintro e w' ⟨rfl, rfl⟩
  go_wp2_with fail
  refine (give_yes g b _ 2 3 2 _ HS2.out (by omega) (by omega) (by simp) (by decide)).mono ?_
  rintro e w3 ⟨rfl, hset, hfr⟩
  have HS3 := Asd.mk hset
  have HF3 := Asd.mk hfr
  clear hset hfr
  go_wp2_with fail
  refine (only_no g b _ 3 2 _ 1 1 [1] _ (HS3.out.alloc _) (IsInts.one _ _) (by decide)).mono ?_
  rintro e w4 ⟨rfl, hfr⟩
  have HF4 := Asd.mk hfr
  clear hfr
  go_wp2
  go_ret
  refine ⟨rfl, ?_⟩
  have h3 := new_below (new_below HB1.out HF2.out hg hb) HF3.out hg hb
  exact ((((Fr.of_below (S := fun _ => False) h3).alloc (.cells #[.int .i64 1] 3)).trans HF4.out (U := fun _ => False) (by simp) (by simp))).below (by simp)

/-! ### The plain facts -/
theorem exists_first (u : List Bool) (least : Nat) (h : free u ≠ 0) (hl : ∀ k, 2 ≤ k → k < least → u.getD k false = true) (h2 : 2 ≤ least) :
    ∃ n, least ≤ n ∧ n < u.length ∧ u.getD n false = false ∧ ∀ k, least ≤ k → k < n → u.getD k false = true := by
  have hmem : false ∈ u.drop 2 := List.count_pos_iff.1 (by unfold free at h; omega)
  obtain ⟨q, hq, hqv⟩ := List.getElem_of_mem hmem
  have hex : ∃ n, 2 ≤ n ∧ n < u.length ∧ u.getD n false = false := by
    rw [List.getElem_drop] at hqv
    simp at hq
    exact ⟨2 + q, by omega, by omega, by simpa [List.getD, show 2 + q < u.length by omega] using hqv⟩
  clear hq hqv hmem
  obtain ⟨n, h1, h3, h4⟩ := hex
  induction n using Nat.strongRecOn with
  | _ n ih =>
    by_cases hs : ∃ k, least ≤ k ∧ k < n ∧ u.getD k false = false
    · obtain ⟨k, hk1, hk2, hk3⟩ := hs
      exact ih k hk2 (by omega) (by omega) hk3
    · refine ⟨n, ?_, h3, h4, fun k hk1 hk2 => ?_⟩
      · rcases Nat.lt_or_ge n least with hlt | hge
        · rw [hl n h1 hlt] at h4; cases h4
        · exact hge
      · cases hv : u.getD k false with
        | true => rfl
        | false => exact absurd ⟨k, hk1, hk2, hv⟩ hs
theorem all_used (u : List Bool) (h : free u = 0) (k : Nat) (h2 : 2 ≤ k) (hk : k < u.length) : u.getD k false = true := by
  cases hv : u.getD k false with
  | true => rfl
  | false => have := free_take u k h2 hk hv; omega

def nums (xs : List Int) : List Value := xs.map fun x => .int .i64 x
theorem info3 : (Try.prog.info? 3).map (fun i => (i.zero, i.size, i.bytes)) = some (some (.int .i64 0), 1, 8) := by kernel_rfl
theorem u64_range (x : Int) : 0 ≤ IntKind.u64.wrap x ∧ IntKind.u64.wrap x < 18446744073709551616 := by
  simp [IntKind.wrap, IntKind.bits, IntKind.signed]; omega
theorem mod_form (x : Int) (m : Nat) (h : 0 < m) (hm : m ≤ 4096) : ∃ p : Nat, wrap64 ((IntKind.u64.wrap x).tmod (m : Int)) = p ∧ p < m := by
  have := u64_range x
  have e : (IntKind.u64.wrap x).tmod (m : Int) = (IntKind.u64.wrap x) % (m : Int) := Int.tmod_eq_emod_of_nonneg this.1
  have h0 := Int.emod_nonneg (IntKind.u64.wrap x) (show (m : Int) ≠ 0 by omega)
  have h1 := Int.emod_lt_of_pos (IntKind.u64.wrap x) (show (0 : Int) < m by omega)
  refine ⟨((IntKind.u64.wrap x) % (m : Int)).toNat, ?_, by omega⟩
  rw [e, IntWalk.wrap64_in _ (by omega)]
  omega
theorem mod_form2 (x : Int) (p : Nat) (h : 2 < p) (hm : p ≤ 4096) : ∃ q : Nat, wrap64 ((IntKind.u64.wrap x).tmod ((p : Int) - 2)) = q ∧ q + 2 < p := by
  obtain ⟨q, hq, hq2⟩ := mod_form x (p - 2) (by omega) (by omega)
  exact ⟨q, by rw [← hq]; congr 2; omega, by omega⟩
theorem mod_form200 (x : Int) : ∃ p : Nat, wrap64 ((IntKind.u64.wrap x).tmod 200) = p ∧ p < 200 := mod_form x 200 (by omega) (by omega)
theorem IsInts.below {w w' : World} {A : Option Addr} {n : Nat} {xs : List Int} (h : IsInts w A n xs) (hb : Below w.heap.size w w') : IsInts w' A n xs := by
  refine ⟨h.1, h.2.1, fun hn => ?_⟩
  obtain ⟨b, o, rfl, hc⟩ := h.2.2 hn
  exact ⟨b, o, rfl, fun j hj => (hb.cell (World.block_lt_of_cell? w _ (hc j hj))).trans (hc j hj)⟩
theorem below3 {w w1 w2 : World} (h : Below w.heap.size w w1) (k : Below w1.heap.size w1 w2) : Below w.heap.size w w2 := h.trans (k.mono h.size)
/-- The row of the numbers gathered so far. -/
structure Row (B p : Nat) (w wr : World) (v : Value) (k : Nat) (xs : List Int) : Prop where
  own : wr.ownsRow B 3 1 v xs.length (nums xs)
  rng : ∀ x ∈ xs, 2 ≤ x ∧ x < p
  len : xs.length ≤ k
  below : Below B w wr

theorem Row.start (p : Nat) (w : World) : Row w.heap.size p w w (.slice none 0 0) 0 [] := ⟨World.ownsRow_nil _ _ _ _, by simp, by simp, Below.refl _ _⟩
theorem Row.next {B p : Nat} {w wr w' : World} {v v' : Value} {k : Nat} {xs : List Int} (h : Row B p w wr v k xs) (x : Int) (hx : 2 ≤ x ∧ x < p) (hB : B ≤ wr.heap.size)
    (hown : w'.ownsRow B 3 1 v' (xs.length + 1) (nums xs ++ [.int .i64 x])) (hgr : (wr.alloc (.cells #[.int .i64 x] 3)).grownBy w' v.ownBlock) : Row B p w w' v' (k + 1) (xs ++ [x]) := by
  refine ⟨by simpa [nums] using hown, fun y hy => ?_, by have := h.len; simp; omega, ?_⟩
  · rcases List.mem_append.1 hy with hy | hy
    · exact h.rng y hy
    · obtain rfl : y = x := by simpa using hy
      exact hx
  · exact (h.below.alloc hB _).grown hgr (by simp; omega) (fun j hj => (h.own.lt j hj).1)
theorem Row.stay {B p : Nat} {w wr : World} {v : Value} {k : Nat} {xs : List Int} (h : Row B p w wr v k xs) : Row B p w wr v (k + 1) xs := ⟨h.own, h.rng, by have := h.len; omega, h.below⟩

theorem Row.ints {B p : Nat} {w wr : World} {v : Value} {k : Nat} {xs : List Int} (h : Row B p w wr v k xs) (hk : k ≤ 100) : ∃ A c, v = .slice A xs.length c ∧ IsInts wr A xs.length xs ∧ ∀ a, A = some a → B ≤ a.block := by
  have hl := h.len
  rcases h.own with ⟨_, ⟨rfl, h0⟩ | ⟨g, cap, cur, rfl, hb, hh, _, _, hsz, ht⟩⟩
  · refine ⟨none, 0, by rw [h0], ⟨rfl, by unfold maxLen; omega, fun hn => by omega⟩, by simp⟩
  · refine ⟨_, cap, rfl, ⟨rfl, by unfold maxLen; omega, fun hn => ⟨g, 0, rfl, fun j hj => ?_⟩⟩, fun a ha => by simp at ha; subst ha; exact hb⟩
    rw [Nat.zero_add, blk_cell hh]
    have : (cur.toList.take (xs.length * 1))[j]? = (nums xs)[j]? := by rw [ht]
    rw [List.getElem?_take, if_pos (by omega), Array.getElem?_toList] at this
    rw [this]
    simp [nums, List.getD, hj]
theorem Row.all {B p : Nat} {w wr : World} {v : Value} {k : Nat} {xs : List Int} (h : Row B p w wr v k xs) (m : Nat) (hm : p ≤ m) : xs.all (inSet m) = true := by
  rw [List.all_eq_true]
  intro x hx
  have := h.rng x hx
  simp [inSet]; omega

theorem marks_mem (k : Nat) (xs : List Int) (h : ∀ x ∈ xs, 2 ≤ x ∧ x < k) (x : Int) (hx : x ∈ xs) : (marks k xs).getD x.toNat false = true := by
  unfold marks
  have keep : ∀ (ys : List Int) (u : List Bool) (n : Nat), u.getD n false = true → (ys.foldl (fun u x => u.set x.toNat true) u).getD n false = true := by
    intro ys
    induction ys with
    | nil => intro u n hu; exact hu
    | cons y ys ih =>
      intro u n hu
      refine ih _ n ?_
      by_cases hn : n < u.length
      · simp only [List.getD, List.getElem?_set] at hu ⊢
        split <;> simp_all
      · simp [List.getD, hn] at hu
  have main : ∀ (ys : List Int) (u : List Bool), u.length = k → (∀ y ∈ ys, 2 ≤ y ∧ y < k) → x ∈ ys → (ys.foldl (fun u x => u.set x.toNat true) u).getD x.toNat false = true := by
    intro ys
    induction ys with
    | nil => intro u _ _ hx; cases hx
    | cons y ys ih =>
      intro u hu hy hx
      rcases List.mem_cons.1 hx with rfl | hx
      · refine keep ys _ _ ?_
        have := hy x (by simp)
        simp [List.getD, List.getElem?_set, show x.toNat < u.length by omega]
      · exact ih _ (by simpa using hu) (fun z hz => hy z (by simp [hz])) hx
  exact main xs _ (by simp) h hx

/-- Where the taking loop stands. -/
structure Taking (g b L : Nat) (M : List Bool) (w3 wr : World) (j last : Nat) (u : List Bool) : Prop where
  set : IsSet wr g b u (L - j) (last + 1)
  len : u.length = M.length
  fr : free u = L - j
  low : ∀ k, 2 ≤ k → k < last + 1 → u.getD k false = true
  keep : ∀ k, M.getD k false = true → u.getD k false = true
  frm : Fr (Only2 g b) w3 wr
  pos : 1 ≤ last
  le : j ≤ L

theorem Taking.step {g b L : Nat} {M : List Bool} {w3 wr : World} {j last : Nat} {u : List Bool} (h : Taking g b L M w3 wr j last u) (hj : j < L) :
    ∃ n l, L - j = l + 1 ∧ l = L - (j + 1) ∧ last + 1 ≤ n ∧ n < u.length ∧ u.getD n false = false ∧ (∀ k, last + 1 ≤ k → k < n → u.getD k false = true) ∧ IsSet wr g b u (l + 1) (last + 1) ∧
      M.getD n false = false ∧ ∀ w', IsSet w' g b (u.set n true) l (n + 1) → Fr (Only2 g b) wr w' → Taking g b L M w3 w' (j + 1) n (u.set n true) := by
  have hp := h.pos
  obtain ⟨n, h1, h2, h3, h4⟩ := exists_first u (last + 1) (by rw [h.fr]; omega) h.low (by omega)
  have hl : L - j = (L - (j + 1)) + 1 := by omega
  refine ⟨n, L - (j + 1), hl, rfl, h1, h2, h3, h4, hl ▸ h.set, ?_, fun w' hs hf => ⟨hs, by simpa using h.len, ?_, fun k hk1 hk2 => ?_, fun k hk => ?_, h.frm.trans hf (fun k hk _ => hk) (fun k hk _ => hk), by omega, by omega⟩⟩
  · cases hv : M.getD n false with
    | false => rfl
    | true => rw [h.keep n hv] at h3; cases h3
  · have := free_take u n (by omega) h2 h3
    have := h.fr
    omega
  · simp only [List.getD, List.getElem?_set]
    by_cases hkn : n = k
    · subst hkn; simp [h2]
    · rw [if_neg hkn]
      by_cases hkl : k < last + 1
      · exact h.low k hk1 hkl
      · exact h4 k (by omega) (by omega)
  · simp only [List.getD, List.getElem?_set]
    by_cases hkn : n = k
    · subst hkn; simp [h2]
    · rw [if_neg hkn]; exact h.keep k hk

/-- Where the giving loop stands: all below j - 1 are given. -/
structure Giving (g b n : Nat) (w3 wr : World) (j given : Nat) (u : List Bool) : Prop where
  set : ∃ least, IsSet wr g b u given least
  len : u.length = n
  fr : free u = given
  val : ∀ k, 2 ≤ k → k < n → u.getD k false = decide (j ≤ k + 1)
  cnt : given = min (j - 3) (n - 2)
  frm : Fr (Only2 g b) w3 wr

theorem Giving.yes {g b n : Nat} {w3 wr : World} {j given : Nat} {u : List Bool} (h : Giving g b n w3 wr j given u) (hj : 3 ≤ j) (hn : j - 1 < n) (hn4 : n ≤ 4096) :
    u.getD (j - 1) false = true ∧ given < 4096 ∧ ∀ w' least, IsSet w' g b (u.set (j - 1) false) (given + 1) least → Fr (Only2 g b) wr w' → Giving g b n w3 w' (j + 1) (given + 1) (u.set (j - 1) false) := by
  have hv : u.getD (j - 1) false = true := by rw [h.val (j - 1) (by omega) hn]; simp; omega
  have hl := h.len
  have hg := free_give u (j - 1) (by omega) (by omega) hv
  have hle := free_le (u.set (j - 1) false)
  have hf := h.fr
  have hc := h.cnt
  simp at hle
  refine ⟨hv, by omega, fun w' least hs hfr => ⟨⟨least, hs⟩, by simpa using hl, by omega, fun k hk1 hk2 => ?_, by omega, h.frm.trans hfr (fun k hk _ => hk) (fun k hk _ => hk)⟩⟩
  simp only [List.getD, List.getElem?_set]
  by_cases hkn : j - 1 = k
  · subst hkn; simp [hl, hn]; omega
  · rw [if_neg hkn]
    have := h.val k hk1 hk2
    simp only [List.getD] at this
    rw [this]; simp; omega
theorem Giving.no {g b n : Nat} {w3 wr : World} {j given : Nat} {u : List Bool} (h : Giving g b n w3 wr j given u) (hj : ¬ (3 ≤ j ∧ j - 1 < n)) : Giving g b n w3 wr (j + 1) given u := by
  refine ⟨h.set, h.len, h.fr, fun k hk1 hk2 => ?_, ?_, h.frm⟩
  · rw [h.val k hk1 hk2]; simp; omega
  · have := h.cnt; omega

theorem Giving.drewN {g b n : Nat} {w3 wr : World} {j given : Nat} {u : List Bool} (h : Giving g b n w3 wr j given u) (m : Nat) : Giving g b n w3 (wr.drewN m) j given u :=
  ⟨by obtain ⟨l, hl⟩ := h.set; exact ⟨l, hl.drewN m⟩, h.len, h.fr, h.val, h.cnt, h.frm.drewN m⟩

/-! ### FreeTakes -/
set_option maxHeartbeats 1600000 in
theorem takes_walk (a0 : Int) (a1 : Option Addr) (len1 cap1 : Nat) (z1 : List Int) (w : World) (h1 : IsInts w a1 len1 z1) :
    Calls Try.prog 3 #[.int .i64 a0, .slice a1 len1 cap1] w (Yes w) := by
  have hm := h1.2.1
  unfold maxLen at hm
  have H1 := Asd.mk h1
  clear h1
  go_enter Try.func3, Try.ntmps3
  go_wp2_with fail
  refine (works_calls _).mono ?_
  rintro e w1 ⟨rfl, hbel⟩
  have HB1 := Asd.mk hbel
  clear hbel
  obtain ⟨p, hp, hp2⟩ := mod_form200 a0
  go_wp2_with fail
  rw [hp]
  clear hp
  refine (new_calls p (max 2 p) _ (by omega)).mono ?_
  rintro e w2 ⟨g, b, rfl, hset, hbel, hg, hb⟩
  have HS2 := Asd.mk hset
  have HB2 := Asd.mk hbel
  have HLT := Asd.mk hset.lt
  clear hset hbel
  obtain ⟨i0, hi, hz0, hz1, hz2⟩ := info_parts info3
  go_wp2
  go_loopw [6, 7] (fun v i wr => ∃ (k : Nat) (xs : List Int), k ≤ len1 ∧ k ≤ 100 ∧ i = .int .i64 (k : Int) ∧ Row w2.heap.size p w2 wr v k xs) (fun _ i _ => len1 - (intOf i).toNat)
  case atStart => exact ⟨0, [], by omega, by omega, rfl, Row.start p w2⟩
  case round =>
    obtain ⟨k, xs, hk, hk1, rfl, hrow⟩ := hrel
    have HR := Asd.mk hrow
    clear hrow
    by_cases hlt : k < len1 ∧ k < 100
    · obtain ⟨hlt, hlt2⟩ := hlt
      have hx := H1.out.below (below3 (below3 HB1.out HB2.out) HR.out.below)
      obtain ⟨bx, ox, rfl, hcx⟩ := hx.2.2 (by omega)
      have cx := hcx k hlt
      generalize z1.getD k 0 = x at cx
      clear hx hcx
      by_cases hp3 : 2 < p
      · obtain ⟨q, hq, hq2⟩ := mod_form2 x p hp3 (by omega)
        have HOWN := Asd.mk (HR.out.own.alloc (.cells #[.int .i64 (2 + (q : Int))] 3))
        have HLE := Asd.mk HR.out.len
        go_wp2_with (at_builtin; refine wpList_append_own _ rfl (.tmp 38) (.tmp 50) 22 rfl w2.heap.size 3 i0 (.int .i64 0) 1 8 Try.underlying22 hi hz0 hz1 hz2 rfl (by decide) _ _ _ rfl HOWN.out ⟨wr.heap.size, 0, none⟩ 1 1 [.int .i64 (2 + (q : Int))] rfl rfl ?c1 ?c2 ?c3 ?c4 ?c5 ?_)
        case c1 =>
          intro j u hj
          match j, hj with
          | 0, hj => simp at hj; subst hj; simp [Addr.add]
        case c2 => intro u hu; simp at hu; subst hu; rfl
        case c3 => have := HLE.out; unfold maxLen; omega
        case c4 => have := HLE.out; omega
        case c5 => have := HR.out.below.size; simp; omega
        · intro v' w' hown' hgr _
          have HN := Asd.mk (HR.out.next (2 + (q : Int)) (by omega) HR.out.below.size hown' hgr)
          clear hown' hgr hq
          go_wp2
          go_roundw
          case rel => exact ⟨k + 1, _, by omega, by omega, by go_num, HN.out⟩
          case measure => simp [intOf]; omega
      · go_wp2
        go_roundw
        case rel => exact ⟨k + 1, xs, by omega, by omega, by go_num, HR.out.stay⟩
        case measure => simp [intOf]; omega
    · have hx : ¬ k < len1 ∨ (k < len1 ∧ ¬ k < 100) := by omega
      clear hlt
      rcases hx with hx | ⟨hx, hx2⟩
      all_goals
        obtain ⟨A, cc, rfl, hints, hA⟩ := HR.out.ints hk1
        have HI := Asd.mk hints
        have HAA := Asd.mk hA
        have HS3 := Asd.mk (HS2.out.fr (Fr.of_below (S := fun k => w2.heap.size ≤ k) (HR.out.below)) (by have := HLT.out; simp; omega) (by have := HLT.out; simp; omega))
        have hlen : (List.replicate (max 2 p) false).length = max 2 p := by simp
        have HALL := Asd.mk (HR.out.all (max 2 p) (by omega))
        have HRNG := Asd.mk HR.out.rng
        have HBR := Asd.mk (below3 (below3 HB1.out HB2.out) HR.out.below)
        have hln : xs.length ≤ 100 := by have := HR.out.len; omega
        have hgr : w.heap.size ≤ g ∧ w.heap.size ≤ b := by have := HB1.out.size; omega
        have HONLY := Asd.mk (only_yes g b _ _ _ A xs.length cc xs wr HS3.out HI.out (by rw [hlen]; omega) (fun a ha => by have := HAA.out a ha; have := HLT.out; omega) (by rw [hlen]; exact HALL.out))
        rw [hlen] at HONLY
        clear HS2 HB1 HB2 HR hlen H1
        go_wp2_with fail
        refine HONLY.out.mono ?_
        rintro e w3 ⟨rfl, hset, hfr⟩
        have hML := marks_length (max 2 p) xs
        have HMEM := Asd.mk (marks_mem (max 2 p) xs (fun x hx => by have := HRNG.out x hx; omega))
        have HI3 := Asd.mk (HI.out.fr hfr (fun a ha => by have := HAA.out a ha; have := HLT.out; simp only [Only2]; omega))
        have HSET := Asd.mk hset
        have HFR := Asd.mk hfr
        generalize hM : marks (max 2 p) xs = M at hML HMEM HSET
        clear hset hfr HONLY HS3 HALL HI hM HRNG
        have HMD := Asd.mk hML
        clear hML
        go_wp2_with fail
        refine (left_calls _ _ _ _ _ _ HSET.out).mono ?_
        rintro e w' ⟨rfl, rfl⟩
        have hfl : free M ≤ 4096 := HSET.out.left4
        generalize hL : free M = L at hfl HSET
        have HFM := Asd.mk hL
        clear hL
        go_wp2
        go_loopw [9, 10] (fun la i wr => ∃ (j last : Nat) (u : List Bool), i = .int .i64 (j : Int) ∧ la = .int .i64 (last : Int) ∧ Taking g b L M w3 wr j last u) (fun _ i _ => L - (intOf i).toNat)
        case atStart => exact ⟨0, 1, M, rfl, rfl, ⟨HSET.out, rfl, HFM.out, fun k h1 h2 => by omega, fun k hk => hk, Fr.refl _ _, by omega, by omega⟩⟩
        case round =>
          obtain ⟨j, last, u, rfl, rfl, htk⟩ := hrel
          have hjl := htk.le
          have HT := Asd.mk htk
          clear htk
          by_cases hlt : j < L
          · obtain ⟨n, l, e1, e2, h1, h2, h3, h4, hset, hmn, hnext⟩ := HT.out.step hlt
            have HTY := Asd.mk (take_yes g b u l (last + 1) n _ hset h1 h2 h3 h4)
            have HNX := Asd.mk hnext
            have hul : u.length = max 2 p := by rw [HT.out.len, HMD.out]
            have hnp : n < p := by have := HT.out.pos; omega
            have hposl := HT.out.pos
            have HNOT : Asd (∀ k, k < xs.length → xs.getD k 0 ≠ (n : Int)) := Asd.mk (fun k hk he => by
              have := HMEM.out (xs.getD k 0) (by simp [List.getD, hk])
              rw [he] at this
              simp only [Int.toNat_natCast] at this
              rw [hmn] at this; cases this)
            clear hset hnext h3 h4 e1 e2 hul h2 hmn
            go_wp2_with fail
            refine HTY.out.mono ?_
            rintro e w4 ⟨rfl, hset4, hfr4⟩
            have HS4 := Asd.mk hset4
            have HF4 := Asd.mk hfr4
            clear hset4 hfr4 HTY
            go_wp2_with fail
            refine (free_calls _ _ _ _ _ _ _ HS4.out).mono ?_
            rintro e w' ⟨rfl, rfl⟩
            have hfv : (decide (2 ≤ (n : Int) ∧ (n : Int) < (u.set n true).length) && !(u.set n true).getD (n : Int).toNat false) = false := by
              have : n < u.length := by rw [HT.out.len, HMD.out]; omega
              simp [List.getD, this]
            rw [hfv]
            have hI4 := HI3.out.fr (Fr.trans HT.out.frm HF4.out (U := Only2 g b) (fun k hk _ => hk) (fun k hk _ => hk)) (fun a ha => by have := HAA.out a ha; have := HLT.out; simp only [Only2]; omega)
            have HI4 := Asd.mk hI4
            clear hI4 hfv
            go_wp2
            go_loop [13] (fun i => ∃ q : Nat, q ≤ xs.length ∧ i = .int .i64 (q : Int)) (fun i => xs.length - (intOf i).toNat)
            case atStart => exact ⟨0, by omega, rfl⟩
            case round =>
              obtain ⟨q, hq, rfl⟩ := hrel
              by_cases hq2 : q < xs.length
              · obtain ⟨bx, ox, rfl, hcx⟩ := HI4.out.2.2 (by omega)
                have cx := hcx q hq2
                have hne := HNOT.out q hq2
                generalize xs.getD q 0 = x at cx hne
                have hnb : (x == (n : Int)) = false := beq_eq_false_iff_ne.2 hne
                clear hcx hne
                go_wp2
                go_round
                case rel => exact ⟨q + 1, by omega, by go_num⟩
                case measure => simp [intOf]; omega
              · go_wp2
                go_roundw
                case rel => exact ⟨j + 1, n, u.set n true, by go_num, rfl, HNX.out _ HS4.out HF4.out⟩
                case measure => simp [intOf]; omega
          · have hjL : L - j = 0 := by omega
            have HTN := Asd.mk (take_no g b u (L - j) (last + 1) _ HT.out.set (fun k h1 h2 => all_used u (by rw [HT.out.fr]; exact hjL) k (by have := HT.out.pos; omega) h2))
            have HG : Asd (Giving g b (max 2 p) w3 (wr) 0 0 u) := Asd.mk ⟨⟨_, hjL ▸ HT.out.set⟩, by rw [HT.out.len, HMD.out], by rw [HT.out.fr, hjL], fun k h1 h2 => by rw [all_used u (by rw [HT.out.fr]; exact hjL) k h1 (by rw [HT.out.len, HMD.out]; exact h2)]; simp, by omega, HT.out.frm⟩
            have HSL := Asd.mk HT.out.set
            rw [hjL] at HSL
            go_wp2_with fail
            refine HTN.out.mono ?_
            rintro e w5 ⟨rfl, m, rfl⟩
            go_wp2_with fail
            refine (left_calls _ _ _ _ _ _ (HSL.out.drewN m)).mono ?_
            rintro e w' ⟨rfl, rfl⟩
            go_wp2
            go_loopw [16, 17] (fun gi n wr5 => ∃ (j given : Nat) (u : List Bool), j ≤ p + 2 ∧ n = .int .i64 ((j : Int) - 1) ∧ gi = .int .i64 (given : Int) ∧ Giving g b (max 2 p) w3 wr5 j given u) (fun _ n _ => p + 2 - (intOf n + 1).toNat)
            case atStart => exact ⟨0, 0, u, by omega, by go_num, rfl, HG.out.drewN m⟩
            case round =>
              obtain ⟨j, given, u', hj, rfl, rfl, hgv⟩ := hrel
              have HGV := Asd.mk hgv
              have HGC := Asd.mk hgv.cnt
              obtain ⟨least, hset⟩ := hgv.set
              have HS := Asd.mk hset
              have HUL := Asd.mk hgv.len
              clear hgv hset
              by_cases hjp : j ≤ p + 1
              · by_cases hyes : 3 ≤ j ∧ j - 1 < max 2 p
                · obtain ⟨y1, y2⟩ := hyes
                  obtain ⟨hv, hlt4, hnx⟩ := HGV.out.yes y1 y2 (by omega)
                  have HNX := Asd.mk hnx
                  obtain ⟨q, rfl⟩ : ∃ q, j = q + 1 := ⟨j - 1, by omega⟩
                  have HGY := Asd.mk (give_yes g b u' given least q _ HS.out hlt4 (by omega) (by rw [HUL.out]; omega) hv)
                  have eq1 : (((q + 1 : Nat) : Int) - 1) = (q : Int) := by omega
                  clear hv hnx
                  rw [eq1]
                  go_wp2_with fail
                  refine HGY.out.mono ?_
                  rintro e w6 ⟨rfl, hset6, hfr6⟩
                  have HD := Asd.mk (HNX.out _ _ hset6 hfr6)
                  clear hset6 hfr6 eq1
                  go_wp2
                  go_roundw
                  case rel => exact ⟨q + 1 + 1, given + 1, _, by omega, by go_num, by go_num, HD.out⟩
                  case measure => simp [intOf]; omega
                · have HD := Asd.mk (HGV.out.no hyes)
                  have HGN := Asd.mk (give_no g b u' given least ((j : Int) - 1) _ HS.out (fun h1 h2 => by rw [HUL.out] at h2; omega))
                  clear hyes
                  go_wp2_with fail
                  refine HGN.out.mono ?_
                  rintro e w6 ⟨rfl, rfl⟩
                  go_wp2
                  go_roundw
                  case rel => exact ⟨j + 1, given, _, by omega, by go_num, rfl, HD.out⟩
                  case measure => simp [intOf]; omega
              · obtain rfl : j = p + 2 := by omega
                have HBF := Asd.mk (new_below HBR.out (HFR.out.trans HGV.out.frm (U := Only2 g b) (fun k hk _ => hk) (fun k hk _ => hk)) hgr.1 hgr.2)
                by_cases hp3 : 0 < (p : Int) - 2
                · have hgq : ((given : Int) == (p : Int) - 2) = true := by
                    have := HGC.out
                    rw [beq_iff_eq]; omega
                  go_wp2_with fail
                  refine (left_calls _ _ _ _ _ _ HS.out).mono ?_
                  rintro e w6 ⟨rfl, rfl⟩
                  go_wp2
                  go_ret
                  exact ⟨rfl, HBF.out⟩
                · have hgq : ((given : Int) == 0) = true := by
                    have := HGC.out
                    rw [beq_iff_eq]; omega
                  go_wp2_with fail
                  refine (left_calls _ _ _ _ _ _ HS.out).mono ?_
                  rintro e w6 ⟨rfl, rfl⟩
                  go_wp2
                  go_ret
                  exact ⟨rfl, HBF.out⟩
end Go.Proofs.Ytblbdgdjnnjdjaa.Fre
