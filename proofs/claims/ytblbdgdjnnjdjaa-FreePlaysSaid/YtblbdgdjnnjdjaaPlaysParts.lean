/- FreePlays: the two sets side by side, in plain terms. -/
import Derived.Test.YtblbdgdjnnjdjaaRef
import Derived.Test.YtblbdgdjnnjdjaaRead
set_option linter.unusedVariables false
set_option linter.unusedSimpArgs false
namespace Go.Proofs.Ytblbdgdjnnjdjaa.Fre
open Go.RowKit Go.Proofs.Ytblbdgdjnnjdjaa.Base Go.Proofs.Ytblbdgdjnnjdjaa.Rd

abbrev rOp : Rel (Int × Int × List Int) := rS3 (rInt .i64) (rInt .i64) (rSl (rInt .i64) 1 8)
abbrev rOps : Rel (List (Int × Int × List Int)) := rSl rOp 3 40

theorem opens_ints : Opens Try.prog 22 (rSl (rInt .i64) 1 8) := opens_sl Try.underlying22 (by kernel_rfl) (by decide) (by kernel_rfl) (opens_int Try.underlying3)
theorem opens_op : Opens Try.prog 38 rOp :=
  opens_s3 Try.underlying38 (by kernel_rfl) ⟨rfl, by kernel_rfl⟩ ⟨rfl, by kernel_rfl⟩ ⟨rfl, by kernel_rfl⟩ (opens_int Try.underlying3) (opens_int Try.underlying3) opens_ints
theorem opens_ops : Opens Try.prog 34 rOps := opens_sl Try.underlying34 (by kernel_rfl) (by decide) (by kernel_rfl) opens_op
theorem lasts_ints : Lasts (rSl (rInt .i64) 1 8) := lasts_sl (lasts_int _) _ _
theorem lasts_op : Lasts rOp := lasts_s3 (lasts_int _) (lasts_int _) lasts_ints
theorem lasts_ops : Lasts rOps := lasts_sl lasts_op _ _

theorem ints_of_sl {W : World} {A : Option Addr} {n : Nat} {xs : List Int} (h : IsSl (rInt .i64) 1 W A n xs) (hn : n ≤ maxLen) : IsInts W A n xs := by
  refine ⟨h.1, hn, fun hp => ?_⟩
  obtain ⟨b, o, rfl, _, hc⟩ := h.2 hp
  refine ⟨b, o, rfl, fun j hj => ?_⟩
  have hj' : j < xs.length := by rw [h.1]; exact hj
  obtain ⟨es, h1, h2, h3, _⟩ := hc j hj'
  have := h2 0 (by omega)
  rw [h3] at this
  simpa [List.getD, hj'] using this

/-- The program's set and the reference's, the same: pages from 2 on are used alike. -/
structure Both (g b gr br : Nat) (w0 wr : World) (u v : List Bool) (least : Nat) : Prop where
  prog : IsSet wr g b u (free u) least
  ref : IsRef wr gr br v
  len : u.length = max 2 v.length
  same : u.drop 2 = v.drop 2
  low : ∀ k, 2 ≤ k → k < least → u.getD k false = true
  two : 2 ≤ least
  dist : g ≠ gr ∧ g ≠ br ∧ b ≠ gr ∧ b ≠ br
  new : w0.heap.size ≤ g ∧ w0.heap.size ≤ b ∧ w0.heap.size ≤ gr ∧ w0.heap.size ≤ br
  below : Below w0.heap.size w0 wr

theorem getD_drop (u : List Bool) (k : Nat) (h : 2 ≤ k) : u.getD k false = (u.drop 2).getD (k - 2) false := by
  simp only [List.getD, List.getElem?_drop, show 2 + (k - 2) = k by omega]
theorem Both.at_ {g b gr br : Nat} {w0 wr : World} {u v : List Bool} {least : Nat} (h : Both g b gr br w0 wr u v least) (k : Nat) (hk : 2 ≤ k) : u.getD k false = v.getD k false := by
  rw [getD_drop u k hk, getD_drop v k hk, h.same]
theorem Both.lt_ {g b gr br : Nat} {w0 wr : World} {u v : List Bool} {least : Nat} (h : Both g b gr br w0 wr u v least) (k : Int) (hk : 2 ≤ k) : k < u.length ↔ k < v.length := by
  have := h.len; omega
theorem Both.free_eq {g b gr br : Nat} {w0 wr : World} {u v : List Bool} {least : Nat} (h : Both g b gr br w0 wr u v least) : free u = free v := by
  unfold free; rw [h.same]
theorem Both.isFree_eq {g b gr br : Nat} {w0 wr : World} {u v : List Bool} {least : Nat} (h : Both g b gr br w0 wr u v least) (n : Int) : isFree u n = isFree v n := by
  unfold isFree
  by_cases hn : 2 ≤ n
  · have e1 : decide (2 ≤ n ∧ n < (u.length : Int)) = decide (2 ≤ n ∧ n < (v.length : Int)) := by
      have := h.lt_ n hn
      simp [hn, this]
    rw [e1, h.at_ n.toNat (by omega)]
  · simp [hn]
theorem drop_set (u : List Bool) (n : Nat) (x : Bool) (h : 2 ≤ n) : (u.set n x).drop 2 = (u.drop 2).set (n - 2) x := by
  rw [List.drop_set]; simp [show ¬ n < 2 by omega]

/-- Both were written at n. -/
theorem Both.put {g b gr br : Nat} {w0 wr w' w'' : World} {u v : List Bool} {least l2 : Nat} {x : Bool} {n : Nat} (h : Both g b gr br w0 wr u v least) (hn : 2 ≤ n)
    (hs : IsSet w' g b (u.set n x) (free (u.set n x)) l2) (hf : Fr (Only2 g b) wr w') (hr : IsRef w'' gr br (v.set n x)) (hf2 : Fr (fun k => k = br) w' w'') (hl : 2 ≤ l2) (hlow : ∀ k, 2 ≤ k → k < l2 → (u.set n x).getD k false = true) :
    Both g b gr br w0 w'' (u.set n x) (v.set n x) l2 := by
  have hd := h.dist
  have hnw := h.new
  refine ⟨hs.fr hf2 (show ¬ g = br by omega) (show ¬ b = br by omega), hr, by simpa using h.len, by rw [drop_set _ _ _ hn, drop_set _ _ _ hn, h.same], hlow, hl, hd, hnw, ?_⟩
  have h1 := new_below h.below hf hnw.1 hnw.2.1
  exact ((Fr.of_below (S := fun k => w0.heap.size ≤ k) h1).trans hf2 (U := fun k => w0.heap.size ≤ k) (fun k hk _ => hk) (fun k hk _ => by subst hk; exact hnw.2.2.2)).below (fun k hk => hk)

theorem Both.drewN {g b gr br : Nat} {w0 wr : World} {u v : List Bool} {least : Nat} (h : Both g b gr br w0 wr u v least) (m : Nat) : Both g b gr br w0 (wr.drewN m) u v least :=
  ⟨h.prog.drewN m, h.ref.drewN m, h.len, h.same, h.low, h.two, h.dist, h.new, pw_below_drewN h.below m⟩
theorem Both.fr {g b gr br : Nat} {w0 wr w' : World} {u v : List Bool} {least : Nat} (h : Both g b gr br w0 wr u v least) (hf : Below wr.heap.size wr w') : Both g b gr br w0 w' u v least := by
  have h1 := h.prog.lt
  have h2 := h.ref.lt
  have hf' := Fr.of_below (S := fun k => wr.heap.size ≤ k) hf
  exact ⟨h.prog.fr hf' (by simp; omega) (by simp; omega), h.ref.fr hf' (by simp; omega) (by simp; omega), h.len, h.same, h.low, h.two, h.dist, h.new, below3 h.below hf⟩
theorem Both.start {w0 w1 w2 : World} {p : Int} {g b gr br n m : Nat} (hn : (n : Int) = max 2 (min p 4096)) (hm : (m : Int) = max 0 (min p 4096))
    (hs : IsSet w1 g b (List.replicate n false) (n - 2) 2) (hb1 : Below w0.heap.size w0 w1) (hg : w0.heap.size ≤ g) (hb : w0.heap.size ≤ b)
    (hr : IsRef w2 gr br (List.replicate m false)) (hb2 : Below w1.heap.size w1 w2) (hgr : w1.heap.size ≤ gr) (hbr : w1.heap.size ≤ br) : Both g b gr br w0 w2 (List.replicate n false) (List.replicate m false) 2 := by
  have h1 := hs.lt
  have h3 := hb1.size
  have hf' := Fr.of_below (S := fun k => w1.heap.size ≤ k) hb2
  refine ⟨?_, hr, by simp; omega, ?_, fun k h1 h2 => by omega, by omega, by omega, by omega, below3 hb1 hb2⟩
  · rw [free_new]; exact hs.fr hf' (by simp; omega) (by simp; omega)
  · simp; omega

theorem same_of {P : Program} {f : FuncId} {args : Array Value} {w : World} {v : Value} (h : Calls P f args w fun e w' => e = .returned v ∧ w = w') : Calls P f args w fun e w' => e = .returned v ∧ w' = w :=
  h.mono fun _ _ ⟨h1, h2⟩ => ⟨h1, h2.symm⟩
theorem Both.qleft {g b gr br : Nat} {w0 wr : World} {u v : List Bool} {least : Nat} (h : Both g b gr br w0 wr u v least) (n : Nat) :
    Calls Try.prog 9 #[.pointer (some ⟨g, 0, none⟩)] (wr.drewN n) fun e w' => e = .returned (.int .i64 (free u : Int)) ∧ w' = wr.drewN n :=
  same_of (left_calls g b u (free u) least _ (h.prog.drewN n))
theorem Both.qrleft {g b gr br : Nat} {w0 wr : World} {u v : List Bool} {least : Nat} (h : Both g b gr br w0 wr u v least) (n : Nat) :
    Calls Try.prog 18 #[.pointer (some ⟨gr, 0, none⟩)] (wr.drewN n) fun e w' => e = .returned (.int .i64 (free u : Int)) ∧ w' = wr.drewN n := by
  have := same_of (rleft_calls gr br v _ (h.ref.drewN n))
  rw [← h.free_eq] at this
  exact this
theorem Both.qfree {g b gr br : Nat} {w0 wr : World} {u v : List Bool} {least : Nat} (h : Both g b gr br w0 wr u v least) (N : Int) (n : Nat) :
    Calls Try.prog 11 #[.pointer (some ⟨g, 0, none⟩), .int .i64 N] (wr.drewN n) fun e w' => e = .returned (.bool (isFree u N)) ∧ w' = wr.drewN n :=
  same_of (free_calls g b u (free u) least N _ (h.prog.drewN n))
theorem Both.qrfree {g b gr br : Nat} {w0 wr : World} {u v : List Bool} {least : Nat} (h : Both g b gr br w0 wr u v least) (N : Int) (n : Nat) :
    Calls Try.prog 19 #[.pointer (some ⟨gr, 0, none⟩), .int .i64 N] (wr.drewN n) fun e w' => e = .returned (.bool (isFree u N)) ∧ w' = wr.drewN n := by
  have := same_of (rfree_calls gr br v N _ (h.ref.drewN n))
  rw [← h.isFree_eq] at this
  exact this

theorem Both.setFar {g b gr br : Nat} {w0 wr : World} {u v : List Bool} {least : Nat} (h : Both g b gr br w0 wr u v least) (p : Addr) (x : Value) (h1 : p.block ≠ g ∧ p.block ≠ b ∧ p.block ≠ gr ∧ p.block ≠ br) (h2 : w0.heap.size ≤ p.block) : Both g b gr br w0 (wr.setCell p x) u v least := by
  have hf : Fr (fun k => k = p.block) wr (wr.setCell p x) := (Fr.refl (fun k => k = p.block) wr).setCell rfl x
  refine ⟨h.prog.fr hf (show ¬ g = p.block by omega) (show ¬ b = p.block by omega), h.ref.fr hf (show ¬ gr = p.block by omega) (show ¬ br = p.block by omega), h.len, h.same, h.low, h.two, h.dist, h.new, ?_⟩
  exact h.below.setCell h2 x

/-- A row of whole numbers of the call's own. -/
def OwnInts (wr : World) (B : Nat) (A : Option Addr) (n : Nat) : Prop := n = 0 ∨ ∃ gb cur, A = some ⟨gb, 0, none⟩ ∧ wr.heap[gb]? = some (.cells cur 3 (0, 0)) ∧ n ≤ cur.size ∧ B ≤ gb
theorem ints_of_own {wr : World} {B : Nat} {v : Value} {n : Nat} {xs : List Int} (h : wr.ownsRow B 3 1 v n (nums xs)) (hn : n ≤ maxLen) :
    ∃ A c, v = .slice A n c ∧ IsInts wr A n xs ∧ OwnInts wr B A n ∧ ∀ a, A = some a → B ≤ a.block := by
  have hl : xs.length = n := by have := h.1; simpa [nums] using this
  rcases h with ⟨_, ⟨rfl, h0⟩ | ⟨g, cap, cur, rfl, hb, hh, hcap, _, hsz, ht⟩⟩
  · refine ⟨none, 0, by rw [h0], ⟨hl, hn, fun hp => by omega⟩, .inl h0, by simp⟩
  · refine ⟨_, cap, rfl, ⟨hl, hn, fun hp => ⟨g, 0, rfl, fun j hj => ?_⟩⟩, .inr ⟨g, cur, rfl, hh, by omega, hb⟩, fun a ha => by cases ha; exact hb⟩
    rw [Nat.zero_add, blk_cell hh]
    have : (cur.toList.take (n * 1))[j]? = (nums xs)[j]? := by rw [ht]
    rw [List.getElem?_take, if_pos (by omega), Array.getElem?_toList] at this
    rw [this]
    simp [nums, List.getD, show j < xs.length by omega]
theorem OwnInts.set {wr : World} {B : Nat} {A : Option Addr} {n : Nat} (h : OwnInts wr B A n) {gb : Nat} (hA : A = some ⟨gb, 0, none⟩) (j : Nat) (x : Value) : OwnInts (wr.setCell ⟨gb, j, none⟩ x) B A n := by
  rcases h with h | ⟨g, cur, h1, h2, h3, h4⟩
  · exact .inl h
  · rw [hA] at h1
    cases h1
    exact .inr ⟨gb, _, hA, blk_set h2 j x, by simpa using h3, h4⟩

theorem Both.inSet_eq {g b gr br : Nat} {w0 wr : World} {u v : List Bool} {least : Nat} (h : Both g b gr br w0 wr u v least) (x : Int) : inSet u.length x = inSet v.length x := by
  unfold inSet
  by_cases hx : 2 ≤ x
  · have := h.lt_ x hx
    simp [hx, this]
  · simp [hx]

/-- Both were set to just the members of xs. -/
theorem Both.only {g b gr br : Nat} {w0 wr w' w'' : World} {u v : List Bool} {least : Nat} {xs : List Int} (h : Both g b gr br w0 wr u v least) (hall : xs.all (inSet v.length) = true)
    (hs : IsSet w' g b (marks u.length xs) (free (marks u.length xs)) 2) (hf : Fr (Only2 g b) wr w') (hr : IsRef w'' gr br (marks v.length xs)) (hf2 : Fr (fun k => k = br) w' w'') : Both g b gr br w0 w'' (marks u.length xs) (marks v.length xs) 2 := by
  have hd := h.dist
  have hnw := h.new
  have hl := h.len
  refine ⟨hs.fr hf2 (show ¬ g = br by omega) (show ¬ b = br by omega), hr, by simpa [marks_length] using hl, ?_, fun k h1 h2 => by omega, by omega, hd, hnw, ?_⟩
  · by_cases h2 : 2 ≤ v.length
    · have e : u.length = v.length := by omega
      rw [e]
    · rw [List.drop_eq_nil_of_le (by rw [marks_length]; omega), List.drop_eq_nil_of_le (by rw [marks_length]; omega)]
  · have h1 := new_below h.below hf hnw.1 hnw.2.1
    exact ((Fr.of_below (S := fun k => w0.heap.size ≤ k) h1).trans hf2 (U := fun k => w0.heap.size ≤ k) (fun k hk _ => hk) (fun k hk _ => by subst hk; exact hnw.2.2.2)).below (fun k hk => hk)

/-- The clone goes on in the program's set's place. -/
theorem Both.clone {g b gr br gc bc : Nat} {w0 wr w' w'' : World} {u v : List Bool} {least : Nat} (h : Both g b gr br w0 wr u v least) (hc : IsSet w' gc bc u (free u) least) (hb : Below wr.heap.size wr w') (h1 : wr.heap.size ≤ gc) (h2 : wr.heap.size ≤ bc)
    (hf : Fr (Only2 g b) w' w'') : Both gc bc gr br w0 w'' u v least := by
  have hp := h.prog.lt
  have hr := h.ref.lt
  have hd := h.dist
  have hnw := h.new
  have hsz := h.below.size
  have hb' := h.fr hb
  exact ⟨hc.fr hf (show ¬ (gc = g ∨ gc = b) by omega) (show ¬ (bc = g ∨ bc = b) by omega), hb'.ref.fr hf (show ¬ (gr = g ∨ gr = b) by omega) (show ¬ (br = g ∨ br = b) by omega), h.len, h.same, h.low, h.two, by omega, by omega,
    new_below hb'.below hf hnw.1 hnw.2.1⟩
end Go.Proofs.Ytblbdgdjnnjdjaa.Fre
