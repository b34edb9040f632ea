/- slices.Clone at bytes; node.read's closures: take, number, key. -/
import Derived.Test.YtnohhmopiflboaaNode22
import Derived.Defers
import Derived.Recover
import Derived.Lib.SliceRun
set_option linter.unusedVariables false
set_option linter.unusedSimpArgs false
namespace Go.Proofs.Ytnohhmopiflboaa.Nod
open Go.RowKit Go.Proofs.Ytnohhmopiflboaa.Base Go.Proofs.Ytnohhmopiflboaa.Byt Go.Proofs.Ytnohhmopiflboaa.Rd Go.Proofs.Ytnohhmopiflboaa.App

set_option maxRecDepth 100000 in
set_option maxHeartbeats 800000 in
theorem sclone_calls (a : Addr) (n c : Nat) (xs : PB) (w : World) (h : IsBytes w (some a) n xs) :
    Calls Try.prog 50 #[.slice (some a) n c] w fun e w' => ∃ A' c', e = .returned (.slice A' n c') ∧ OwnM w' w.heap.size A' n c' xs ∧ Below w.heap.size w w' := by
  have HF := Asd.mk (src_bytes (c := c) (h.below (show Below w.heap.size w (w.alloc (.cells #[] 5)) from (Below.refl _ _).alloc (Nat.le_refl _) _)) (fun h => by cases h))
  have HO : Asd ((w.alloc (.cells #[] 5)).ownsRow w.heap.size 5 1 (.slice (some ⟨w.heap.size, 0, none⟩) 0 0) 0 []) := Asd.mk (own_empty_new rfl (Nat.le_refl _))
  have hn := h.2.1
  have heq := Go.Lib.run_eql_slice_nil (P := Try.prog) w 31 5 (some a) n c 0 0 Try.underlying31
  simp only [Option.isNone_some] at heq
  clear h
  go_enter Try.func50, Try.ntmps50
  go_wp2_with (at_builtin; refine wpList_src rfl (.tmp 5) (.tmp 6) _ rfl rowB _ rfl HO.out (some a) n c rfl HF.out (by unfold maxLen; omega) (by omega) (by simp) ?_)
  intro A' c' w' ho hg
  have HO2 : Asd (OwnM w' w.heap.size A' n c' xs) := Asd.mk (by
    have h2 := ho
    try simp only [Nat.zero_add, List.nil_append] at h2
    exact h2)
  have HB : Asd (Below w.heap.size w w') := Asd.mk ((below_alloc (Below.refl _ w) _).grown hg (by simp) (fun k hk => by have hk' : w.heap.size = k := Option.some.inj hk; omega))
  clear ho hg
  go_wp2
  go_ret
  exact ⟨A', c', by simp, HO2.out, HB.out⟩

/-- What is left to read: the box at g holds a slice of the block gb that reads as xs. -/
structure Rest (w : World) (g gb : Nat) (xs : PB) : Prop where
  mk :: (out : ∃ o m c, w.heap[g]? = some (.cells #[.slice (some ⟨gb, o, none⟩) m c] 31 (0, 0)) ∧ m ≤ c ∧ IsBytes w (some ⟨gb, o, none⟩) m xs ∧ gb ≠ g)
def takeP (n : Nat) (r : PB) : Option (PB × PB) := if r.length < n then none else some (r.take n, r.drop n)
abbrev bad : Value := .iface 32 (.int .i64 10)

theorem bytes_take {w : World} {b o m : Nat} {xs : PB} (h : IsBytes w (some ⟨b, o, none⟩) m xs) (n : Nat) (hn : n ≤ m) : IsBytes w (some ⟨b, o, none⟩) n (xs.take n) := by
  have hl := h.1
  refine ⟨by simp; omega, by have := h.2.1; omega, fun hp => ?_⟩
  obtain ⟨b', o', e, hc⟩ := h.2.2 (by omega)
  cases e
  refine ⟨b, o, rfl, fun j hj => ?_⟩
  rw [hc j (by omega)]
  simp [List.getD, hj]
theorem bytes_drop {w : World} {b o m : Nat} {xs : PB} (h : IsBytes w (some ⟨b, o, none⟩) m xs) (n : Nat) (hn : n ≤ m) : IsBytes w (some ⟨b, o + n, none⟩) (m - n) (xs.drop n) := by
  have hl := h.1
  refine ⟨by simp; omega, by have := h.2.1; omega, fun hp => ?_⟩
  obtain ⟨b', o', e, hc⟩ := h.2.2 (by omega)
  cases e
  refine ⟨b, o + n, rfl, fun j hj => ?_⟩
  have e2 : o + n + j = o + (n + j) := by omega
  rw [e2, hc (n + j) (by omega)]
  simp [List.getD]
theorem bytes_at {w : World} {b o o2 : Nat} {xs : PB} (h : IsBytes w (some ⟨b, o, none⟩) 0 xs) : IsBytes w (some ⟨b, o2, none⟩) 0 xs := ⟨h.1, h.2.1, fun hp => by omega⟩

/-- What 'take' does. -/
def Took (w : World) (g gb n : Nat) (xs : PB) (e : Ending) (w' : World) : Prop := Fr (fun k => k = g) w w' ∧ match takeP n xs with
  | none => e = .panicked [{ v := bad, recovered := false }]
  | some (ys, r) => (∃ A' c', e = .returned (.slice A' n c') ∧ OwnM w' w.heap.size A' n c' ys) ∧ Rest w' g gb r

set_option maxRecDepth 100000 in
set_option maxHeartbeats 800000 in
/-- 'take': the first n bytes of what is left, as a copy; what is left is less by these. -/
theorem take_calls (g gb : Nat) (n : Nat) (xs : PB) (w : World) (hn : n ≤ 100000) (h : Rest w g gb xs) :
    Calls Try.prog 77 #[.int .i64 n, .pointer (some ⟨g, 0, none⟩)] w (Took w g gb n xs) := by
  obtain ⟨o, m, c, hg, hmc, hb, hne⟩ := h.out
  have hl := hb.1
  have hm := hb.2.1
  have hc0 := (blk_cell hg 0).trans rfl
  have hz0 := blk_frozen hg 0
  by_cases hlt : m < n
  · have HT : Asd (takeP n xs = none) := Asd.mk (by simp [takeP]; omega)
    clear hl hb h
    go_enter Try.func77, Try.ntmps77
    go_wp2
    refine ⟨rfl, Fr.refl _ _, ?_⟩
    rw [HT.out]
  · have HT : Asd (takeP n xs = some (xs.take n, xs.drop n)) := Asd.mk (by simp [takeP]; omega)
    have HB1 : Asd (∀ v, IsBytes (w.setCell ⟨g, 0, none⟩ v) (some ⟨gb, o, none⟩) n (xs.take n)) := Asd.mk fun v => (bytes_take hb n (by omega)).fr (S := fun k => k = g) (Fr.setCell (S := fun k => k = g) (Fr.refl _ w) (p := ⟨g, 0, none⟩) rfl v) (fun a ha _ => by cases ha; exact hne)
    have HB2 : Asd (∀ v, IsBytes (w.setCell ⟨g, 0, none⟩ v) (some ⟨gb, o + n, none⟩) (m - n) (xs.drop n)) := Asd.mk fun v => (bytes_drop hb n (by omega)).fr (S := fun k => k = g) (Fr.setCell (S := fun k => k = g) (Fr.refl _ w) (p := ⟨g, 0, none⟩) rfl v) (fun a ha _ => by cases ha; exact hne)
    have HFR : Asd (∀ v, Fr (fun k => k = g) w (w.setCell ⟨g, 0, none⟩ v)) := Asd.mk fun v => Fr.setCell (S := fun k => k = g) (Fr.refl _ w) (p := ⟨g, 0, none⟩) rfl v
    have HG2 : Asd (∀ v, (w.setCell ⟨g, 0, none⟩ v).heap[g]? = some (.cells #[v] 31 (0, 0))) := Asd.mk fun v => by have := blk_set hg 0 v; simpa using this
    clear hl hb h hg
    go_enter Try.func77, Try.ntmps77
    go_wp2_with fail
    · have hmn : m - n = 0 := by omega
      refine (sclone_calls ⟨gb, o, none⟩ n _ _ _ (HB1.out _)).mono ?_
      rintro e w' ⟨A', c', rfl, ho, hb'⟩
      have HO := Asd.mk ho
      have HB := Asd.mk hb'
      have HMN := Asd.mk hmn
      clear ho hb' hmn
      go_wp2
      go_ret
      refine ⟨(HFR.out _).trans (Fr.of_below (S := fun _ => False) HB.out) (fun _ h _ => h) (fun _ h => h.elim), ?_⟩
      rw [HT.out]
      refine ⟨⟨A', c', by simp, own_base HO.out (by simp [World.setCell])⟩, ⟨⟨o, m - n, 0, blk_below HB.out (HG2.out _), by omega, ?_, hne⟩⟩⟩
      have h2 := HB2.out (.slice (some ⟨gb, o, none⟩) (m - n) 0)
      rw [HMN.out] at h2
      have h3 := (bytes_at (o2 := o) h2).below (w' := w') (by have := HB.out; rw [HMN.out] at this; exact this)
      rw [HMN.out]
      exact h3
    · refine (sclone_calls ⟨gb, o, none⟩ n c _ _ (HB1.out _)).mono ?_
      rintro e w' ⟨A', c', rfl, ho, hb'⟩
      have HO := Asd.mk ho
      have HB := Asd.mk hb'
      clear ho hb'
      go_wp2
      go_ret
      refine ⟨(HFR.out _).trans (Fr.of_below (S := fun _ => False) HB.out) (fun _ h _ => h) (fun _ h => h.elim), ?_⟩
      rw [HT.out]
      exact ⟨⟨A', c', by simp, own_base HO.out (by simp [World.setCell])⟩, ⟨⟨o + n, m - n, c - n, blk_below HB.out (HG2.out _), by omega, (HB2.out _).below HB.out, hne⟩⟩⟩
end Go.Proofs.Ytnohhmopiflboaa.Nod
