/- The reference's reader: take, two, key. -/
import Derived.Test.YtnohhmopiflboaaNode42
import Derived.Laws.MakeOwn
set_option linter.unusedVariables false
set_option linter.unusedSimpArgs false
namespace Go.Proofs.Ytnohhmopiflboaa.Nod
open Go.RowKit Go.Proofs.Ytnohhmopiflboaa.Base Go.Proofs.Ytnohhmopiflboaa.Byt Go.Proofs.Ytnohhmopiflboaa.Rd Go.Proofs.Ytnohhmopiflboaa.App

/-- The reader's box at g holds what is left of bytes that lie below B, and whether all was right. -/
structure Rdr (w : World) (B g : Nat) (s : SSt) : Prop where
  mk :: (out : ∃ A m c, w.heap[g]? = some (.cells #[.slice A m c, .bool s.2] 87 (0, 0)) ∧ m ≤ c ∧ (A = none → c = 0) ∧ IsBytes w A m s.1 ∧ (∀ a, A = some a → 0 < m → a.block < B) ∧ B ≤ g)
theorem Rdr.lt {w : World} {B g : Nat} {s : SSt} (h : Rdr w B g s) : g < w.heap.size := by
  obtain ⟨A, m, c, h1, _⟩ := h.out
  exact blk_lt h1
theorem Rdr.below {w w' : World} {B g : Nat} {s : SSt} (h : Rdr w B g s) (hb : Below w.heap.size w w') : Rdr w' B g s := by
  obtain ⟨A, m, c, h1, h2, h3, h4, h5, h6⟩ := h.out
  exact ⟨⟨A, m, c, blk_below hb h1, h2, h3, h4.below hb, h5, h6⟩⟩
def STook (w : World) (B g n : Nat) (s : SSt) (e : Ending) (w' : World) : Prop := Fr (fun k => k = g) w w' ∧ Rdr w' B g (sTake n s).2 ∧ ∃ A' c', e = .returned (.slice A' n c') ∧ n ≤ c' ∧ (A' = none → c' = 0) ∧ IsBytes w' A' n (sTake n s).1

theorem made_noughts (n : Nat) : madeCells (Value.int .u8 0).cells (n * 1) = (bcells (noughts n)).toArray := by
  apply Array.ext
  · simp [madeCells, bcells, noughts]
  · intro i h1 h2
    simp [madeCells, bcells, noughts, Value.cells, bcell, Nat.mod_one]
theorem mk_bytes (n : Nat) (hn : n ≤ 100000) (w : World) : (Instr.makeSlice 31 (.int .i64 (n : Int)) (.int .i64 (n : Int))).run Try.prog w = .ok (.slice (some ⟨w.heap.size, 0, none⟩) n n) (w.alloc (.cells (bcells (noughts n)).toArray 5)) := by
  obtain ⟨i, h1, h2, h3, h4⟩ := info_parts info5
  have h := run_make (P := Try.prog) w 31 5 i _ Try.underlying31 h1 h2 .i64 .i64 n n (by omega) (by omega) (by rw [h4]; push_cast; omega) (by omega)
  rw [h, h3]
  simp only [Int.toNat_natCast, made_noughts]

theorem stook_fail {w : World} {B g n : Nat} {s : SSt} (hn : n ≤ 100000) (h : Rdr w B g s) (hf : ¬ (s.2 = true ∧ n ≤ s.1.length)) :
    STook w B g n s (.returned (.slice (some ⟨w.heap.size, 0, none⟩) n n)) ((w.setCell ⟨g, 1, none⟩ (.bool false)).alloc (.cells (bcells (noughts n)).toArray 5)) := by
  have hfr : Fr (fun k => k = g) w (w.setCell ⟨g, 1, none⟩ (.bool false)) := Fr.setCell (S := fun k => k = g) (Fr.refl _ w) (p := ⟨g, 1, none⟩) rfl _
  obtain ⟨A, m, c, h1, h2, h3, h4, h5, h6⟩ := h.out
  have e : sTake n s = (noughts n, (s.1, false)) := by unfold sTake; rw [if_neg hf]
  have hl : (noughts n).length = n := by simp [noughts]
  refine ⟨hfr.trans (Fr.of_below (S := fun _ => False) (below_alloc (Below.refl _ _) _)) (fun _ h _ => h) (fun _ h => h.elim), ?_, ⟨_, n, rfl, Nat.le_refl _, (fun h => by cases h), ?_⟩⟩
  · rw [e]
    have k1 := blk_set h1 1 (.bool false)
    refine ⟨⟨A, m, c, blk_alloc (by simpa using k1) _, h2, h3, ?_, h5, h6⟩⟩
    exact (h4.fr hfr (fun a ha hm hs => by have := h5 a ha hm; omega)).below (below_alloc (Below.refl _ _) _)
  · rw [e]
    have := IsBytes.new (w.setCell ⟨g, 1, none⟩ (.bool false)) (noughts n) 5 (by rw [hl]; omega)
    rw [hl] at this
    simpa [World.setCell] using this

theorem stook_ok {w : World} {B g n m c c2 : Nat} {s : SSt} {A A2 A3 : Option Addr} (h : w.heap[g]? = some (.cells #[.slice A m c, .bool s.2] 87 (0, 0))) (hs : s.2 = true) (hn : n ≤ m) (hmc : m ≤ c) (hib : IsBytes w A m s.1) (hlt : ∀ a, A = some a → 0 < m → a.block < B) (hB : B ≤ g)
    (h2 : 0 < n → A2 = A) (hz2 : A2 = none → c = 0) (h3 : n < m → ∃ b o, A = some ⟨b, o, none⟩ ∧ A3 = some ⟨b, o + n, none⟩) (hz3 : A3 = none → c2 = 0) (hc : c2 = c - n) :
    STook w B g n s (.returned (.slice A2 n c)) (w.setCell ⟨g, 0, none⟩ (.slice A3 (m - n) c2)) := by
  have hfr : Fr (fun k => k = g) w (w.setCell ⟨g, 0, none⟩ (.slice A3 (m - n) c2)) := Fr.setCell (S := fun k => k = g) (Fr.refl _ w) (p := ⟨g, 0, none⟩) rfl _
  have hl := hib.1
  have e : sTake n s = (s.1.take n, (s.1.drop n, true)) := by unfold sTake; rw [if_pos ⟨hs, by omega⟩]
  have hib2 := hib.fr hfr (fun a ha hm hk => by have := hlt a ha hm; omega)
  refine ⟨hfr, ?_, ⟨A2, c, rfl, by omega, hz2, ?_⟩⟩
  · rw [e]
    have k1 := blk_set h 0 (.slice A3 (m - n) c2)
    refine ⟨⟨A3, m - n, c2, by simpa [hs] using k1, by omega, hz3, ?_, fun a ha hm => ?_, hB⟩⟩
    · by_cases hlt2 : n < m
      · obtain ⟨b, o, rfl, rfl⟩ := h3 hlt2
        exact bytes_drop hib2 n hn
      · exact ⟨by rw [List.length_drop]; omega, by have := hib.2.1; omega, fun hp => by omega⟩
    · obtain ⟨b, o, h4, h5⟩ := h3 (by omega)
      have h6 := hlt _ h4 (by omega)
      rw [h5] at ha
      injection ha with ha
      rw [← ha]
      exact h6
  · rw [e]
    by_cases hp : 0 < n
    · rw [h2 hp]
      obtain ⟨b, o, h4, _⟩ := hib.2.2 (by omega)
      subst h4
      exact bytes_take hib2 n hn
    · exact ⟨by rw [List.length_take]; omega, by omega, fun h => by omega⟩

set_option maxRecDepth 100000 in
set_option maxHeartbeats 1600000 in
theorem stake_calls (B g n : Nat) (s : SSt) (w : World) (hn : n ≤ 100000) (h : Rdr w B g s) :
    Calls Try.prog 80 #[.pointer (some ⟨g, 0, none⟩), .int .i64 n] w (STook w B g n s) := by
  have hmk := mk_bytes n hn
  obtain ⟨A, m, c, hg, hmc, hz, hb, hlt, hB⟩ := h.out
  have HB := Asd.mk hB
  have hl := hb.1
  have hm := hb.2.1
  have p0 := (blk_cell hg 0).trans rfl
  have p1 := (blk_cell hg 1).trans rfl
  have z0 := blk_frozen hg 0
  have z1 := blk_frozen hg 1
  have HH := Asd.mk h
  by_cases hf : s.2 = true ∧ n ≤ m
  rotate_left
  · have HF := Asd.mk (stook_fail hn h (by rw [hl]; exact hf))
    clear h hg hb hlt hz hB HB
    obtain ⟨xs, ok⟩ := s
    cases ok with
    | false =>
      go_enter Try.func80, Try.ntmps80
      go_wp2
      go_ret
      exact HF.out
    | true =>
      have hlt2 : m < n := by
        rcases Nat.lt_or_ge m n with h | h
        · exact h
        · exact absurd ⟨rfl, h⟩ hf
      have hlt3 : (m : Int) < (n : Int) := by omega
      clear hf
      go_enter Try.func80, Try.ntmps80
      go_wp2
      go_ret
      exact HF.out
  · obtain ⟨hok, hnm⟩ := hf
    have HOK := Asd.mk hok
    have HG := Asd.mk hg
    have HIB := Asd.mk hb
    have HLT := Asd.mk hlt
    rw [hok] at p1
    have hn0 : (0 : Int) ≤ (n : Int) := by omega
    have hnm2 : (n : Int) ≤ (m : Int) := by omega
    have hnc : (n : Int) ≤ (c : Int) := by omega
    have hnc2 : n ≤ c := by omega
    clear h hg hok hl hlt HH hB
    cases A with
    | none =>
      have hc0 := hz rfl
      subst hc0
      obtain rfl : m = 0 := by omega
      obtain rfl : n = 0 := by omega
      clear hz hb
      go_enter Try.func80, Try.ntmps80
      go_wp2
      go_ret
      exact stook_ok HG.out HOK.out (Nat.le_refl _) (Nat.le_refl _) HIB.out HLT.out HB.out (fun h => rfl) (fun _ => rfl) (fun h => absurd h (Nat.lt_irrefl _)) (fun _ => rfl) rfl
    | some a =>
      have HA : Asd (0 < m → ∃ b o, a = ⟨b, o, none⟩) := Asd.mk fun hp => by
        obtain ⟨b, o, h1, _⟩ := hb.2.2 hp
        injection h1 with h1
        exact ⟨b, o, h1⟩
      by_cases hm0 : m = 0
      · subst hm0
        obtain rfl : n = 0 := by omega
        clear hz hb HA
        go_enter Try.func80, Try.ntmps80
        go_wp2_with fail
        all_goals
          go_ret
          exact stook_ok HG.out HOK.out (Nat.le_refl _) (Nat.zero_le _) HIB.out HLT.out HB.out (fun h => absurd h (Nat.lt_irrefl _)) (fun h => by first | (cases h; done) | omega) (fun h => absurd h (Nat.lt_irrefl _)) (fun h => by first | (cases h; done) | omega) (by omega)
      · obtain ⟨b, o, rfl⟩ := HA.out (by omega)
        have hcp : ¬ c = 0 := by omega
        clear hz hb HA
        go_enter Try.func80, Try.ntmps80
        go_wp2_with fail
        all_goals
          go_ret
          first
            | exact stook_ok HG.out HOK.out hnm hmc HIB.out HLT.out HB.out (fun h => rfl) (fun h => by cases h) (fun h => ⟨b, o, rfl, rfl⟩) (fun h => by cases h) (by omega)
            | (have hcn : c = n := by first | assumption | omega
               subst hcn
               exact stook_ok HG.out HOK.out hnm hmc HIB.out HLT.out HB.out (fun h => rfl) (fun h => by cases h) (fun h => absurd h (by omega)) (fun h => by cases h) (by omega))
end Go.Proofs.Ytnohhmopiflboaa.Nod
