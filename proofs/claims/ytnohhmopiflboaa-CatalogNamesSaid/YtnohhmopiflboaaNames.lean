/- CatalogNames: what Name of the catalog and of the reference tell of a text. -/
import Derived.Test.YtnohhmopiflboaaProg
import Derived.Test.YtnohhmopiflboaaBase
import Derived.Test.YtnohhmopiflboaaShelf
import Derived.KernelRfl
import Derived.OwnWalk
import Derived.RegionTactic
import Derived.ChangeAlike
import Derived.Deep.QuietTactic
import Derived.BigQuiet
import Derived.Deep.RegionWith
import Derived.WalkSpells
import Derived.WalkLawsBesides
import Derived.Outline
set_option linter.unusedVariables false
set_option linter.unusedSimpArgs false
namespace Go.Proofs.Ytnohhmopiflboaa.Cat
open Go.RowKit Go.Proofs.Ytnohhmopiflboaa.Base

/-- May the byte stand at place i of a name? -/
def okAt (i : Nat) (c : Nat) : Bool := (97 ≤ c && c ≤ 122) || c == 95 || (i != 0 && 48 ≤ c && c ≤ 57)
def byteAt (s : ByteArray) (i : Nat) : Nat := (s.data.toList.getD i 0).toNat
theorem byteAt_eq (s : ByteArray) (i : Nat) (h : i < s.size) : s[i].toNat = byteAt s i := by
  unfold byteAt
  have h' : i < s.data.size := h
  simp only [List.getD, Array.getElem?_toList, Array.getElem?_eq_getElem h', Option.getD_some]
  rfl

theorem ok_cases {i c : Nat} (h : okAt i c = true) : (97 ≤ c ∧ c ≤ 122) ∨ c = 95 ∨ (i ≠ 0 ∧ 48 ≤ c ∧ c ≤ 57) := by
  simp [okAt] at h; omega
theorem bad_cases {i c : Nat} (h : okAt i c = false) : (c < 97 ∨ 122 < c) ∧ c ≠ 95 ∧ (i = 0 ∨ c < 48 ∨ 57 < c) := by
  simp [okAt] at h; omega

set_option maxHeartbeats 800000 in
theorem name_bad (s : ByteArray) (w : World) (q : Nat) (hs : s.size ≤ 140737488351232) (hq : q < s.size) (hb : okAt q (byteAt s q) = false) (hg : ∀ i, i < q → okAt i (byteAt s i) = true) :
    Calls Try.prog 20 #[.string s] w fun e w' => e = .returned (.int .i64 3) ∧ w = w' := by
  have HB := Asd.mk hb
  have HG := Asd.mk hg
  clear hb hg
  go_enter Try.func20, Try.ntmps20
  go_wp2
  go_loop [7] (fun i => ∃ k : Nat, k ≤ q ∧ i = .int .i64 (k : Int)) (fun i => s.size - (intOf i).toNat)
  case atStart => exact ⟨0, by omega, rfl⟩
  case round =>
    obtain ⟨k, hk, rfl⟩ := hrel
    have hbk := byteAt_eq s k (by omega)
    by_cases hlt : k < q
    · have hok := HG.out k hlt
      generalize byteAt s k = c at hok hbk
      rcases ok_cases hok with ⟨h1, h2⟩ | h1 | ⟨h0, h1, h2⟩
      · clear hok
        go_wp2
        go_round
        case rel => exact ⟨k + 1, by omega, by go_num⟩
        case measure => simp [intOf]; omega
      · subst h1
        clear hok
        go_wp2
        go_round
        case rel => exact ⟨k + 1, by omega, by go_num⟩
        case measure => simp [intOf]; omega
      · have h3 : ((c : Int) != 95) = true := by rw [bne_iff_ne]; omega
        have h4 : ((k : Int) == 0) = false := beq_eq_false_iff_ne.2 (by omega)
        clear hok h0
        go_wp2
        go_round
        case rel => exact ⟨k + 1, by omega, by go_num⟩
        case measure => simp [intOf]; omega
    · obtain rfl : k = q := by omega
      have hok := HB.out
      generalize byteAt s k = c at hok hbk
      obtain ⟨h1, h2, h3⟩ := bad_cases hok
      have h4 : ((c : Int) != 95) = true := by rw [bne_iff_ne]; omega
      clear hok h2 HB HG
      rcases h1 with h1 | h1
      all_goals
        by_cases h0 : k = 0
        · subst h0
          go_wp2
          go_ret
          exact ⟨rfl, rfl⟩
        · have h5 : ((k : Int) == 0) = false := beq_eq_false_iff_ne.2 (by omega)
          rcases h3 with h3 | h3 | h3
          · exact absurd h3 h0
          · clear h0
            first
              | (exfalso; omega)
              | (go_wp2
                 go_ret
                 exact ⟨rfl, rfl⟩)
          · clear h0
            go_wp2
            go_ret
            exact ⟨rfl, rfl⟩

/-- The keywords, between blanks. -/
def kwText : List UInt8 := [32, 115, 101, 108, 101, 99, 116, 32, 100, 105, 115, 116, 105, 110, 99, 116, 32, 102, 114, 111, 109, 32, 106, 111, 105, 110, 32, 111, 110, 32, 119, 104, 101, 114, 101, 32, 103, 114, 111, 117, 112, 32, 98, 121, 32, 104, 97, 118, 105, 110, 103, 32, 111, 114, 100, 101, 114, 32, 97, 115, 99, 32, 100, 101, 115, 99, 32, 108, 105, 109, 105, 116, 32, 111, 102, 102, 115, 101, 116, 32, 97, 115, 32, 105, 110, 115, 101, 114, 116, 32, 105, 110, 116, 111, 32, 118, 97, 108, 117, 101, 115, 32, 117, 112, 100, 97, 116, 101, 32, 115, 101, 116, 32, 100, 101, 108, 101, 116, 101, 32, 99, 114, 101, 97, 116, 101, 32, 116, 97, 98, 108, 101, 32, 117, 110, 105, 113, 117, 101, 32, 105, 110, 100, 101, 120, 32, 100, 114, 111, 112, 32, 110, 111, 116, 32, 110, 117, 108, 108, 32, 105, 115, 32, 97, 110, 100, 32, 111, 114, 32, 116, 114, 117, 101, 32, 102, 97, 108, 115, 101, 32, 98, 101, 103, 105, 110, 32, 99, 111, 109, 109, 105, 116, 32, 114, 111, 108, 108, 98, 97, 99, 107, 32, 116, 111, 32, 115, 97, 118, 101, 112, 111, 105, 110, 116, 32, 114, 101, 108, 101, 97, 115, 101, 32, 105, 110, 116, 32, 116, 101, 120, 116, 32, 98, 108, 111, 98, 32, 98, 111, 111, 108, 32]
/-- The keywords. -/
def kwList : List (List UInt8) := [[115, 101, 108, 101, 99, 116], [100, 105, 115, 116, 105, 110, 99, 116], [102, 114, 111, 109], [106, 111, 105, 110], [111, 110], [119, 104, 101, 114, 101], [103, 114, 111, 117, 112], [98, 121], [104, 97, 118, 105, 110, 103], [111, 114, 100, 101, 114], [97, 115, 99], [100, 101, 115, 99], [108, 105, 109, 105, 116], [111, 102, 102, 115, 101, 116], [97, 115], [105, 110, 115, 101, 114, 116], [105, 110, 116, 111], [118, 97, 108, 117, 101, 115], [117, 112, 100, 97, 116, 101], [115, 101, 116], [100, 101, 108, 101, 116, 101], [99, 114, 101, 97, 116, 101], [116, 97, 98, 108, 101], [117, 110, 105, 113, 117, 101], [105, 110, 100, 101, 120], [100, 114, 111, 112], [110, 111, 116], [110, 117, 108, 108], [105, 115], [97, 110, 100], [111, 114], [116, 114, 117, 101], [102, 97, 108, 115, 101], [98, 101, 103, 105, 110], [99, 111, 109, 109, 105, 116], [114, 111, 108, 108, 98, 97, 99, 107], [116, 111], [115, 97, 118, 101, 112, 111, 105, 110, 116], [114, 101, 108, 101, 97, 115, 101], [105, 110, 116], [116, 101, 120, 116], [98, 108, 111, 98], [98, 111, 111, 108]]
def kwc (s : ByteArray) : Bool := Lib.contains kwText ([32] ++ s.data.toList ++ [32])

theorem nonempty (s : ByteArray) (h : 0 < s.size) : ¬ s.toList = [] := by
  intro h2
  have h3 : s.data.toList.length = s.size := rfl
  rw [← Lib.toList_data, h2] at h3
  simp only [List.length_nil] at h3
  omega

/-- The error's number where a name is wrong. -/
def errName (b : Bool) : Int := if b then 3 else 0

set_option maxRecDepth 100000 in
set_option maxHeartbeats 1600000 in
theorem name_good (s : ByteArray) (w : World) (hs : 0 < s.size) (hs24 : s.size ≤ 24) (hg : ∀ i, i < s.size → okAt i (byteAt s i) = true) (hsh : w.ShapedOpen Try.prog) :
    Calls Try.prog 20 #[.string s] w fun e w' => e = .returned (.int .i64 (errName (kwc s))) ∧ w = w' := by
  have HG := Asd.mk hg
  have hem := nonempty s hs
  have hem2 : s.toList.isEmpty = false := by simpa using hem
  have HSH := Asd.mk hsh
  clear hg hsh
  go_enter Try.func20, Try.ntmps20
  go_wp2
  go_loop [7] (fun i => ∃ k : Nat, k ≤ s.size ∧ i = .int .i64 (k : Int)) (fun i => s.size - (intOf i).toNat)
  case atStart => exact ⟨0, by omega, rfl⟩
  case round =>
    obtain ⟨k, hk, rfl⟩ := hrel
    by_cases hlt : k < s.size
    · have hbk := byteAt_eq s k (by omega)
      have hok := HG.out k hlt
      generalize byteAt s k = c at hok hbk
      rcases ok_cases hok with ⟨h1, h2⟩ | h1 | ⟨h0, h1, h2⟩
      · clear hok
        go_wp2
        go_round
        case rel => exact ⟨k + 1, by omega, by go_num⟩
        case measure => simp [intOf]; omega
      · subst h1
        clear hok
        go_wp2
        go_round
        case rel => exact ⟨k + 1, by omega, by go_num⟩
        case measure => simp [intOf]; omega
      · have h3 : ((c : Int) != 95) = true := by rw [bne_iff_ne]; omega
        have h4 : ((k : Int) == 0) = false := beq_eq_false_iff_ne.2 (by omega)
        clear hok h0
        go_wp2
        go_round
        case rel => exact ⟨k + 1, by omega, by go_num⟩
        case measure => simp [intOf]; omega
    · obtain rfl : k = s.size := by omega
      clear hlt
      go_wp2_with fail
      refine (Try.strings_Contains_shaped _ _ _ HSH.out (by decide)).mono ?_
      rintro e w' ⟨rfl, rfl⟩
      generalize hb : Lib.contains _ _ = bb
      have hbb : Asd (bb = kwc s) := Asd.mk (by rw [← hb]; simp [kwc, kwText])
      clear hb
      cases bb with
      | true =>
        go_wp2
        go_ret
        exact ⟨ret_eq (by rw [← hbb.out]; rfl), rfl⟩
      | false =>
        go_wp2
        go_ret
        exact ⟨ret_eq (by rw [← hbb.out]; rfl), rfl⟩

end Go.Proofs.Ytnohhmopiflboaa.Cat
