/- The words that a name cannot be: the reference's and the lexer's Keyword. -/
import Derived.Test.YtcefmhofidoloaaGreatDoorProg
import Derived.Test.YtcefmhofidoloaaGreatDoorBase
import Derived.Test.YtcefmhofidoloaaGreatDoorShelf
import Derived.KernelRfl
import Derived.OwnWalk
import Derived.RegionTactic
import Derived.ChangeAlike
import Derived.Deep.QuietTactic
import Derived.BigQuiet
import Derived.Deep.RegionWith
import Derived.WalkSpells
import Derived.WalkLawsBesides
import Derived.Outline
import Derived.Lib.IndexLaws
set_option linter.unusedVariables false
set_option linter.unusedSimpArgs false
namespace Go.Proofs.YtcefmhofidoloaaGreatDoor.Lex
open Go.RowKit Go.Proofs.YtcefmhofidoloaaGreatDoor.Base

def kwText : List UInt8 := [32, 115, 101, 108, 101, 99, 116, 32, 100, 105, 115, 116, 105, 110, 99, 116, 32, 102, 114, 111, 109, 32, 106, 111, 105, 110, 32, 111, 110, 32, 119, 104, 101, 114, 101, 32, 103, 114, 111, 117, 112, 32, 98, 121, 32, 104, 97, 118, 105, 110, 103, 32, 111, 114, 100, 101, 114, 32, 97, 115, 99, 32, 100, 101, 115, 99, 32, 108, 105, 109, 105, 116, 32, 111, 102, 102, 115, 101, 116, 32, 97, 115, 32, 105, 110, 115, 101, 114, 116, 32, 105, 110, 116, 111, 32, 118, 97, 108, 117, 101, 115, 32, 117, 112, 100, 97, 116, 101, 32, 115, 101, 116, 32, 100, 101, 108, 101, 116, 101, 32, 99, 114, 101, 97, 116, 101, 32, 116, 97, 98, 108, 101, 32, 117, 110, 105, 113, 117, 101, 32, 105, 110, 100, 101, 120, 32, 100, 114, 111, 112, 32, 110, 111, 116, 32, 110, 117, 108, 108, 32, 105, 115, 32, 97, 110, 100, 32, 111, 114, 32, 116, 114, 117, 101, 32, 102, 97, 108, 115, 101, 32, 98, 101, 103, 105, 110, 32, 99, 111, 109, 109, 105, 116, 32, 114, 111, 108, 108, 98, 97, 99, 107, 32, 116, 111, 32, 115, 97, 118, 101, 112, 111, 105, 110, 116, 32, 114, 101, 108, 101, 97, 115, 101, 32, 105, 110, 116, 32, 116, 101, 120, 116, 32, 98, 108, 111, 98, 32, 98, 111, 111, 108, 32]
/-- The keywords. -/
def kwList : List (List UInt8) := [[115, 101, 108, 101, 99, 116], [100, 105, 115, 116, 105, 110, 99, 116], [102, 114, 111, 109], [106, 111, 105, 110], [111, 110], [119, 104, 101, 114, 101], [103, 114, 111, 117, 112], [98, 121], [104, 97, 118, 105, 110, 103], [111, 114, 100, 101, 114], [97, 115, 99], [100, 101, 115, 99], [108, 105, 109, 105, 116], [111, 102, 102, 115, 101, 116], [97, 115], [105, 110, 115, 101, 114, 116], [105, 110, 116, 111], [118, 97, 108, 117, 101, 115], [117, 112, 100, 97, 116, 101], [115, 101, 116], [100, 101, 108, 101, 116, 101], [99, 114, 101, 97, 116, 101], [116, 97, 98, 108, 101], [117, 110, 105, 113, 117, 101], [105, 110, 100, 101, 120], [100, 114, 111, 112], [110, 111, 116], [110, 117, 108, 108], [105, 115], [97, 110, 100], [111, 114], [116, 114, 117, 101], [102, 97, 108, 115, 101], [98, 101, 103, 105, 110], [99, 111, 109, 109, 105, 116], [114, 111, 108, 108, 98, 97, 99, 107], [116, 111], [115, 97, 118, 101, 112, 111, 105, 110, 116], [114, 101, 108, 101, 97, 115, 101], [105, 110, 116], [116, 101, 120, 116], [98, 108, 111, 98], [98, 111, 111, 108]]
def kwc (s : ByteArray) : Bool := Lib.contains kwText ([32] ++ s.data.toList ++ [32])

theorem nonempty (s : ByteArray) (h : 0 < s.size) : ¬ s.toList = [] := by
  intro h2
  have h3 : s.data.toList.length = s.size := rfl
  rw [← Lib.toList_data, h2] at h3
  simp only [List.length_nil] at h3
  omega


set_option maxRecDepth 100000 in
set_option maxHeartbeats 1600000 in
theorem kw_no (s : ByteArray) (w : World) (h : kwList.contains s.toList = false) :
    Calls Tryz.prog 218 #[.string s] w fun e w' => e = .returned (.bool false) ∧ w = w' := by
  have hh : ∀ l, l ∈ kwList → (s.toList == l) = false := by
    intro l hl
    rw [beq_eq_false_iff_ne]
    rintro rfl
    rw [List.contains_iff_mem.2 hl] at h
    cases h
  have h0 := hh [115, 101, 108, 101, 99, 116] (by decide)
  have h1 := hh [100, 105, 115, 116, 105, 110, 99, 116] (by decide)
  have h2 := hh [102, 114, 111, 109] (by decide)
  have h3 := hh [106, 111, 105, 110] (by decide)
  have h4 := hh [111, 110] (by decide)
  have h5 := hh [119, 104, 101, 114, 101] (by decide)
  have h6 := hh [103, 114, 111, 117, 112] (by decide)
  have h7 := hh [98, 121] (by decide)
  have h8 := hh [104, 97, 118, 105, 110, 103] (by decide)
  have h9 := hh [111, 114, 100, 101, 114] (by decide)
  have h10 := hh [97, 115, 99] (by decide)
  have h11 := hh [100, 101, 115, 99] (by decide)
  have h12 := hh [108, 105, 109, 105, 116] (by decide)
  have h13 := hh [111, 102, 102, 115, 101, 116] (by decide)
  have h14 := hh [97, 115] (by decide)
  have h15 := hh [105, 110, 115, 101, 114, 116] (by decide)
  have h16 := hh [105, 110, 116, 111] (by decide)
  have h17 := hh [118, 97, 108, 117, 101, 115] (by decide)
  have h18 := hh [117, 112, 100, 97, 116, 101] (by decide)
  have h19 := hh [115, 101, 116] (by decide)
  have h20 := hh [100, 101, 108, 101, 116, 101] (by decide)
  have h21 := hh [99, 114, 101, 97, 116, 101] (by decide)
  have h22 := hh [116, 97, 98, 108, 101] (by decide)
  have h23 := hh [117, 110, 105, 113, 117, 101] (by decide)
  have h24 := hh [105, 110, 100, 101, 120] (by decide)
  have h25 := hh [100, 114, 111, 112] (by decide)
  have h26 := hh [110, 111, 116] (by decide)
  have h27 := hh [110, 117, 108, 108] (by decide)
  have h28 := hh [105, 115] (by decide)
  have h29 := hh [97, 110, 100] (by decide)
  have h30 := hh [111, 114] (by decide)
  have h31 := hh [116, 114, 117, 101] (by decide)
  have h32 := hh [102, 97, 108, 115, 101] (by decide)
  have h33 := hh [98, 101, 103, 105, 110] (by decide)
  have h34 := hh [99, 111, 109, 109, 105, 116] (by decide)
  have h35 := hh [114, 111, 108, 108, 98, 97, 99, 107] (by decide)
  have h36 := hh [116, 111] (by decide)
  have h37 := hh [115, 97, 118, 101, 112, 111, 105, 110, 116] (by decide)
  have h38 := hh [114, 101, 108, 101, 97, 115, 101] (by decide)
  have h39 := hh [105, 110, 116] (by decide)
  have h40 := hh [116, 101, 120, 116] (by decide)
  have h41 := hh [98, 108, 111, 98] (by decide)
  have h42 := hh [98, 111, 111, 108] (by decide)
  clear hh h
  go_enter Tryz.func218, Tryz.ntmps218
  go_wp2
  go_ret
  exact ⟨rfl, rfl⟩

set_option maxRecDepth 100000 in
set_option maxHeartbeats 1600000 in
theorem kw_0 (w : World) : Calls Tryz.prog 218 #[.string ⟨#[115, 101, 108, 101, 99, 116]⟩] w fun e w' => e = .returned (.bool true) ∧ w = w' := by
  go_enter Tryz.func218, Tryz.ntmps218
  go_wp2
  go_ret
  exact ⟨rfl, rfl⟩

set_option maxRecDepth 100000 in
set_option maxHeartbeats 1600000 in
theorem kw_1 (w : World) : Calls Tryz.prog 218 #[.string ⟨#[100, 105, 115, 116, 105, 110, 99, 116]⟩] w fun e w' => e = .returned (.bool true) ∧ w = w' := by
  go_enter Tryz.func218, Tryz.ntmps218
  go_wp2
  go_ret
  exact ⟨rfl, rfl⟩

set_option maxRecDepth 100000 in
set_option maxHeartbeats 1600000 in
theorem kw_2 (w : World) : Calls Tryz.prog 218 #[.string ⟨#[102, 114, 111, 109]⟩] w fun e w' => e = .returned (.bool true) ∧ w = w' := by
  go_enter Tryz.func218, Tryz.ntmps218
  go_wp2
  go_ret
  exact ⟨rfl, rfl⟩

set_option maxRecDepth 100000 in
set_option maxHeartbeats 1600000 in
theorem kw_3 (w : World) : Calls Tryz.prog 218 #[.string ⟨#[106, 111, 105, 110]⟩] w fun e w' => e = .returned (.bool true) ∧ w = w' := by
  go_enter Tryz.func218, Tryz.ntmps218
  go_wp2
  go_ret
  exact ⟨rfl, rfl⟩

set_option maxRecDepth 100000 in
set_option maxHeartbeats 1600000 in
theorem kw_4 (w : World) : Calls Tryz.prog 218 #[.string ⟨#[111, 110]⟩] w fun e w' => e = .returned (.bool true) ∧ w = w' := by
  go_enter Tryz.func218, Tryz.ntmps218
  go_wp2
  go_ret
  exact ⟨rfl, rfl⟩

set_option maxRecDepth 100000 in
set_option maxHeartbeats 1600000 in
theorem kw_5 (w : World) : Calls Tryz.prog 218 #[.string ⟨#[119, 104, 101, 114, 101]⟩] w fun e w' => e = .returned (.bool true) ∧ w = w' := by
  go_enter Tryz.func218, Tryz.ntmps218
  go_wp2
  go_ret
  exact ⟨rfl, rfl⟩

set_option maxRecDepth 100000 in
set_option maxHeartbeats 1600000 in
theorem kw_6 (w : World) : Calls Tryz.prog 218 #[.string ⟨#[103, 114, 111, 117, 112]⟩] w fun e w' => e = .returned (.bool true) ∧ w = w' := by
  go_enter Tryz.func218, Tryz.ntmps218
  go_wp2
  go_ret
  exact ⟨rfl, rfl⟩

set_option maxRecDepth 100000 in
set_option maxHeartbeats 1600000 in
theorem kw_7 (w : World) : Calls Tryz.prog 218 #[.string ⟨#[98, 121]⟩] w fun e w' => e = .returned (.bool true) ∧ w = w' := by
  go_enter Tryz.func218, Tryz.ntmps218
  go_wp2
  go_ret
  exact ⟨rfl, rfl⟩

set_option maxRecDepth 100000 in
set_option maxHeartbeats 1600000 in
theorem kw_8 (w : World) : Calls Tryz.prog 218 #[.string ⟨#[104, 97, 118, 105, 110, 103]⟩] w fun e w' => e = .returned (.bool true) ∧ w = w' := by
  go_enter Tryz.func218, Tryz.ntmps218
  go_wp2
  go_ret
  exact ⟨rfl, rfl⟩

set_option maxRecDepth 100000 in
set_option maxHeartbeats 1600000 in
theorem kw_9 (w : World) : Calls Tryz.prog 218 #[.string ⟨#[111, 114, 100, 101, 114]⟩] w fun e w' => e = .returned (.bool true) ∧ w = w' := by
  go_enter Tryz.func218, Tryz.ntmps218
  go_wp2
  go_ret
  exact ⟨rfl, rfl⟩

set_option maxRecDepth 100000 in
set_option maxHeartbeats 1600000 in
theorem kw_10 (w : World) : Calls Tryz.prog 218 #[.string ⟨#[97, 115, 99]⟩] w fun e w' => e = .returned (.bool true) ∧ w = w' := by
  go_enter Tryz.func218, Tryz.ntmps218
  go_wp2
  go_ret
  exact ⟨rfl, rfl⟩

set_option maxRecDepth 100000 in
set_option maxHeartbeats 1600000 in
theorem kw_11 (w : World) : Calls Tryz.prog 218 #[.string ⟨#[100, 101, 115, 99]⟩] w fun e w' => e = .returned (.bool true) ∧ w = w' := by
  go_enter Tryz.func218, Tryz.ntmps218
  go_wp2
  go_ret
  exact ⟨rfl, rfl⟩

set_option maxRecDepth 100000 in
set_option maxHeartbeats 1600000 in
theorem kw_12 (w : World) : Calls Tryz.prog 218 #[.string ⟨#[108, 105, 109, 105, 116]⟩] w fun e w' => e = .returned (.bool true) ∧ w = w' := by
  go_enter Tryz.func218, Tryz.ntmps218
  go_wp2
  go_ret
  exact ⟨rfl, rfl⟩

set_option maxRecDepth 100000 in
set_option maxHeartbeats 1600000 in
theorem kw_13 (w : World) : Calls Tryz.prog 218 #[.string ⟨#[111, 102, 102, 115, 101, 116]⟩] w fun e w' => e = .returned (.bool true) ∧ w = w' := by
  go_enter Tryz.func218, Tryz.ntmps218
  go_wp2
  go_ret
  exact ⟨rfl, rfl⟩

set_option maxRecDepth 100000 in
set_option maxHeartbeats 1600000 in
theorem kw_14 (w : World) : Calls Tryz.prog 218 #[.string ⟨#[97, 115]⟩] w fun e w' => e = .returned (.bool true) ∧ w = w' := by
  go_enter Tryz.func218, Tryz.ntmps218
  go_wp2
  go_ret
  exact ⟨rfl, rfl⟩

set_option maxRecDepth 100000 in
set_option maxHeartbeats 1600000 in
theorem kw_15 (w : World) : Calls Tryz.prog 218 #[.string ⟨#[105, 110, 115, 101, 114, 116]⟩] w fun e w' => e = .returned (.bool true) ∧ w = w' := by
  go_enter Tryz.func218, Tryz.ntmps218
  go_wp2
  go_ret
  exact ⟨rfl, rfl⟩

set_option maxRecDepth 100000 in
set_option maxHeartbeats 1600000 in
theorem kw_16 (w : World) : Calls Tryz.prog 218 #[.string ⟨#[105, 110, 116, 111]⟩] w fun e w' => e = .returned (.bool true) ∧ w = w' := by
  go_enter Tryz.func218, Tryz.ntmps218
  go_wp2
  go_ret
  exact ⟨rfl, rfl⟩

set_option maxRecDepth 100000 in
set_option maxHeartbeats 1600000 in
theorem kw_17 (w : World) : Calls Tryz.prog 218 #[.string ⟨#[118, 97, 108, 117, 101, 115]⟩] w fun e w' => e = .returned (.bool true) ∧ w = w' := by
  go_enter Tryz.func218, Tryz.ntmps218
  go_wp2
  go_ret
  exact ⟨rfl, rfl⟩

set_option maxRecDepth 100000 in
set_option maxHeartbeats 1600000 in
theorem kw_18 (w : World) : Calls Tryz.prog 218 #[.string ⟨#[117, 112, 100, 97, 116, 101]⟩] w fun e w' => e = .returned (.bool true) ∧ w = w' := by
  go_enter Tryz.func218, Tryz.ntmps218
  go_wp2
  go_ret
  exact ⟨rfl, rfl⟩

set_option maxRecDepth 100000 in
set_option maxHeartbeats 1600000 in
theorem kw_19 (w : World) : Calls Tryz.prog 218 #[.string ⟨#[115, 101, 116]⟩] w fun e w' => e = .returned (.bool true) ∧ w = w' := by
  go_enter Tryz.func218, Tryz.ntmps218
  go_wp2
  go_ret
  exact ⟨rfl, rfl⟩

set_option maxRecDepth 100000 in
set_option maxHeartbeats 1600000 in
theorem kw_20 (w : World) : Calls Tryz.prog 218 #[.string ⟨#[100, 101, 108, 101, 116, 101]⟩] w fun e w' => e = .returned (.bool true) ∧ w = w' := by
  go_enter Tryz.func218, Tryz.ntmps218
  go_wp2
  go_ret
  exact ⟨rfl, rfl⟩

set_option maxRecDepth 100000 in
set_option maxHeartbeats 1600000 in
theorem kw_21 (w : World) : Calls Tryz.prog 218 #[.string ⟨#[99, 114, 101, 97, 116, 101]⟩] w fun e w' => e = .returned (.bool true) ∧ w = w' := by
  go_enter Tryz.func218, Tryz.ntmps218
  go_wp2
  go_ret
  exact ⟨rfl, rfl⟩

set_option maxRecDepth 100000 in
set_option maxHeartbeats 1600000 in
theorem kw_22 (w : World) : Calls Tryz.prog 218 #[.string ⟨#[116, 97, 98, 108, 101]⟩] w fun e w' => e = .returned (.bool true) ∧ w = w' := by
  go_enter Tryz.func218, Tryz.ntmps218
  go_wp2
  go_ret
  exact ⟨rfl, rfl⟩

set_option maxRecDepth 100000 in
set_option maxHeartbeats 1600000 in
theorem kw_23 (w : World) : Calls Tryz.prog 218 #[.string ⟨#[117, 110, 105, 113, 117, 101]⟩] w fun e w' => e = .returned (.bool true) ∧ w = w' := by
  go_enter Tryz.func218, Tryz.ntmps218
  go_wp2
  go_ret
  exact ⟨rfl, rfl⟩

set_option maxRecDepth 100000 in
set_option maxHeartbeats 1600000 in
theorem kw_24 (w : World) : Calls Tryz.prog 218 #[.string ⟨#[105, 110, 100, 101, 120]⟩] w fun e w' => e = .returned (.bool true) ∧ w = w' := by
  go_enter Tryz.func218, Tryz.ntmps218
  go_wp2
  go_ret
  exact ⟨rfl, rfl⟩

set_option maxRecDepth 100000 in
set_option maxHeartbeats 1600000 in
theorem kw_25 (w : World) : Calls Tryz.prog 218 #[.string ⟨#[100, 114, 111, 112]⟩] w fun e w' => e = .returned (.bool true) ∧ w = w' := by
  go_enter Tryz.func218, Tryz.ntmps218
  go_wp2
  go_ret
  exact ⟨rfl, rfl⟩

set_option maxRecDepth 100000 in
set_option maxHeartbeats 1600000 in
theorem kw_26 (w : World) : Calls Tryz.prog 218 #[.string ⟨#[110, 111, 116]⟩] w fun e w' => e = .returned (.bool true) ∧ w = w' := by
  go_enter Tryz.func218, Tryz.ntmps218
  go_wp2
  go_ret
  exact ⟨rfl, rfl⟩

set_option maxRecDepth 100000 in
set_option maxHeartbeats 1600000 in
theorem kw_27 (w : World) : Calls Tryz.prog 218 #[.string ⟨#[110, 117, 108, 108]⟩] w fun e w' => e = .returned (.bool true) ∧ w = w' := by
  go_enter Tryz.func218, Tryz.ntmps218
  go_wp2
  go_ret
  exact ⟨rfl, rfl⟩

set_option maxRecDepth 100000 in
set_option maxHeartbeats 1600000 in
theorem kw_28 (w : World) : Calls Tryz.prog 218 #[.string ⟨#[105, 115]⟩] w fun e w' => e = .returned (.bool true) ∧ w = w' := by
  go_enter Tryz.func218, Tryz.ntmps218
  go_wp2
  go_ret
  exact ⟨rfl, rfl⟩

set_option maxRecDepth 100000 in
set_option maxHeartbeats 1600000 in
theorem kw_29 (w : World) : Calls Tryz.prog 218 #[.string ⟨#[97, 110, 100]⟩] w fun e w' => e = .returned (.bool true) ∧ w = w' := by
  go_enter Tryz.func218, Tryz.ntmps218
  go_wp2
  go_ret
  exact ⟨rfl, rfl⟩

set_option maxRecDepth 100000 in
set_option maxHeartbeats 1600000 in
theorem kw_30 (w : World) : Calls Tryz.prog 218 #[.string ⟨#[111, 114]⟩] w fun e w' => e = .returned (.bool true) ∧ w = w' := by
  go_enter Tryz.func218, Tryz.ntmps218
  go_wp2
  go_ret
  exact ⟨rfl, rfl⟩

set_option maxRecDepth 100000 in
set_option maxHeartbeats 1600000 in
theorem kw_31 (w : World) : Calls Tryz.prog 218 #[.string ⟨#[116, 114, 117, 101]⟩] w fun e w' => e = .returned (.bool true) ∧ w = w' := by
  go_enter Tryz.func218, Tryz.ntmps218
  go_wp2
  go_ret
  exact ⟨rfl, rfl⟩

set_option maxRecDepth 100000 in
set_option maxHeartbeats 1600000 in
theorem kw_32 (w : World) : Calls Tryz.prog 218 #[.string ⟨#[102, 97, 108, 115, 101]⟩] w fun e w' => e = .returned (.bool true) ∧ w = w' := by
  go_enter Tryz.func218, Tryz.ntmps218
  go_wp2
  go_ret
  exact ⟨rfl, rfl⟩

set_option maxRecDepth 100000 in
set_option maxHeartbeats 1600000 in
theorem kw_33 (w : World) : Calls Tryz.prog 218 #[.string ⟨#[98, 101, 103, 105, 110]⟩] w fun e w' => e = .returned (.bool true) ∧ w = w' := by
  go_enter Tryz.func218, Tryz.ntmps218
  go_wp2
  go_ret
  exact ⟨rfl, rfl⟩

set_option maxRecDepth 100000 in
set_option maxHeartbeats 1600000 in
theorem kw_34 (w : World) : Calls Tryz.prog 218 #[.string ⟨#[99, 111, 109, 109, 105, 116]⟩] w fun e w' => e = .returned (.bool true) ∧ w = w' := by
  go_enter Tryz.func218, Tryz.ntmps218
  go_wp2
  go_ret
  exact ⟨rfl, rfl⟩

set_option maxRecDepth 100000 in
set_option maxHeartbeats 1600000 in
theorem kw_35 (w : World) : Calls Tryz.prog 218 #[.string ⟨#[114, 111, 108, 108, 98, 97, 99, 107]⟩] w fun e w' => e = .returned (.bool true) ∧ w = w' := by
  go_enter Tryz.func218, Tryz.ntmps218
  go_wp2
  go_ret
  exact ⟨rfl, rfl⟩

set_option maxRecDepth 100000 in
set_option maxHeartbeats 1600000 in
theorem kw_36 (w : World) : Calls Tryz.prog 218 #[.string ⟨#[116, 111]⟩] w fun e w' => e = .returned (.bool true) ∧ w = w' := by
  go_enter Tryz.func218, Tryz.ntmps218
  go_wp2
  go_ret
  exact ⟨rfl, rfl⟩

set_option maxRecDepth 100000 in
set_option maxHeartbeats 1600000 in
theorem kw_37 (w : World) : Calls Tryz.prog 218 #[.string ⟨#[115, 97, 118, 101, 112, 111, 105, 110, 116]⟩] w fun e w' => e = .returned (.bool true) ∧ w = w' := by
  go_enter Tryz.func218, Tryz.ntmps218
  go_wp2
  go_ret
  exact ⟨rfl, rfl⟩

set_option maxRecDepth 100000 in
set_option maxHeartbeats 1600000 in
theorem kw_38 (w : World) : Calls Tryz.prog 218 #[.string ⟨#[114, 101, 108, 101, 97, 115, 101]⟩] w fun e w' => e = .returned (.bool true) ∧ w = w' := by
  go_enter Tryz.func218, Tryz.ntmps218
  go_wp2
  go_ret
  exact ⟨rfl, rfl⟩

set_option maxRecDepth 100000 in
set_option maxHeartbeats 1600000 in
theorem kw_39 (w : World) : Calls Tryz.prog 218 #[.string ⟨#[105, 110, 116]⟩] w fun e w' => e = .returned (.bool true) ∧ w = w' := by
  go_enter Tryz.func218, Tryz.ntmps218
  go_wp2
  go_ret
  exact ⟨rfl, rfl⟩

set_option maxRecDepth 100000 in
set_option maxHeartbeats 1600000 in
theorem kw_40 (w : World) : Calls Tryz.prog 218 #[.string ⟨#[116, 101, 120, 116]⟩] w fun e w' => e = .returned (.bool true) ∧ w = w' := by
  go_enter Tryz.func218, Tryz.ntmps218
  go_wp2
  go_ret
  exact ⟨rfl, rfl⟩

set_option maxRecDepth 100000 in
set_option maxHeartbeats 1600000 in
theorem kw_41 (w : World) : Calls Tryz.prog 218 #[.string ⟨#[98, 108, 111, 98]⟩] w fun e w' => e = .returned (.bool true) ∧ w = w' := by
  go_enter Tryz.func218, Tryz.ntmps218
  go_wp2
  go_ret
  exact ⟨rfl, rfl⟩

set_option maxRecDepth 100000 in
set_option maxHeartbeats 1600000 in
theorem kw_42 (w : World) : Calls Tryz.prog 218 #[.string ⟨#[98, 111, 111, 108]⟩] w fun e w' => e = .returned (.bool true) ∧ w = w' := by
  go_enter Tryz.func218, Tryz.ntmps218
  go_wp2
  go_ret
  exact ⟨rfl, rfl⟩

theorem of_list {s : ByteArray} {l : List UInt8} (h : s.toList = l) : s = ⟨l.toArray⟩ := by
  obtain ⟨⟨d⟩⟩ := s
  rw [Lib.toList_data] at h
  simp only at h
  rw [h]

theorem kw_calls (s : ByteArray) (w : World) : Calls Tryz.prog 218 #[.string s] w fun e w' => e = .returned (.bool (kwList.contains s.toList)) ∧ w = w' := by
  cases hk : kwList.contains s.toList with
  | false => exact kw_no s w hk
  | true =>
    have hm := List.contains_iff_mem.1 hk
    clear hk
    simp only [kwList, List.mem_cons, List.not_mem_nil, or_false] at hm
    rcases hm with h | h | h | h | h | h | h | h | h | h | h | h | h | h | h | h | h | h | h | h | h | h | h | h | h | h | h | h | h | h | h | h | h | h | h | h | h | h | h | h | h | h | h
    · rw [of_list h]; exact kw_0 w
    · rw [of_list h]; exact kw_1 w
    · rw [of_list h]; exact kw_2 w
    · rw [of_list h]; exact kw_3 w
    · rw [of_list h]; exact kw_4 w
    · rw [of_list h]; exact kw_5 w
    · rw [of_list h]; exact kw_6 w
    · rw [of_list h]; exact kw_7 w
    · rw [of_list h]; exact kw_8 w
    · rw [of_list h]; exact kw_9 w
    · rw [of_list h]; exact kw_10 w
    · rw [of_list h]; exact kw_11 w
    · rw [of_list h]; exact kw_12 w
    · rw [of_list h]; exact kw_13 w
    · rw [of_list h]; exact kw_14 w
    · rw [of_list h]; exact kw_15 w
    · rw [of_list h]; exact kw_16 w
    · rw [of_list h]; exact kw_17 w
    · rw [of_list h]; exact kw_18 w
    · rw [of_list h]; exact kw_19 w
    · rw [of_list h]; exact kw_20 w
    · rw [of_list h]; exact kw_21 w
    · rw [of_list h]; exact kw_22 w
    · rw [of_list h]; exact kw_23 w
    · rw [of_list h]; exact kw_24 w
    · rw [of_list h]; exact kw_25 w
    · rw [of_list h]; exact kw_26 w
    · rw [of_list h]; exact kw_27 w
    · rw [of_list h]; exact kw_28 w
    · rw [of_list h]; exact kw_29 w
    · rw [of_list h]; exact kw_30 w
    · rw [of_list h]; exact kw_31 w
    · rw [of_list h]; exact kw_32 w
    · rw [of_list h]; exact kw_33 w
    · rw [of_list h]; exact kw_34 w
    · rw [of_list h]; exact kw_35 w
    · rw [of_list h]; exact kw_36 w
    · rw [of_list h]; exact kw_37 w
    · rw [of_list h]; exact kw_38 w
    · rw [of_list h]; exact kw_39 w
    · rw [of_list h]; exact kw_40 w
    · rw [of_list h]; exact kw_41 w
    · rw [of_list h]; exact kw_42 w

/-- The bytes up to the next blank. -/
def tok (i : Nat) : List UInt8 := (kwText.drop (i + 1)).takeWhile (fun c => c != 32)
theorem toks : ∀ i, i ≤ kwText.length → kwText[i]? = some 32 → tok i = [] ∨ kwList.contains (tok i) = true := by decide +kernel
theorem all_in : ∀ l, l ∈ kwList → Lib.contains kwText ([32] ++ l ++ [32]) = true := by decide +kernel

theorem takeWhile_word (w r : List UInt8) (h : ∀ c ∈ w, c ≠ 32) : (w ++ 32 :: r).takeWhile (fun c => c != 32) = w := by
  induction w with
  | nil => simp
  | cons c w ih =>
    have hc := h c (by simp)
    simp only [List.cons_append]
    rw [List.takeWhile_cons_of_pos (by simpa using hc), ih (fun d hd => h d (by simp [hd]))]

theorem kwc_eq (s : ByteArray) (hs : 0 < s.size) (hno : ∀ c ∈ s.data.toList, c ≠ 32) : kwc s = kwList.contains s.toList := by
  rw [Lib.toList_data, Bool.eq_iff_iff]
  constructor
  · intro h
    unfold kwc Lib.contains at h
    rw [decide_eq_true_eq] at h
    rcases Lib.index_spec kwText ([32] ++ s.data.toList ++ [32]) with ⟨h1, _⟩ | ⟨i, h1, hi, hocc, _⟩
    · omega
    · have hne : s.data.toList ≠ [] := by
        intro h2
        have h3 : s.data.toList.length = s.size := rfl
        rw [h2] at h3
        simp only [List.length_nil] at h3
        omega
      unfold Lib.occAt at hocc
      rw [List.isPrefixOf_iff_prefix] at hocc
      obtain ⟨r, hr⟩ := hocc
      have hr2 : kwText.drop i = 32 :: (s.data.toList ++ 32 :: r) := by rw [← hr]; simp
      have h0 : kwText[i]? = some 32 := by
        have := congrArg (fun l => l[0]?) hr2
        simpa using this
      have ht : tok i = s.data.toList := by
        unfold tok
        have : kwText.drop (i + 1) = s.data.toList ++ 32 :: r := by
          have := congrArg (List.drop 1) hr2
          rw [List.drop_drop] at this
          simpa using this
        rw [this]
        exact takeWhile_word _ _ hno
      rcases toks i hi h0 with h2 | h2
      · rw [ht] at h2; exact absurd h2 hne
      · rw [ht] at h2; exact h2
  · intro h
    exact all_in _ (List.contains_iff_mem.1 h)


theorem kw_sp (s : ByteArray) (h : 32 ∈ s.data.toList) : kwList.contains s.toList = false := by
  rw [Lib.toList_data]
  cases hc : kwList.contains s.data.toList with
  | false => rfl
  | true =>
    exfalso
    have h2 : ∀ l, l ∈ kwList → l.contains 32 = false := by decide +kernel
    have h3 := h2 _ (List.contains_iff_mem.1 hc)
    rw [List.contains_iff_mem.2 h] at h3
    cases h3
theorem kw_empty (s : ByteArray) (h : s.size = 0) : kwList.contains s.toList = false := by
  have h2 : s.data.toList = [] := List.length_eq_zero_iff.1 h
  rw [Lib.toList_data, h2]
  decide +kernel

set_option maxRecDepth 100000 in
set_option maxHeartbeats 1600000 in
theorem keyword_calls (s : ByteArray) (w : World) (hsz : s.size ≤ 140737488351232) (hsh : w.ShapedOpen Tryz.prog) :
    Calls Tryz.prog 55 #[.string s] w fun e w' => e = .returned (.bool (kwList.contains s.toList)) ∧ w = w' := by
  by_cases hs : s.size = 0
  · rw [kw_empty s hs]
    have h2 : s.data.toList = [] := List.length_eq_zero_iff.1 hs
    have h3 : s.toList = [] := by rw [Lib.toList_data, h2]
    have h4 : (!s.toList.isEmpty) = false := by rw [h3]; rfl
    clear h2 hs
    go_enter Tryz.func55, Tryz.ntmps55
    go_wp2
    go_ret
    exact ⟨rfl, rfl⟩
  · have hem := nonempty s (by omega)
    have hem2 : s.toList.isEmpty = false := by simpa using hem
    have hem3 : (!s.toList.isEmpty) = true := by rw [hem2]; rfl
    by_cases hsp : 32 ∈ s.data.toList
    · rw [kw_sp s hsp]
      have HIX : Asd (decide (0 ≤ Lib.indexByte s.data.toList 32) = true) := Asd.mk (by
        rw [decide_eq_true_eq]
        have hge := Lib.indexByte_ge s.data.toList 32
        by_cases hm : Lib.indexByte s.data.toList 32 = -1
        · exfalso
          obtain ⟨j, hj, hjc⟩ := List.getElem_of_mem hsp
          exact Lib.indexByte_none hm j (by rw [List.getElem?_eq_getElem hj, hjc])
        · omega)
      clear hsp
      go_enter Tryz.func55, Tryz.ntmps55
      go_wp2_with fail
      refine (Tryz.strings_Contains_one _ 32 _).mono ?_
      rintro e w' ⟨rfl, rfl⟩
      rw [HIX.out]
      go_wp2
      go_ret
      exact ⟨rfl, rfl⟩
    · have HIX : Asd (decide (0 ≤ Lib.indexByte s.data.toList 32) = false) := Asd.mk (by
        rw [decide_eq_false_iff_not]
        intro h0
        obtain ⟨o, ho⟩ := Int.eq_ofNat_of_zero_le h0
        have h1 := (Lib.indexByte_some ho).1
        exact hsp (List.mem_of_getElem? h1))
      have HKW := Asd.mk (kwc_eq s (by omega) (fun c hc e => hsp (e ▸ hc)))
      have HSH := Asd.mk hsh
      clear hsp hsh
      go_enter Tryz.func55, Tryz.ntmps55
      go_wp2_with fail
      refine (Tryz.strings_Contains_one _ 32 _).mono ?_
      rintro e w' ⟨rfl, rfl⟩
      rw [HIX.out]
      go_wp2_with fail
      refine (Tryz.strings_Contains_shaped _ _ _ HSH.out (by decide)).mono ?_
      rintro e w' ⟨rfl, rfl⟩
      generalize hb : Lib.contains _ _ = bb
      have hbb : Asd (bb = kwc s) := Asd.mk (by rw [← hb]; simp [kwc, kwText])
      clear hb
      rw [hbb.out, HKW.out]
      generalize hkk : kwList.contains s.toList = kk
      have HKK := Asd.mk hkk
      clear hkk
      go_wp2
      go_ret
      exact ⟨ret_eq (by first | (rw [HKK.out]; done) | (rw [HKK.out]; rfl)), rfl⟩

end Go.Proofs.YtcefmhofidoloaaGreatDoor.Lex
