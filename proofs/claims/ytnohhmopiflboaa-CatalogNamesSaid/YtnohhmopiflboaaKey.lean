/- CatalogNames: whether a text is a keyword; the catalog's one text of keywords has just these words. -/
import Derived.Test.YtnohhmopiflboaaNames
set_option linter.unusedVariables false
set_option linter.unusedSimpArgs false
namespace Go.Proofs.Ytnohhmopiflboaa.Cat
open Go.RowKit Go.Proofs.Ytnohhmopiflboaa.Base

set_option maxRecDepth 100000 in
set_option maxHeartbeats 1600000 in
theorem kw_no (s : ByteArray) (w : World) (h : kwList.contains s.toList = false) :
    Calls Try.prog 44 #[.string s] w fun e w' => e = .returned (.bool false) ∧ w = w' := by
  have hh : ∀ l, l ∈ kwList → (s.toList == l) = false := by
    intro l hl
    rw [beq_eq_false_iff_ne]
    rintro rfl
    rw [List.contains_iff_mem.2 hl] at h
    cases h
  have h0 := hh [115, 101, 108, 101, 99, 116] (by decide)
  have h1 := hh [100, 105, 115, 116, 105, 110, 99, 116] (by decide)
  have h2 := hh [102, 114, 111, 109] (by decide)
  have h3 := hh [106, 111, 105, 110] (by decide)
  have h4 := hh [111, 110] (by decide)
  have h5 := hh [119, 104, 101, 114, 101] (by decide)
  have h6 := hh [103, 114, 111, 117, 112] (by decide)
  have h7 := hh [98, 121] (by decide)
  have h8 := hh [104, 97, 118, 105, 110, 103] (by decide)
  have h9 := hh [111, 114, 100, 101, 114] (by decide)
  have h10 := hh [97, 115, 99] (by decide)
  have h11 := hh [100, 101, 115, 99] (by decide)
  have h12 := hh [108, 105, 109, 105, 116] (by decide)
  have h13 := hh [111, 102, 102, 115, 101, 116] (by decide)
  have h14 := hh [97, 115] (by decide)
  have h15 := hh [105, 110, 115, 101, 114, 116] (by decide)
  have h16 := hh [105, 110, 116, 111] (by decide)
  have h17 := hh [118, 97, 108, 117, 101, 115] (by decide)
  have h18 := hh [117, 112, 100, 97, 116, 101] (by decide)
  have h19 := hh [115, 101, 116] (by decide)
  have h20 := hh [100, 101, 108, 101, 116, 101] (by decide)
  have h21 := hh [99, 114, 101, 97, 116, 101] (by decide)
  have h22 := hh [116, 97, 98, 108, 101] (by decide)
  have h23 := hh [117, 110, 105, 113, 117, 101] (by decide)
  have h24 := hh [105, 110, 100, 101, 120] (by decide)
  have h25 := hh [100, 114, 111, 112] (by decide)
  have h26 := hh [110, 111, 116] (by decide)
  have h27 := hh [110, 117, 108, 108] (by decide)
  have h28 := hh [105, 115] (by decide)
  have h29 := hh [97, 110, 100] (by decide)
  have h30 := hh [111, 114] (by decide)
  have h31 := hh [116, 114, 117, 101] (by decide)
  have h32 := hh [102, 97, 108, 115, 101] (by decide)
  have h33 := hh [98, 101, 103, 105, 110] (by decide)
  have h34 := hh [99, 111, 109, 109, 105, 116] (by decide)
  have h35 := hh [114, 111, 108, 108, 98, 97, 99, 107] (by decide)
  have h36 := hh [116, 111] (by decide)
  have h37 := hh [115, 97, 118, 101, 112, 111, 105, 110, 116] (by decide)
  have h38 := hh [114, 101, 108, 101, 97, 115, 101] (by decide)
  have h39 := hh [105, 110, 116] (by decide)
  have h40 := hh [116, 101, 120, 116] (by decide)
  have h41 := hh [98, 108, 111, 98] (by decide)
  have h42 := hh [98, 111, 111, 108] (by decide)
  clear hh h
  go_enter Try.func44, Try.ntmps44
  go_wp2
  go_ret
  exact ⟨rfl, rfl⟩

set_option maxRecDepth 100000 in
set_option maxHeartbeats 1600000 in
theorem kw_0 (w : World) : Calls Try.prog 44 #[.string ⟨#[115, 101, 108, 101, 99, 116]⟩] w fun e w' => e = .returned (.bool true) ∧ w = w' := by
  go_enter Try.func44, Try.ntmps44
  go_wp2
  go_ret
  exact ⟨rfl, rfl⟩

set_option maxRecDepth 100000 in
set_option maxHeartbeats 1600000 in
theorem kw_1 (w : World) : Calls Try.prog 44 #[.string ⟨#[100, 105, 115, 116, 105, 110, 99, 116]⟩] w fun e w' => e = .returned (.bool true) ∧ w = w' := by
  go_enter Try.func44, Try.ntmps44
  go_wp2
  go_ret
  exact ⟨rfl, rfl⟩

set_option maxRecDepth 100000 in
set_option maxHeartbeats 1600000 in
theorem kw_2 (w : World) : Calls Try.prog 44 #[.string ⟨#[102, 114, 111, 109]⟩] w fun e w' => e = .returned (.bool true) ∧ w = w' := by
  go_enter Try.func44, Try.ntmps44
  go_wp2
  go_ret
  exact ⟨rfl, rfl⟩

set_option maxRecDepth 100000 in
set_option maxHeartbeats 1600000 in
theorem kw_3 (w : World) : Calls Try.prog 44 #[.string ⟨#[106, 111, 105, 110]⟩] w fun e w' => e = .returned (.bool true) ∧ w = w' := by
  go_enter Try.func44, Try.ntmps44
  go_wp2
  go_ret
  exact ⟨rfl, rfl⟩

set_option maxRecDepth 100000 in
set_option maxHeartbeats 1600000 in
theorem kw_4 (w : World) : Calls Try.prog 44 #[.string ⟨#[111, 110]⟩] w fun e w' => e = .returned (.bool true) ∧ w = w' := by
  go_enter Try.func44, Try.ntmps44
  go_wp2
  go_ret
  exact ⟨rfl, rfl⟩

set_option maxRecDepth 100000 in
set_option maxHeartbeats 1600000 in
theorem kw_5 (w : World) : Calls Try.prog 44 #[.string ⟨#[119, 104, 101, 114, 101]⟩] w fun e w' => e = .returned (.bool true) ∧ w = w' := by
  go_enter Try.func44, Try.ntmps44
  go_wp2
  go_ret
  exact ⟨rfl, rfl⟩

set_option maxRecDepth 100000 in
set_option maxHeartbeats 1600000 in
theorem kw_6 (w : World) : Calls Try.prog 44 #[.string ⟨#[103, 114, 111, 117, 112]⟩] w fun e w' => e = .returned (.bool true) ∧ w = w' := by
  go_enter Try.func44, Try.ntmps44
  go_wp2
  go_ret
  exact ⟨rfl, rfl⟩

set_option maxRecDepth 100000 in
set_option maxHeartbeats 1600000 in
theorem kw_7 (w : World) : Calls Try.prog 44 #[.string ⟨#[98, 121]⟩] w fun e w' => e = .returned (.bool true) ∧ w = w' := by
  go_enter Try.func44, Try.ntmps44
  go_wp2
  go_ret
  exact ⟨rfl, rfl⟩

set_option maxRecDepth 100000 in
set_option maxHeartbeats 1600000 in
theorem kw_8 (w : World) : Calls Try.prog 44 #[.string ⟨#[104, 97, 118, 105, 110, 103]⟩] w fun e w' => e = .returned (.bool true) ∧ w = w' := by
  go_enter Try.func44, Try.ntmps44
  go_wp2
  go_ret
  exact ⟨rfl, rfl⟩

set_option maxRecDepth 100000 in
set_option maxHeartbeats 1600000 in
theorem kw_9 (w : World) : Calls Try.prog 44 #[.string ⟨#[111, 114, 100, 101, 114]⟩] w fun e w' => e = .returned (.bool true) ∧ w = w' := by
  go_enter Try.func44, Try.ntmps44
  go_wp2
  go_ret
  exact ⟨rfl, rfl⟩

set_option maxRecDepth 100000 in
set_option maxHeartbeats 1600000 in
theorem kw_10 (w : World) : Calls Try.prog 44 #[.string ⟨#[97, 115, 99]⟩] w fun e w' => e = .returned (.bool true) ∧ w = w' := by
  go_enter Try.func44, Try.ntmps44
  go_wp2
  go_ret
  exact ⟨rfl, rfl⟩

set_option maxRecDepth 100000 in
set_option maxHeartbeats 1600000 in
theorem kw_11 (w : World) : Calls Try.prog 44 #[.string ⟨#[100, 101, 115, 99]⟩] w fun e w' => e = .returned (.bool true) ∧ w = w' := by
  go_enter Try.func44, Try.ntmps44
  go_wp2
  go_ret
  exact ⟨rfl, rfl⟩

set_option maxRecDepth 100000 in
set_option maxHeartbeats 1600000 in
theorem kw_12 (w : World) : Calls Try.prog 44 #[.string ⟨#[108, 105, 109, 105, 116]⟩] w fun e w' => e = .returned (.bool true) ∧ w = w' := by
  go_enter Try.func44, Try.ntmps44
  go_wp2
  go_ret
  exact ⟨rfl, rfl⟩

set_option maxRecDepth 100000 in
set_option maxHeartbeats 1600000 in
theorem kw_13 (w : World) : Calls Try.prog 44 #[.string ⟨#[111, 102, 102, 115, 101, 116]⟩] w fun e w' => e = .returned (.bool true) ∧ w = w' := by
  go_enter Try.func44, Try.ntmps44
  go_wp2
  go_ret
  exact ⟨rfl, rfl⟩

set_option maxRecDepth 100000 in
set_option maxHeartbeats 1600000 in
theorem kw_14 (w : World) : Calls Try.prog 44 #[.string ⟨#[97, 115]⟩] w fun e w' => e = .returned (.bool true) ∧ w = w' := by
  go_enter Try.func44, Try.ntmps44
  go_wp2
  go_ret
  exact ⟨rfl, rfl⟩

set_option maxRecDepth 100000 in
set_option maxHeartbeats 1600000 in
theorem kw_15 (w : World) : Calls Try.prog 44 #[.string ⟨#[105, 110, 115, 101, 114, 116]⟩] w fun e w' => e = .returned (.bool true) ∧ w = w' := by
  go_enter Try.func44, Try.ntmps44
  go_wp2
  go_ret
  exact ⟨rfl, rfl⟩

set_option maxRecDepth 100000 in
set_option maxHeartbeats 1600000 in
theorem kw_16 (w : World) : Calls Try.prog 44 #[.string ⟨#[105, 110, 116, 111]⟩] w fun e w' => e = .returned (.bool true) ∧ w = w' := by
  go_enter Try.func44, Try.ntmps44
  go_wp2
  go_ret
  exact ⟨rfl, rfl⟩

set_option maxRecDepth 100000 in
set_option maxHeartbeats 1600000 in
theorem kw_17 (w : World) : Calls Try.prog 44 #[.string ⟨#[118, 97, 108, 117, 101, 115]⟩] w fun e w' => e = .returned (.bool true) ∧ w = w' := by
  go_enter Try.func44, Try.ntmps44
  go_wp2
  go_ret
  exact ⟨rfl, rfl⟩

set_option maxRecDepth 100000 in
set_option maxHeartbeats 1600000 in
theorem kw_18 (w : World) : Calls Try.prog 44 #[.string ⟨#[117, 112, 100, 97, 116, 101]⟩] w fun e w' => e = .returned (.bool true) ∧ w = w' := by
  go_enter Try.func44, Try.ntmps44
  go_wp2
  go_ret
  exact ⟨rfl, rfl⟩

set_option maxRecDepth 100000 in
set_option maxHeartbeats 1600000 in
theorem kw_19 (w : World) : Calls Try.prog 44 #[.string ⟨#[115, 101, 116]⟩] w fun e w' => e = .returned (.bool true) ∧ w = w' := by
  go_enter Try.func44, Try.ntmps44
  go_wp2
  go_ret
  exact ⟨rfl, rfl⟩

set_option maxRecDepth 100000 in
set_option maxHeartbeats 1600000 in
theorem kw_20 (w : World) : Calls Try.prog 44 #[.string ⟨#[100, 101, 108, 101, 116, 101]⟩] w fun e w' => e = .returned (.bool true) ∧ w = w' := by
  go_enter Try.func44, Try.ntmps44
  go_wp2
  go_ret
  exact ⟨rfl, rfl⟩

set_option maxRecDepth 100000 in
set_option maxHeartbeats 1600000 in
theorem kw_21 (w : World) : Calls Try.prog 44 #[.string ⟨#[99, 114, 101, 97, 116, 101]⟩] w fun e w' => e = .returned (.bool true) ∧ w = w' := by
  go_enter Try.func44, Try.ntmps44
  go_wp2
  go_ret
  exact ⟨rfl, rfl⟩

set_option maxRecDepth 100000 in
set_option maxHeartbeats 1600000 in
theorem kw_22 (w : World) : Calls Try.prog 44 #[.string ⟨#[116, 97, 98, 108, 101]⟩] w fun e w' => e = .returned (.bool true) ∧ w = w' := by
  go_enter Try.func44, Try.ntmps44
  go_wp2
  go_ret
  exact ⟨rfl, rfl⟩

set_option maxRecDepth 100000 in
set_option maxHeartbeats 1600000 in
theorem kw_23 (w : World) : Calls Try.prog 44 #[.string ⟨#[117, 110, 105, 113, 117, 101]⟩] w fun e w' => e = .returned (.bool true) ∧ w = w' := by
  go_enter Try.func44, Try.ntmps44
  go_wp2
  go_ret
  exact ⟨rfl, rfl⟩

set_option maxRecDepth 100000 in
set_option maxHeartbeats 1600000 in
theorem kw_24 (w : World) : Calls Try.prog 44 #[.string ⟨#[105, 110, 100, 101, 120]⟩] w fun e w' => e = .returned (.bool true) ∧ w = w' := by
  go_enter Try.func44, Try.ntmps44
  go_wp2
  go_ret
  exact ⟨rfl, rfl⟩

set_option maxRecDepth 100000 in
set_option maxHeartbeats 1600000 in
theorem kw_25 (w : World) : Calls Try.prog 44 #[.string ⟨#[100, 114, 111, 112]⟩] w fun e w' => e = .returned (.bool true) ∧ w = w' := by
  go_enter Try.func44, Try.ntmps44
  go_wp2
  go_ret
  exact ⟨rfl, rfl⟩

set_option maxRecDepth 100000 in
set_option maxHeartbeats 1600000 in
theorem kw_26 (w : World) : Calls Try.prog 44 #[.string ⟨#[110, 111, 116]⟩] w fun e w' => e = .returned (.bool true) ∧ w = w' := by
  go_enter Try.func44, Try.ntmps44
  go_wp2
  go_ret
  exact ⟨rfl, rfl⟩

set_option maxRecDepth 100000 in
set_option maxHeartbeats 1600000 in
theorem kw_27 (w : World) : Calls Try.prog 44 #[.string ⟨#[110, 117, 108, 108]⟩] w fun e w' => e = .returned (.bool true) ∧ w = w' := by
  go_enter Try.func44, Try.ntmps44
  go_wp2
  go_ret
  exact ⟨rfl, rfl⟩

set_option maxRecDepth 100000 in
set_option maxHeartbeats 1600000 in
theorem kw_28 (w : World) : Calls Try.prog 44 #[.string ⟨#[105, 115]⟩] w fun e w' => e = .returned (.bool true) ∧ w = w' := by
  go_enter Try.func44, Try.ntmps44
  go_wp2
  go_ret
  exact ⟨rfl, rfl⟩

set_option maxRecDepth 100000 in
set_option maxHeartbeats 1600000 in
theorem kw_29 (w : World) : Calls Try.prog 44 #[.string ⟨#[97, 110, 100]⟩] w fun e w' => e = .returned (.bool true) ∧ w = w' := by
  go_enter Try.func44, Try.ntmps44
  go_wp2
  go_ret
  exact ⟨rfl, rfl⟩

set_option maxRecDepth 100000 in
set_option maxHeartbeats 1600000 in
theorem kw_30 (w : World) : Calls Try.prog 44 #[.string ⟨#[111, 114]⟩] w fun e w' => e = .returned (.bool true) ∧ w = w' := by
  go_enter Try.func44, Try.ntmps44
  go_wp2
  go_ret
  exact ⟨rfl, rfl⟩

set_option maxRecDepth 100000 in
set_option maxHeartbeats 1600000 in
theorem kw_31 (w : World) : Calls Try.prog 44 #[.string ⟨#[116, 114, 117, 101]⟩] w fun e w' => e = .returned (.bool true) ∧ w = w' := by
  go_enter Try.func44, Try.ntmps44
  go_wp2
  go_ret
  exact ⟨rfl, rfl⟩

set_option maxRecDepth 100000 in
set_option maxHeartbeats 1600000 in
theorem kw_32 (w : World) : Calls Try.prog 44 #[.string ⟨#[102, 97, 108, 115, 101]⟩] w fun e w' => e = .returned (.bool true) ∧ w = w' := by
  go_enter Try.func44, Try.ntmps44
  go_wp2
  go_ret
  exact ⟨rfl, rfl⟩

set_option maxRecDepth 100000 in
set_option maxHeartbeats 1600000 in
theorem kw_33 (w : World) : Calls Try.prog 44 #[.string ⟨#[98, 101, 103, 105, 110]⟩] w fun e w' => e = .returned (.bool true) ∧ w = w' := by
  go_enter Try.func44, Try.ntmps44
  go_wp2
  go_ret
  exact ⟨rfl, rfl⟩

set_option maxRecDepth 100000 in
set_option maxHeartbeats 1600000 in
theorem kw_34 (w : World) : Calls Try.prog 44 #[.string ⟨#[99, 111, 109, 109, 105, 116]⟩] w fun e w' => e = .returned (.bool true) ∧ w = w' := by
  go_enter Try.func44, Try.ntmps44
  go_wp2
  go_ret
  exact ⟨rfl, rfl⟩

set_option maxRecDepth 100000 in
set_option maxHeartbeats 1600000 in
theorem kw_35 (w : World) : Calls Try.prog 44 #[.string ⟨#[114, 111, 108, 108, 98, 97, 99, 107]⟩] w fun e w' => e = .returned (.bool true) ∧ w = w' := by
  go_enter Try.func44, Try.ntmps44
  go_wp2
  go_ret
  exact ⟨rfl, rfl⟩

set_option maxRecDepth 100000 in
set_option maxHeartbeats 1600000 in
theorem kw_36 (w : World) : Calls Try.prog 44 #[.string ⟨#[116, 111]⟩] w fun e w' => e = .returned (.bool true) ∧ w = w' := by
  go_enter Try.func44, Try.ntmps44
  go_wp2
  go_ret
  exact ⟨rfl, rfl⟩

set_option maxRecDepth 100000 in
set_option maxHeartbeats 1600000 in
theorem kw_37 (w : World) : Calls Try.prog 44 #[.string ⟨#[115, 97, 118, 101, 112, 111, 105, 110, 116]⟩] w fun e w' => e = .returned (.bool true) ∧ w = w' := by
  go_enter Try.func44, Try.ntmps44
  go_wp2
  go_ret
  exact ⟨rfl, rfl⟩

set_option maxRecDepth 100000 in
set_option maxHeartbeats 1600000 in
theorem kw_38 (w : World) : Calls Try.prog 44 #[.string ⟨#[114, 101, 108, 101, 97, 115, 101]⟩] w fun e w' => e = .returned (.bool true) ∧ w = w' := by
  go_enter Try.func44, Try.ntmps44
  go_wp2
  go_ret
  exact ⟨rfl, rfl⟩

set_option maxRecDepth 100000 in
set_option maxHeartbeats 1600000 in
theorem kw_39 (w : World) : Calls Try.prog 44 #[.string ⟨#[105, 110, 116]⟩] w fun e w' => e = .returned (.bool true) ∧ w = w' := by
  go_enter Try.func44, Try.ntmps44
  go_wp2
  go_ret
  exact ⟨rfl, rfl⟩

set_option maxRecDepth 100000 in
set_option maxHeartbeats 1600000 in
theorem kw_40 (w : World) : Calls Try.prog 44 #[.string ⟨#[116, 101, 120, 116]⟩] w fun e w' => e = .returned (.bool true) ∧ w = w' := by
  go_enter Try.func44, Try.ntmps44
  go_wp2
  go_ret
  exact ⟨rfl, rfl⟩

set_option maxRecDepth 100000 in
set_option maxHeartbeats 1600000 in
theorem kw_41 (w : World) : Calls Try.prog 44 #[.string ⟨#[98, 108, 111, 98]⟩] w fun e w' => e = .returned (.bool true) ∧ w = w' := by
  go_enter Try.func44, Try.ntmps44
  go_wp2
  go_ret
  exact ⟨rfl, rfl⟩

set_option maxRecDepth 100000 in
set_option maxHeartbeats 1600000 in
theorem kw_42 (w : World) : Calls Try.prog 44 #[.string ⟨#[98, 111, 111, 108]⟩] w fun e w' => e = .returned (.bool true) ∧ w = w' := by
  go_enter Try.func44, Try.ntmps44
  go_wp2
  go_ret
  exact ⟨rfl, rfl⟩

theorem of_list {s : ByteArray} {l : List UInt8} (h : s.toList = l) : s = ⟨l.toArray⟩ := by
  obtain ⟨⟨d⟩⟩ := s
  rw [Lib.toList_data] at h
  simp only at h
  rw [h]

theorem kw_calls (s : ByteArray) (w : World) : Calls Try.prog 44 #[.string s] w fun e w' => e = .returned (.bool (kwList.contains s.toList)) ∧ w = w' := by
  cases hk : kwList.contains s.toList with
  | false => exact kw_no s w hk
  | true =>
    have hm := List.contains_iff_mem.1 hk
    clear hk
    simp only [kwList, List.mem_cons, List.not_mem_nil, or_false] at hm
    rcases hm with h | h | h | h | h | h | h | h | h | h | h | h | h | h | h | h | h | h | h | h | h | h | h | h | h | h | h | h | h | h | h | h | h | h | h | h | h | h | h | h | h | h | h
    · rw [of_list h]; exact kw_0 w
    · rw [of_list h]; exact kw_1 w
    · rw [of_list h]; exact kw_2 w
    · rw [of_list h]; exact kw_3 w
    · rw [of_list h]; exact kw_4 w
    · rw [of_list h]; exact kw_5 w
    · rw [of_list h]; exact kw_6 w
    · rw [of_list h]; exact kw_7 w
    · rw [of_list h]; exact kw_8 w
    · rw [of_list h]; exact kw_9 w
    · rw [of_list h]; exact kw_10 w
    · rw [of_list h]; exact kw_11 w
    · rw [of_list h]; exact kw_12 w
    · rw [of_list h]; exact kw_13 w
    · rw [of_list h]; exact kw_14 w
    · rw [of_list h]; exact kw_15 w
    · rw [of_list h]; exact kw_16 w
    · rw [of_list h]; exact kw_17 w
    · rw [of_list h]; exact kw_18 w
    · rw [of_list h]; exact kw_19 w
    · rw [of_list h]; exact kw_20 w
    · rw [of_list h]; exact kw_21 w
    · rw [of_list h]; exact kw_22 w
    · rw [of_list h]; exact kw_23 w
    · rw [of_list h]; exact kw_24 w
    · rw [of_list h]; exact kw_25 w
    · rw [of_list h]; exact kw_26 w
    · rw [of_list h]; exact kw_27 w
    · rw [of_list h]; exact kw_28 w
    · rw [of_list h]; exact kw_29 w
    · rw [of_list h]; exact kw_30 w
    · rw [of_list h]; exact kw_31 w
    · rw [of_list h]; exact kw_32 w
    · rw [of_list h]; exact kw_33 w
    · rw [of_list h]; exact kw_34 w
    · rw [of_list h]; exact kw_35 w
    · rw [of_list h]; exact kw_36 w
    · rw [of_list h]; exact kw_37 w
    · rw [of_list h]; exact kw_38 w
    · rw [of_list h]; exact kw_39 w
    · rw [of_list h]; exact kw_40 w
    · rw [of_list h]; exact kw_41 w
    · rw [of_list h]; exact kw_42 w

/-- The bytes up to the next blank. -/
def tok (i : Nat) : List UInt8 := (kwText.drop (i + 1)).takeWhile (fun c => c != 32)
theorem toks : ∀ i, i ≤ kwText.length → kwText[i]? = some 32 → tok i = [] ∨ kwList.contains (tok i) = true := by decide +kernel
theorem all_in : ∀ l, l ∈ kwList → Lib.contains kwText ([32] ++ l ++ [32]) = true := by decide +kernel

theorem takeWhile_word (w r : List UInt8) (h : ∀ c ∈ w, c ≠ 32) : (w ++ 32 :: r).takeWhile (fun c => c != 32) = w := by
  induction w with
  | nil => simp
  | cons c w ih =>
    have hc := h c (by simp)
    simp only [List.cons_append]
    rw [List.takeWhile_cons_of_pos (by simpa using hc), ih (fun d hd => h d (by simp [hd]))]

theorem kwc_eq (s : ByteArray) (hs : 0 < s.size) (hg : ∀ i, i < s.size → okAt i (byteAt s i) = true) : kwc s = kwList.contains s.toList := by
  rw [Lib.toList_data, Bool.eq_iff_iff]
  constructor
  · intro h
    unfold kwc Lib.contains at h
    rw [decide_eq_true_eq] at h
    rcases Lib.index_spec kwText ([32] ++ s.data.toList ++ [32]) with ⟨h1, _⟩ | ⟨i, h1, hi, hocc, _⟩
    · omega
    · have hno : ∀ c ∈ s.data.toList, c ≠ 32 := by
        rintro c hc rfl
        obtain ⟨j, hj, hjc⟩ := List.getElem_of_mem hc
        have := hg j hj
        have e : byteAt s j = 32 := by unfold byteAt; rw [List.getD_eq_getElem?_getD, List.getElem?_eq_getElem hj, hjc]; rfl
        rw [e] at this
        simp [okAt] at this
      have hne : s.data.toList ≠ [] := by
        intro h2
        have h3 : s.data.toList.length = s.size := rfl
        rw [h2] at h3
        simp only [List.length_nil] at h3
        omega
      unfold Lib.occAt at hocc
      rw [List.isPrefixOf_iff_prefix] at hocc
      obtain ⟨r, hr⟩ := hocc
      have hr2 : kwText.drop i = 32 :: (s.data.toList ++ 32 :: r) := by rw [← hr]; simp
      have h0 : kwText[i]? = some 32 := by
        have := congrArg (fun l => l[0]?) hr2
        simpa using this
      have ht : tok i = s.data.toList := by
        unfold tok
        have : kwText.drop (i + 1) = s.data.toList ++ 32 :: r := by
          have := congrArg (List.drop 1) hr2
          rw [List.drop_drop] at this
          simpa using this
        rw [this]
        exact takeWhile_word _ _ hno
      rcases toks i hi h0 with h2 | h2
      · rw [ht] at h2; exact absurd h2 hne
      · rw [ht] at h2; exact h2
  · intro h
    exact all_in _ (List.contains_iff_mem.1 h)

end Go.Proofs.Ytnohhmopiflboaa.Cat

