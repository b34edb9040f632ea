/- CatalogNames: Name at texts that are empty or long; the reference's Word and Name; the keys' first bytes. -/
import Derived.Test.YtnohhmopiflboaaKey
import Derived.Test.YtnohhmopiflboaaBytes
import Derived.ChangeAgain
set_option linter.unusedVariables false
set_option linter.unusedSimpArgs false
namespace Go.Proofs.Ytnohhmopiflboaa.Cat
open Go.RowKit Go.Proofs.Ytnohhmopiflboaa.Base


set_option maxRecDepth 100000 in
set_option maxHeartbeats 1600000 in
theorem name_long (s : ByteArray) (w : World) (hs : 24 < s.size) (hsz : s.size ≤ 140737488351232) (hg : ∀ i, i < s.size → okAt i (byteAt s i) = true) :
    Calls Try.prog 20 #[.string s] w fun e w' => e = .returned (.int .i64 3) ∧ w = w' := by
  have HG := Asd.mk hg
  have hem := nonempty s (by omega)
  have hem2 : s.toList.isEmpty = false := by simpa using hem
  clear hg
  go_enter Try.func20, Try.ntmps20
  go_wp2
  go_loop [7] (fun i => ∃ k : Nat, k ≤ s.size ∧ i = .int .i64 (k : Int)) (fun i => s.size - (intOf i).toNat)
  case atStart => exact ⟨0, by omega, rfl⟩
  case round =>
    obtain ⟨k, hk, rfl⟩ := hrel
    by_cases hlt : k < s.size
    · have hbk := byteAt_eq s k (by omega)
      have hok := HG.out k hlt
      generalize byteAt s k = c at hok hbk
      rcases ok_cases hok with ⟨h1, h2⟩ | h1 | ⟨h0, h1, h2⟩
      · clear hok
        go_wp2
        go_round
        case rel => exact ⟨k + 1, by omega, by go_num⟩
        case measure => simp [intOf]; omega
      · subst h1
        clear hok
        go_wp2
        go_round
        case rel => exact ⟨k + 1, by omega, by go_num⟩
        case measure => simp [intOf]; omega
      · have h3 : ((c : Int) != 95) = true := by rw [bne_iff_ne]; omega
        have h4 : ((k : Int) == 0) = false := beq_eq_false_iff_ne.2 (by omega)
        clear hok h0
        go_wp2
        go_round
        case rel => exact ⟨k + 1, by omega, by go_num⟩
        case measure => simp [intOf]; omega
    · obtain rfl : k = s.size := by omega
      clear hlt
      go_wp2
      go_ret
      exact ⟨rfl, rfl⟩


set_option maxRecDepth 100000 in
set_option maxHeartbeats 1600000 in
theorem name_empty (s : ByteArray) (w : World) (hs : s.size = 0) :
    Calls Try.prog 20 #[.string s] w fun e w' => e = .returned (.int .i64 3) ∧ w = w' := by
  have h1 : s.toList = [] := by
    rw [Lib.toList_data]
    exact List.length_eq_zero_iff.1 hs
  have h2 : s = ⟨#[]⟩ := of_list h1
  subst h2
  clear h1 hs
  go_enter Try.func20, Try.ntmps20
  go_wp2
  go_loop [7] (fun i => i = .int .i64 0) (fun i => 0)
  case atStart => rfl
  case round =>
    subst hrel
    go_wp2
    go_ret
    exact ⟨rfl, rfl⟩

set_option maxRecDepth 100000 in
set_option maxHeartbeats 1600000 in
theorem word_good (s : ByteArray) (w : World) (hsz : s.size ≤ 140737488351232) (hg : ∀ i, i < s.size → okAt i (byteAt s i) = true) :
    Calls Try.prog 43 #[.string s] w fun e w' => e = .returned (.bool (decide (0 < (s.size : Int)))) ∧ w = w' := by
  have HG := Asd.mk hg
  clear hg
  go_enter Try.func43, Try.ntmps43
  go_wp2
  go_loop [3] (fun i => ∃ k : Nat, k ≤ s.size ∧ i = .int .i64 (k : Int)) (fun i => s.size - (intOf i).toNat)
  case atStart => exact ⟨0, by omega, rfl⟩
  case round =>
    obtain ⟨k, hk, rfl⟩ := hrel
    by_cases hlt : k < s.size
    · have hbk := byteAt_eq s k (by omega)
      have hok := HG.out k hlt
      generalize byteAt s k = c at hok hbk
      rcases ok_cases hok with ⟨h1, h2⟩ | h1 | ⟨h0, h1, h2⟩
      · clear hok
        go_wp2
        go_round
        case rel => exact ⟨k + 1, by omega, by go_num⟩
        case measure => simp [intOf]; omega
      · subst h1
        clear hok
        go_wp2
        go_round
        case rel => exact ⟨k + 1, by omega, by go_num⟩
        case measure => simp [intOf]; omega
      · have h3 : ((c : Int) != 95) = true := by rw [bne_iff_ne]; omega
        have h4 : ((k : Int) == 0) = false := beq_eq_false_iff_ne.2 (by omega)
        clear hok h0
        go_wp2
        go_round
        case rel => exact ⟨k + 1, by omega, by go_num⟩
        case measure => simp [intOf]; omega
    · obtain rfl : k = s.size := by omega
      clear hlt
      go_wp2
      go_ret
      exact ⟨ret_eq (by simp), rfl⟩

set_option maxHeartbeats 800000 in
theorem word_bad (s : ByteArray) (w : World) (q : Nat) (hs : s.size ≤ 140737488351232) (hq : q < s.size) (hb : okAt q (byteAt s q) = false) (hg : ∀ i, i < q → okAt i (byteAt s i) = true) :
    Calls Try.prog 43 #[.string s] w fun e w' => e = .returned (.bool false) ∧ w = w' := by
  have HB := Asd.mk hb
  have HG := Asd.mk hg
  clear hb hg
  go_enter Try.func43, Try.ntmps43
  go_wp2
  go_loop [3] (fun i => ∃ k : Nat, k ≤ q ∧ i = .int .i64 (k : Int)) (fun i => s.size - (intOf i).toNat)
  case atStart => exact ⟨0, by omega, rfl⟩
  case round =>
    obtain ⟨k, hk, rfl⟩ := hrel
    have hbk := byteAt_eq s k (by omega)
    by_cases hlt : k < q
    · have hok := HG.out k hlt
      generalize byteAt s k = c at hok hbk
      rcases ok_cases hok with ⟨h1, h2⟩ | h1 | ⟨h0, h1, h2⟩
      · clear hok
        go_wp2
        go_round
        case rel => exact ⟨k + 1, by omega, by go_num⟩
        case measure => simp [intOf]; omega
      · subst h1
        clear hok
        go_wp2
        go_round
        case rel => exact ⟨k + 1, by omega, by go_num⟩
        case measure => simp [intOf]; omega
      · have h3 : ((c : Int) != 95) = true := by rw [bne_iff_ne]; omega
        have h4 : ((k : Int) == 0) = false := beq_eq_false_iff_ne.2 (by omega)
        clear hok h0
        go_wp2
        go_round
        case rel => exact ⟨k + 1, by omega, by go_num⟩
        case measure => simp [intOf]; omega
    · obtain rfl : k = q := by omega
      have hok := HB.out
      generalize byteAt s k = c at hok hbk
      obtain ⟨h1, h2, h3⟩ := bad_cases hok
      have h4 : ((c : Int) != 95) = true := by rw [bne_iff_ne]; omega
      clear hok h2 HB HG
      rcases h1 with h1 | h1
      all_goals
        by_cases h0 : k = 0
        · subst h0
          go_wp2
          go_ret
          exact ⟨rfl, rfl⟩
        · have h5 : ((k : Int) == 0) = false := beq_eq_false_iff_ne.2 (by omega)
          rcases h3 with h3 | h3 | h3
          · exact absurd h3 h0
          · clear h0
            first
              | (exfalso; omega)
              | (go_wp2
                 go_ret
                 exact ⟨rfl, rfl⟩)
          · clear h0
            go_wp2
            go_ret
            exact ⟨rfl, rfl⟩



/-! ### The reference's Name -/
theorem find_bad (s : ByteArray) : (∀ i, i < s.size → okAt i (byteAt s i) = true) ∨ ∃ q, q < s.size ∧ okAt q (byteAt s q) = false ∧ ∀ i, i < q → okAt i (byteAt s i) = true := by
  have main : ∀ n, (∀ i, i < n → okAt i (byteAt s i) = true) ∨ ∃ q, q < n ∧ okAt q (byteAt s q) = false ∧ ∀ i, i < q → okAt i (byteAt s i) = true := by
    intro n
    induction n with
    | zero => exact .inl fun i hi => absurd hi (by omega)
    | succ n ih =>
      rcases ih with h | ⟨q, h1, h2, h3⟩
      · cases hv : okAt n (byteAt s n) with
        | true =>
          refine .inl fun i hi => ?_
          rcases Nat.lt_succ_iff_lt_or_eq.1 hi with h' | rfl
          · exact h i h'
          · exact hv
        | false => exact .inr ⟨n, by omega, hv, h⟩
      · exact .inr ⟨q, by omega, h2, h3⟩
  exact main s.size

/-- What both Names tell. -/
def nameNo (s : ByteArray) : Int := errName (!(decide (∀ i, i < s.size → okAt i (byteAt s i) = true) && decide (0 < s.size) && decide (s.size ≤ 24) && !kwList.contains s.toList))

theorem nameNo_bad {s : ByteArray} {q : Nat} (hq : q < s.size) (h : okAt q (byteAt s q) = false) : nameNo s = 3 := by
  have : ¬ ∀ i, i < s.size → okAt i (byteAt s i) = true := by
    intro h2
    rw [h2 q hq] at h; cases h
  simp [nameNo, errName, this]
theorem nameNo_size {s : ByteArray} (h : s.size = 0 ∨ 24 < s.size) : nameNo s = 3 := by
  rcases h with h | h
  · simp [nameNo, errName, h]
  · have : ¬ s.size ≤ 24 := by omega
    simp [nameNo, errName, this]
theorem nameNo_good {s : ByteArray} (h : ∀ i, i < s.size → okAt i (byteAt s i) = true) (h0 : 0 < s.size) (h1 : s.size ≤ 24) : nameNo s = errName (kwList.contains s.toList) := by
  simp [nameNo, h0, h1]
  rw [decide_eq_true h]
  simp

theorem name_calls (s : ByteArray) (w : World) (hs : s.size ≤ 140737488351232) (hsh : w.ShapedOpen Try.prog) :
    Calls Try.prog 20 #[.string s] w fun e w' => e = .returned (.int .i64 (nameNo s)) ∧ w = w' := by
  rcases find_bad s with h | ⟨q, h1, h2, h3⟩
  · rcases Nat.eq_zero_or_pos s.size with h0 | h0
    · rw [nameNo_size (.inl h0)]; exact name_empty s w h0
    · by_cases h24 : s.size ≤ 24
      · rw [nameNo_good h h0 h24, ← kwc_eq s h0 h]; exact name_good s w h0 h24 h hsh
      · rw [nameNo_size (.inr (by omega))]; exact name_long s w (by omega) hs h
  · rw [nameNo_bad h1 h2]; exact name_bad s w q hs h1 h2 h3

theorem word_calls (s : ByteArray) (w : World) (hs : s.size ≤ 140737488351232) : ∃ b, (b = true → ∀ i, i < s.size → okAt i (byteAt s i) = true) ∧ (b = true → 0 < s.size) ∧ (b = false → nameNo s = 3) ∧
    Calls Try.prog 43 #[.string s] w fun e w' => e = .returned (.bool b) ∧ w = w' := by
  rcases find_bad s with h | ⟨q, h1, h2, h3⟩
  · refine ⟨_, fun _ => h, fun h1 => ?_, fun h1 => ?_, word_good s w hs h⟩
    · have := of_decide_eq_true h1; omega
    · have := of_decide_eq_false h1
      exact nameNo_size (.inl (by omega))
  · exact ⟨false, (fun h => by cases h), (fun h => by cases h), fun _ => nameNo_bad h1 h2, word_bad s w q hs h1 h2 h3⟩

set_option maxHeartbeats 800000 in
theorem rname_calls (s : ByteArray) (w : World) (hs : s.size ≤ 140737488351232) :
    Calls Try.prog 21 #[.string s] w fun e w' => e = .returned (.int .i64 (nameNo s)) ∧ w = w' := by
  obtain ⟨b, hb1, hb2, hb3, hc⟩ := word_calls s w hs
  have HC := Asd.mk hc
  cases b with
  | false =>
    have HN := Asd.mk (hb3 rfl)
    clear hc hb1 hb2 hb3
    go_enter Try.func21, Try.ntmps21
    go_wp2_with (go_at_call 43; refine HC.out.mono ?_; rintro e w' ⟨rfl, rfl⟩)
    go_ret
    exact ⟨ret_eq (by rw [HN.out]; rfl), rfl⟩
  | true =>
    have HW := Asd.mk (hb1 rfl)
    have h0 := hb2 rfl
    clear hc hb1 hb2 hb3
    by_cases h24 : s.size ≤ 24
    · have HN := Asd.mk (nameNo_good HW.out h0 h24)
      have h25 : ¬ (24 : Int) < s.size := by omega
      cases hk : kwList.contains s.toList with
      | true =>
        rw [hk] at HN
        have HK := Asd.mk hk
        clear hk
        go_enter Try.func21, Try.ntmps21
        go_wp2_with (first | (go_at_call 43; refine HC.out.mono ?_; rintro e w' ⟨rfl, rfl⟩) | (go_at_call 44; refine (kw_calls _ _).mono ?_; rintro e w' ⟨rfl, rfl⟩; rw [HK.out]))
        go_ret
        exact ⟨ret_eq (by rw [HN.out]; rfl), rfl⟩
      | false =>
        rw [hk] at HN
        have HK := Asd.mk hk
        clear hk
        go_enter Try.func21, Try.ntmps21
        go_wp2_with (first | (go_at_call 43; refine HC.out.mono ?_; rintro e w' ⟨rfl, rfl⟩) | (go_at_call 44; refine (kw_calls _ _).mono ?_; rintro e w' ⟨rfl, rfl⟩; rw [HK.out]))
        go_ret
        exact ⟨ret_eq (by rw [HN.out]; rfl), rfl⟩
    · have HN := Asd.mk (nameNo_size (s := s) (.inr (by omega)))
      have h25 : (24 : Int) < s.size := by omega
      go_enter Try.func21, Try.ntmps21
      go_wp2_with (go_at_call 43; refine HC.out.mono ?_; rintro e w' ⟨rfl, rfl⟩)
      go_ret
      exact ⟨ret_eq (by rw [HN.out]; rfl), rfl⟩

/-! ### Prefix -/
/-- The four bytes of an Id. -/
def preCells (id : Int) : Array Value := #[.int .u8 (id / 16777216 % 256), .int .u8 (id / 65536 % 256), .int .u8 (id / 256 % 256), .int .u8 (id % 256)]
theorem wrap_div (id : Int) (d : Int) (hd : d = 16777216 ∨ d = 65536 ∨ d = 256 ∨ d = 1) : (IntKind.u64.wrap id / d).tmod 256 % 256 = id / d % 256 := by
  have h0 : 0 ≤ IntKind.u64.wrap id := by simp [IntKind.wrap, IntKind.bits, IntKind.signed]; omega
  have e : IntKind.u64.wrap id = id % 18446744073709551616 := by simp [IntKind.wrap, IntKind.bits, IntKind.signed]
  have h1 : 0 ≤ IntKind.u64.wrap id / d := by rcases hd with rfl | rfl | rfl | rfl <;> omega
  rw [Int.tmod_eq_emod_of_nonneg h1, e]
  rcases hd with rfl | rfl | rfl | rfl <;> omega

theorem prefix_calls (id : Int) (w : World) :
    Calls Try.prog 22 #[.int .i64 id] w fun e w' => e = .returned (.slice (some ⟨w.heap.size, 0, none⟩) 4 4) ∧ w' = w.alloc (.cells (preCells id) 5) := by
  go_enter Try.func22, Try.ntmps22
  go_wp2
  go_ret
  exact ⟨rfl, rfl⟩
theorem rprefix_calls (id : Int) (w : World) :
    Calls Try.prog 23 #[.int .i64 id] w fun e w' => e = .returned (.slice (some ⟨w.heap.size, 0, none⟩) 4 4) ∧ w' = w.alloc (.cells (preCells id) 5) := by
  have e1 := wrap_div id 16777216 (by simp)
  have e2 := wrap_div id 65536 (by simp)
  have e3 := wrap_div id 256 (by simp)
  have e4 := wrap_div id 1 (by simp)
  simp only [Int.ediv_one] at e4
  have E := Asd.mk (And.intro e1 (And.intro e2 (And.intro e3 e4)))
  clear e1 e2 e3 e4
  go_enter Try.func23, Try.ntmps23
  go_wp2
  go_ret
  exact ⟨rfl, by rw [E.out.1, E.out.2.1, E.out.2.2.1, E.out.2.2.2]; rfl⟩

def preB (id : Int) : List UInt8 := [UInt8.ofNat (id / 16777216 % 256).toNat, UInt8.ofNat (id / 65536 % 256).toNat, UInt8.ofNat (id / 256 % 256).toNat, UInt8.ofNat (id % 256).toNat]
theorem byte_back (n : Int) : ((UInt8.ofNat (n % 256).toNat).toNat : Int) = n % 256 := by
  have h1 : 0 ≤ n % 256 := Int.emod_nonneg _ (by decide)
  have h2 : n % 256 < 256 := Int.emod_lt_of_pos _ (by decide)
  rw [UInt8.toNat_ofNat']
  omega
theorem preCells_eq (id : Int) : preCells id = (Byt.bcells (preB id)).toArray := by
  simp only [preCells, Byt.bcells, preB, Byt.bcell, List.map_cons, List.map_nil, byte_back]

set_option maxRecDepth 100000 in
set_option maxHeartbeats 1600000 in
theorem law_names (w : World) (s : ByteArray) (hs : s.size ≤ 140737488351232) (id : Int) (hid : (Lit.int .i64 id).wf = true) (hsh : w.ShapedOpen Try.prog) :
    Calls Try.prog 4 #[.string s, .int .i64 id] w fun e w' => e = .returned (.bool true) ∧ Below w.heap.size w w' := by
  have HNM := Asd.mk (name_calls s w.drew hs (World.ShapedOpen.of_heap (w := w) (w' := w.drew) rfl hsh))
  clear hsh
  have b1 := Byt.IsBytes.new w (preB id) 5 (by simp [preB])
  have b2 := Byt.IsBytes.new (w.alloc (.cells (preCells id) 5)) (preB id) 5 (by simp [preB])
  rw [← preCells_eq] at b1 b2
  have b3 := b1.below (show Below _ _ ((w.alloc (.cells (preCells id) 5)).alloc (.cells (preCells id) 5)) from (Below.refl _ _).alloc (Nat.le_refl _) _)
  simp only [World.size_alloc, show (preB id).length = 4 from rfl] at b1 b2 b3
  have e1 := Byt.run_string (P := Try.prog) (w := (w.alloc (.cells (preCells id) 5)).drew) 31 9 5 Try.underlying31 Try.underlying5 Try.underlying9 4 (b1.drewN 1)
  have e2 := Byt.run_string (P := Try.prog) (w := ((w.alloc (.cells (preCells id) 5)).alloc (.cells (preCells id) 5)).drew) 31 9 5 Try.underlying31 Try.underlying5 Try.underlying9 4 (b2.drewN 1)
  have e3 := Byt.run_string (P := Try.prog) (w := ((w.alloc (.cells (preCells id) 5)).alloc (.cells (preCells id) 5)).drew) 31 9 5 Try.underlying31 Try.underlying5 Try.underlying9 4 (b3.drewN 1)
  have HBEL : Asd (Below w.heap.size w ((w.alloc (.cells (preCells id) 5)).alloc (.cells (preCells id) 5)).drew) := Asd.mk ((((Below.refl _ _).alloc (Nat.le_refl _) _).alloc (by simp) _).drew)
  clear b1 b2 b3
  go_enter Try.func4, Try.ntmps4
  go_wp2
  go_region_with (first
    | (go_at_call 20; go_must (refine HNM.out.mono ?_); rintro e w1 ⟨rfl, rfl⟩)
    | (go_at_call 21; refine (rname_calls s _ hs).mono ?_; rintro e w1 ⟨rfl, rfl⟩)
    | (go_at_call 22; refine (prefix_calls id _).mono ?_; rintro e w1 ⟨rfl, rfl⟩)
    | (go_at_call 23; refine (rprefix_calls id _).mono ?_; rintro e w1 ⟨rfl, rfl⟩))
  all_goals
    go_wp2
    go_ret
    exact ⟨rfl, HBEL.out⟩
end Go.Proofs.Ytnohhmopiflboaa.Cat
