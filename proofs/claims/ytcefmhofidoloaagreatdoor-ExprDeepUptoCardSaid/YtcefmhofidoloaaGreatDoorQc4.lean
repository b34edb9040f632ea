/- Texts put together: CName, Rd8, Rd10, Rd11, Rd12, Rd13. -/
import Derived.Test.YtcefmhofidoloaaGreatDoorQc3
import Derived.Test.YtcefmhofidoloaaGreatDoorProg
import Derived.KernelRfl
import Derived.OwnWalk
import Derived.RegionTactic
import Derived.ChangeAlike
import Derived.Deep.QuietTactic
import Derived.BigQuiet
import Derived.Deep.RegionWith
import Derived.WalkSpells
import Derived.WalkLawsBesides
import Derived.Outline
import Derived.ChangeAgain
/- CatalogNames: what Name of the catalog and of the reference tell of a text. -/
set_option linter.unusedVariables false
set_option linter.unusedSimpArgs false
namespace Go.Proofs.YtcefmhofidoloaaGreatDoor.Cat
open Go.RowKit Go.Proofs.YtcefmhofidoloaaGreatDoor.Base

/-- May the byte stand at place i of a name? -/
def okAt (i : Nat) (c : Nat) : Bool := (97 ≤ c && c ≤ 122) || c == 95 || (i != 0 && 48 ≤ c && c ≤ 57)
def byteAt (s : ByteArray) (i : Nat) : Nat := (s.data.toList.getD i 0).toNat
theorem byteAt_eq (s : ByteArray) (i : Nat) (h : i < s.size) : s[i].toNat = byteAt s i := by
  unfold byteAt
  have h' : i < s.data.size := h
  simp only [List.getD, Array.getElem?_toList, Array.getElem?_eq_getElem h', Option.getD_some]
  rfl

theorem ok_cases {i c : Nat} (h : okAt i c = true) : (97 ≤ c ∧ c ≤ 122) ∨ c = 95 ∨ (i ≠ 0 ∧ 48 ≤ c ∧ c ≤ 57) := by
  simp [okAt] at h; omega
theorem bad_cases {i c : Nat} (h : okAt i c = false) : (c < 97 ∨ 122 < c) ∧ c ≠ 95 ∧ (i = 0 ∨ c < 48 ∨ 57 < c) := by
  simp [okAt] at h; omega

set_option maxHeartbeats 800000 in
theorem name_bad (s : ByteArray) (w : World) (q : Nat) (hs : s.size ≤ 140737488351232) (hq : q < s.size) (hb : okAt q (byteAt s q) = false) (hg : ∀ i, i < q → okAt i (byteAt s i) = true) :
    Calls Tryz.prog 211 #[.string s] w fun e w' => e = .returned (.int .i64 3) ∧ w = w' := by
  have HB := Asd.mk hb
  have HG := Asd.mk hg
  clear hb hg
  go_enter Tryz.func211, Tryz.ntmps211
  go_wp2
  go_loop [7] (fun i => ∃ k : Nat, k ≤ q ∧ i = .int .i64 (k : Int)) (fun i => s.size - (intOf i).toNat)
  case atStart => exact ⟨0, by omega, rfl⟩
  case round =>
    obtain ⟨k, hk, rfl⟩ := hrel
    have hbk := byteAt_eq s k (by omega)
    by_cases hlt : k < q
    · have hok := HG.out k hlt
      generalize byteAt s k = c at hok hbk
      rcases ok_cases hok with ⟨h1, h2⟩ | h1 | ⟨h0, h1, h2⟩
      · clear hok
        go_wp2
        go_round
        case rel => exact ⟨k + 1, by omega, by go_num⟩
        case measure => simp [intOf]; omega
      · subst h1
        clear hok
        go_wp2
        go_round
        case rel => exact ⟨k + 1, by omega, by go_num⟩
        case measure => simp [intOf]; omega
      · have h3 : ((c : Int) != 95) = true := by rw [bne_iff_ne]; omega
        have h4 : ((k : Int) == 0) = false := beq_eq_false_iff_ne.2 (by omega)
        clear hok h0
        go_wp2
        go_round
        case rel => exact ⟨k + 1, by omega, by go_num⟩
        case measure => simp [intOf]; omega
    · obtain rfl : k = q := by omega
      have hok := HB.out
      generalize byteAt s k = c at hok hbk
      obtain ⟨h1, h2, h3⟩ := bad_cases hok
      have h4 : ((c : Int) != 95) = true := by rw [bne_iff_ne]; omega
      clear hok h2 HB HG
      rcases h1 with h1 | h1
      all_goals
        by_cases h0 : k = 0
        · subst h0
          go_wp2
          go_ret
          exact ⟨rfl, rfl⟩
        · have h5 : ((k : Int) == 0) = false := beq_eq_false_iff_ne.2 (by omega)
          rcases h3 with h3 | h3 | h3
          · exact absurd h3 h0
          · clear h0
            first
              | (exfalso; omega)
              | (go_wp2
                 go_ret
                 exact ⟨rfl, rfl⟩)
          · clear h0
            go_wp2
            go_ret
            exact ⟨rfl, rfl⟩

/-- The keywords, between blanks. -/
def kwText : List UInt8 := [32, 115, 101, 108, 101, 99, 116, 32, 100, 105, 115, 116, 105, 110, 99, 116, 32, 102, 114, 111, 109, 32, 106, 111, 105, 110, 32, 111, 110, 32, 119, 104, 101, 114, 101, 32, 103, 114, 111, 117, 112, 32, 98, 121, 32, 104, 97, 118, 105, 110, 103, 32, 111, 114, 100, 101, 114, 32, 97, 115, 99, 32, 100, 101, 115, 99, 32, 108, 105, 109, 105, 116, 32, 111, 102, 102, 115, 101, 116, 32, 97, 115, 32, 105, 110, 115, 101, 114, 116, 32, 105, 110, 116, 111, 32, 118, 97, 108, 117, 101, 115, 32, 117, 112, 100, 97, 116, 101, 32, 115, 101, 116, 32, 100, 101, 108, 101, 116, 101, 32, 99, 114, 101, 97, 116, 101, 32, 116, 97, 98, 108, 101, 32, 117, 110, 105, 113, 117, 101, 32, 105, 110, 100, 101, 120, 32, 100, 114, 111, 112, 32, 110, 111, 116, 32, 110, 117, 108, 108, 32, 105, 115, 32, 97, 110, 100, 32, 111, 114, 32, 116, 114, 117, 101, 32, 102, 97, 108, 115, 101, 32, 98, 101, 103, 105, 110, 32, 99, 111, 109, 109, 105, 116, 32, 114, 111, 108, 108, 98, 97, 99, 107, 32, 116, 111, 32, 115, 97, 118, 101, 112, 111, 105, 110, 116, 32, 114, 101, 108, 101, 97, 115, 101, 32, 105, 110, 116, 32, 116, 101, 120, 116, 32, 98, 108, 111, 98, 32, 98, 111, 111, 108, 32]
/-- The keywords. -/
def kwList : List (List UInt8) := [[115, 101, 108, 101, 99, 116], [100, 105, 115, 116, 105, 110, 99, 116], [102, 114, 111, 109], [106, 111, 105, 110], [111, 110], [119, 104, 101, 114, 101], [103, 114, 111, 117, 112], [98, 121], [104, 97, 118, 105, 110, 103], [111, 114, 100, 101, 114], [97, 115, 99], [100, 101, 115, 99], [108, 105, 109, 105, 116], [111, 102, 102, 115, 101, 116], [97, 115], [105, 110, 115, 101, 114, 116], [105, 110, 116, 111], [118, 97, 108, 117, 101, 115], [117, 112, 100, 97, 116, 101], [115, 101, 116], [100, 101, 108, 101, 116, 101], [99, 114, 101, 97, 116, 101], [116, 97, 98, 108, 101], [117, 110, 105, 113, 117, 101], [105, 110, 100, 101, 120], [100, 114, 111, 112], [110, 111, 116], [110, 117, 108, 108], [105, 115], [97, 110, 100], [111, 114], [116, 114, 117, 101], [102, 97, 108, 115, 101], [98, 101, 103, 105, 110], [99, 111, 109, 109, 105, 116], [114, 111, 108, 108, 98, 97, 99, 107], [116, 111], [115, 97, 118, 101, 112, 111, 105, 110, 116], [114, 101, 108, 101, 97, 115, 101], [105, 110, 116], [116, 101, 120, 116], [98, 108, 111, 98], [98, 111, 111, 108]]
def kwc (s : ByteArray) : Bool := Lib.contains kwText ([32] ++ s.data.toList ++ [32])

theorem nonempty (s : ByteArray) (h : 0 < s.size) : ¬ s.toList = [] := by
  intro h2
  have h3 : s.data.toList.length = s.size := rfl
  rw [← Lib.toList_data, h2] at h3
  simp only [List.length_nil] at h3
  omega

/-- The error's number where a name is wrong. -/
def errName (b : Bool) : Int := if b then 3 else 0

set_option maxRecDepth 100000 in
set_option maxHeartbeats 1600000 in
theorem name_good (s : ByteArray) (w : World) (hs : 0 < s.size) (hs24 : s.size ≤ 24) (hg : ∀ i, i < s.size → okAt i (byteAt s i) = true) (hsh : w.ShapedOpen Tryz.prog) :
    Calls Tryz.prog 211 #[.string s] w fun e w' => e = .returned (.int .i64 (errName (kwc s))) ∧ w = w' := by
  have HG := Asd.mk hg
  have hem := nonempty s hs
  have hem2 : s.toList.isEmpty = false := by simpa using hem
  have HSH := Asd.mk hsh
  clear hg hsh
  go_enter Tryz.func211, Tryz.ntmps211
  go_wp2
  go_loop [7] (fun i => ∃ k : Nat, k ≤ s.size ∧ i = .int .i64 (k : Int)) (fun i => s.size - (intOf i).toNat)
  case atStart => exact ⟨0, by omega, rfl⟩
  case round =>
    obtain ⟨k, hk, rfl⟩ := hrel
    by_cases hlt : k < s.size
    · have hbk := byteAt_eq s k (by omega)
      have hok := HG.out k hlt
      generalize byteAt s k = c at hok hbk
      rcases ok_cases hok with ⟨h1, h2⟩ | h1 | ⟨h0, h1, h2⟩
      · clear hok
        go_wp2
        go_round
        case rel => exact ⟨k + 1, by omega, by go_num⟩
        case measure => simp [intOf]; omega
      · subst h1
        clear hok
        go_wp2
        go_round
        case rel => exact ⟨k + 1, by omega, by go_num⟩
        case measure => simp [intOf]; omega
      · have h3 : ((c : Int) != 95) = true := by rw [bne_iff_ne]; omega
        have h4 : ((k : Int) == 0) = false := beq_eq_false_iff_ne.2 (by omega)
        clear hok h0
        go_wp2
        go_round
        case rel => exact ⟨k + 1, by omega, by go_num⟩
        case measure => simp [intOf]; omega
    · obtain rfl : k = s.size := by omega
      clear hlt
      go_wp2_with fail
      refine (Tryz.strings_Contains_shaped _ _ _ HSH.out (by decide)).mono ?_
      rintro e w' ⟨rfl, rfl⟩
      generalize hb : Lib.contains _ _ = bb
      have hbb : Asd (bb = kwc s) := Asd.mk (by rw [← hb]; simp [kwc, kwText])
      clear hb
      cases bb with
      | true =>
        go_wp2
        go_ret
        exact ⟨ret_eq (by rw [← hbb.out]; rfl), rfl⟩
      | false =>
        go_wp2
        go_ret
        exact ⟨ret_eq (by rw [← hbb.out]; rfl), rfl⟩

theorem of_list {s : ByteArray} {l : List UInt8} (h : s.toList = l) : s = ⟨l.toArray⟩ := by
  obtain ⟨⟨d⟩⟩ := s
  rw [Lib.toList_data] at h
  simp only at h
  rw [h]
def tok (i : Nat) : List UInt8 := (kwText.drop (i + 1)).takeWhile (fun c => c != 32)
theorem toks : ∀ i, i ≤ kwText.length → kwText[i]? = some 32 → tok i = [] ∨ kwList.contains (tok i) = true := by decide +kernel
theorem all_in : ∀ l, l ∈ kwList → Lib.contains kwText ([32] ++ l ++ [32]) = true := by decide +kernel

theorem takeWhile_word (w r : List UInt8) (h : ∀ c ∈ w, c ≠ 32) : (w ++ 32 :: r).takeWhile (fun c => c != 32) = w := by
  induction w with
  | nil => simp
  | cons c w ih =>
    have hc := h c (by simp)
    simp only [List.cons_append]
    rw [List.takeWhile_cons_of_pos (by simpa using hc), ih (fun d hd => h d (by simp [hd]))]

theorem kwc_eq (s : ByteArray) (hs : 0 < s.size) (hg : ∀ i, i < s.size → okAt i (byteAt s i) = true) : kwc s = kwList.contains s.toList := by
  rw [Lib.toList_data, Bool.eq_iff_iff]
  constructor
  · intro h
    unfold kwc Lib.contains at h
    rw [decide_eq_true_eq] at h
    rcases Lib.index_spec kwText ([32] ++ s.data.toList ++ [32]) with ⟨h1, _⟩ | ⟨i, h1, hi, hocc, _⟩
    · omega
    · have hno : ∀ c ∈ s.data.toList, c ≠ 32 := by
        rintro c hc rfl
        obtain ⟨j, hj, hjc⟩ := List.getElem_of_mem hc
        have := hg j hj
        have e : byteAt s j = 32 := by unfold byteAt; rw [List.getD_eq_getElem?_getD, List.getElem?_eq_getElem hj, hjc]; rfl
        rw [e] at this
        simp [okAt] at this
      have hne : s.data.toList ≠ [] := by
        intro h2
        have h3 : s.data.toList.length = s.size := rfl
        rw [h2] at h3
        simp only [List.length_nil] at h3
        omega
      unfold Lib.occAt at hocc
      rw [List.isPrefixOf_iff_prefix] at hocc
      obtain ⟨r, hr⟩ := hocc
      have hr2 : kwText.drop i = 32 :: (s.data.toList ++ 32 :: r) := by rw [← hr]; simp
      have h0 : kwText[i]? = some 32 := by
        have := congrArg (fun l => l[0]?) hr2
        simpa using this
      have ht : tok i = s.data.toList := by
        unfold tok
        have : kwText.drop (i + 1) = s.data.toList ++ 32 :: r := by
          have := congrArg (List.drop 1) hr2
          rw [List.drop_drop] at this
          simpa using this
        rw [this]
        exact takeWhile_word _ _ hno
      rcases toks i hi h0 with h2 | h2
      · rw [ht] at h2; exact absurd h2 hne
      · rw [ht] at h2; exact h2
  · intro h
    exact all_in _ (List.contains_iff_mem.1 h)
set_option maxRecDepth 100000 in
set_option maxHeartbeats 3200000 in
theorem name_long (s : ByteArray) (w : World) (hs : 24 < s.size) (hsz : s.size ≤ 140737488351232) (hg : ∀ i, i < s.size → okAt i (byteAt s i) = true) :
    Calls Tryz.prog 211 #[.string s] w fun e w' => e = .returned (.int .i64 3) ∧ w = w' := by
  have HG := Asd.mk hg
  have hem := nonempty s (by omega)
  have hem2 : s.toList.isEmpty = false := by simpa using hem
  clear hg
  go_enter Tryz.func211, Tryz.ntmps211
  go_wp2
  go_loop [7] (fun i => ∃ k : Nat, k ≤ s.size ∧ i = .int .i64 (k : Int)) (fun i => s.size - (intOf i).toNat)
  case atStart => exact ⟨0, by omega, rfl⟩
  case round =>
    obtain ⟨k, hk, rfl⟩ := hrel
    by_cases hlt : k < s.size
    · have hbk := byteAt_eq s k (by omega)
      have hok := HG.out k hlt
      generalize byteAt s k = c at hok hbk
      rcases ok_cases hok with ⟨h1, h2⟩ | h1 | ⟨h0, h1, h2⟩
      · clear hok
        go_wp2
        go_round
        case rel => exact ⟨k + 1, by omega, by go_num⟩
        case measure => simp [intOf]; omega
      · subst h1
        clear hok
        go_wp2
        go_round
        case rel => exact ⟨k + 1, by omega, by go_num⟩
        case measure => simp [intOf]; omega
      · have h3 : ((c : Int) != 95) = true := by rw [bne_iff_ne]; omega
        have h4 : ((k : Int) == 0) = false := beq_eq_false_iff_ne.2 (by omega)
        clear hok h0
        go_wp2
        go_round
        case rel => exact ⟨k + 1, by omega, by go_num⟩
        case measure => simp [intOf]; omega
    · obtain rfl : k = s.size := by omega
      clear hlt
      go_wp2
      go_ret
      exact ⟨rfl, rfl⟩


set_option maxRecDepth 100000 in
set_option maxHeartbeats 1600000 in
theorem name_empty (s : ByteArray) (w : World) (hs : s.size = 0) :
    Calls Tryz.prog 211 #[.string s] w fun e w' => e = .returned (.int .i64 3) ∧ w = w' := by
  have h1 : s.toList = [] := by
    rw [Lib.toList_data]
    exact List.length_eq_zero_iff.1 hs
  have h2 : s = ⟨#[]⟩ := of_list h1
  subst h2
  clear h1 hs
  go_enter Tryz.func211, Tryz.ntmps211
  go_wp2
  go_loop [7] (fun i => i = .int .i64 0) (fun i => 0)
  case atStart => rfl
  case round =>
    subst hrel
    go_wp2
    go_ret
    exact ⟨rfl, rfl⟩
theorem find_bad (s : ByteArray) : (∀ i, i < s.size → okAt i (byteAt s i) = true) ∨ ∃ q, q < s.size ∧ okAt q (byteAt s q) = false ∧ ∀ i, i < q → okAt i (byteAt s i) = true := by
  have main : ∀ n, (∀ i, i < n → okAt i (byteAt s i) = true) ∨ ∃ q, q < n ∧ okAt q (byteAt s q) = false ∧ ∀ i, i < q → okAt i (byteAt s i) = true := by
    intro n
    induction n with
    | zero => exact .inl fun i hi => absurd hi (by omega)
    | succ n ih =>
      rcases ih with h | ⟨q, h1, h2, h3⟩
      · cases hv : okAt n (byteAt s n) with
        | true =>
          refine .inl fun i hi => ?_
          rcases Nat.lt_succ_iff_lt_or_eq.1 hi with h' | rfl
          · exact h i h'
          · exact hv
        | false => exact .inr ⟨n, by omega, hv, h⟩
      · exact .inr ⟨q, by omega, h2, h3⟩
  exact main s.size

/-- What both Names tell. -/
def nameNo (s : ByteArray) : Int := errName (!(decide (∀ i, i < s.size → okAt i (byteAt s i) = true) && decide (0 < s.size) && decide (s.size ≤ 24) && !kwList.contains s.toList))

theorem nameNo_bad {s : ByteArray} {q : Nat} (hq : q < s.size) (h : okAt q (byteAt s q) = false) : nameNo s = 3 := by
  have : ¬ ∀ i, i < s.size → okAt i (byteAt s i) = true := by
    intro h2
    rw [h2 q hq] at h; cases h
  simp [nameNo, errName, this]
theorem nameNo_size {s : ByteArray} (h : s.size = 0 ∨ 24 < s.size) : nameNo s = 3 := by
  rcases h with h | h
  · simp [nameNo, errName, h]
  · have : ¬ s.size ≤ 24 := by omega
    simp [nameNo, errName, this]
theorem nameNo_good {s : ByteArray} (h : ∀ i, i < s.size → okAt i (byteAt s i) = true) (h0 : 0 < s.size) (h1 : s.size ≤ 24) : nameNo s = errName (kwList.contains s.toList) := by
  simp [nameNo, h0, h1]
  rw [decide_eq_true h]
  simp

theorem name_calls (s : ByteArray) (w : World) (hs : s.size ≤ 140737488351232) (hsh : w.ShapedOpen Tryz.prog) :
    Calls Tryz.prog 211 #[.string s] w fun e w' => e = .returned (.int .i64 (nameNo s)) ∧ w = w' := by
  rcases find_bad s with h | ⟨q, h1, h2, h3⟩
  · rcases Nat.eq_zero_or_pos s.size with h0 | h0
    · rw [nameNo_size (.inl h0)]; exact name_empty s w h0
    · by_cases h24 : s.size ≤ 24
      · rw [nameNo_good h h0 h24, ← kwc_eq s h0 h]; exact name_good s w h0 h24 h hsh
      · rw [nameNo_size (.inr (by omega))]; exact name_long s w (by omega) hs h
  · rw [nameNo_bad h1 h2]; exact name_bad s w q hs h1 h2 h3
end Go.Proofs.YtcefmhofidoloaaGreatDoor.Cat

/- The reader of expressions: within, name. -/
set_option linter.unusedVariables false
set_option linter.unusedSimpArgs false
namespace Go.Proofs.YtcefmhofidoloaaGreatDoor.Exp
open Go.RowKit Go.Proofs.YtcefmhofidoloaaGreatDoor.Base Go.Proofs.YtcefmhofidoloaaGreatDoor.App Go.Proofs.YtcefmhofidoloaaGreatDoor.Byt Go.Proofs.YtcefmhofidoloaaGreatDoor.Lex

/-- How what is read within something ends: Q holds behind it. -/
def Ins (R : Nat) (A : Option Addr) (m c : Nat) (l : Toks) (d : Nat) (r : Except (Nat × Int) Nat) (Q : World → Prop) (e : Ending) (w' : World) : Prop := match r with
  | .ok j => e = .returned (.tuple #[]) ∧ RdW w' R A m c l j d ∧ Q w'
  | .error x => Thrown e w' x.1 x.2

set_option maxRecDepth 100000 in
set_option maxHeartbeats 6400000 in
theorem within_calls (G : FuncId) (cap : Array Value) (S : Nat → Prop) (R : Nat) (A : Option Addr) (m c : Nat) (l : Toks) (i d : Nat) (r : Except (Nat × Int) Nat) (Q : World → Prop) (w : World) (hnear : Near l) (hS : S R) (hgo : IsGo G) (hi : i < l.length) (hd : d ≤ 32)
    (hQ : ∀ W v, Q W → Q (W.setCell ⟨R, 2, none⟩ v)) (h : RdW w R A m c l i d)
    (hin : d < 32 → ∀ w', Fr (fun k => k = R) w w' → RdW w' R A m c l (i + 1) (d + 1) → Calls Tryz.prog G cap w' fun e w'' => Fr S w' w'' ∧ Ins R A m c l (d + 1) r Q e w'') :
    Calls Tryz.prog 192 #[.pointer (some ⟨R, 0, none⟩), .func (.func G) #[] cap] w fun e w' => Fr S w w' ∧ Ins R A m c l d (if d < 32 then r else .error (stopAt l i, 21)) Q e w' := by
  have HH := Asd.mk h
  have HIN := Asd.mk hin
  have HQ := Asd.mk hQ
  have HNE := Asd.mk hnear
  have HS := Asd.mk hS
  have hcf : ∀ (args : Array Value) (w : World), (callFunc G args).run Tryz.prog w = .ok (.enter G args) w := hgo
  have r1 := (blk_cell h.blk 1).trans rfl
  have r2 := (blk_cell h.blk 2).trans rfl
  have z1 := blk_frozen h.blk 1
  have z2 := blk_frozen h.blk 2
  have hmb := h.tok.2.1
  have hml := h.tok.1
  have hib : i ≤ 16384 := by omega
  clear h hin hQ hnear hS hgo
  go_enter Tryz.func192, Tryz.ntmps192
  by_cases hlt : d < 32
  · rw [if_pos hlt]
    have hge : ¬ (32 : Int) ≤ (d : Int) := by omega
    have hs1 := HH.out.setD (d + 1)
    have hs2 := hs1.2.set (j := i + 1) (by omega)
    have HW2 := Asd.mk hs2.2
    have HF2 := Asd.mk (frR_trans hs1.1 hs2.1)
    have HLT := Asd.mk hlt
    clear hml hs1 hs2
    go_wp2_with fail
    change Calls _ _ _ ((w.setCell ⟨R, 2, none⟩ (.int .i64 ((d + 1 : Nat) : Int))).setCell ⟨R, 1, none⟩ (.int .i64 ((i + 1 : Nat) : Int))) _
    generalize ((w.setCell ⟨R, 2, none⟩ (.int .i64 ((d + 1 : Nat) : Int))).setCell ⟨R, 1, none⟩ (.int .i64 ((i + 1 : Nat) : Int))) = w2 at HW2 HF2 ⊢
    refine (HIN.out HLT.out w2 HF2.out HW2.out).mono ?_
    rintro e w3 ⟨hf3, hm⟩
    have HF3 : Asd (Fr S w w3) := Asd.mk ((HF2.out.mono (fun k hk _ => by rw [hk]; exact HS.out)).trans hf3 (fun _ h _ => h) (fun _ h _ => h))
    cases r with
    | error x =>
      obtain ⟨N, rfl, hN⟩ := hm
      go_wp2
      exact ⟨rfl, HF3.out, N, rfl, hN⟩
    | ok j =>
      obtain ⟨rfl, hr3, hq3⟩ := hm
      have HR3 := Asd.mk hr3
      have HQ3 := Asd.mk hq3
      have r1 := (blk_cell hr3.blk 1).trans rfl
      have r2 := (blk_cell hr3.blk 2).trans rfl
      have z2 := blk_frozen hr3.blk 2
      have hs3 := hr3.setD d
      have HS3 := Asd.mk hs3.2
      have HSF := Asd.mk hs3.1
      have hdd : ((d + 1 : Nat) : Int) - 1 = (d : Int) := by omega
      clear hr3 hq3 hf3 hs3
      go_wp2
      refine bodyPost_end (results_none rfl _ _ _) rfl ?_
      exact ⟨HF3.out.setCell HS.out _, rfl, HS3.out, HQ.out _ _ HQ3.out⟩
  · rw [if_neg hlt]
    have hge : (32 : Int) ≤ (d : Int) := by omega
    clear hml
    go_wp2_with fail
    refine (stop_calls R A m c l i d 21 w HNE.out HH.out).mono ?_
    rintro e w2 ⟨hb2, N, rfl, hN⟩
    exact ⟨rfl, Fr.of_below hb2, N, rfl, hN⟩

/-- How the reading of a name ends. -/
def Nmd (R : Nat) (A : Option Addr) (m c : Nat) (l : Toks) (d : Nat) (r : Res (List UInt8)) (e : Ending) (w' : World) : Prop := match r with
  | .ok x => e = .returned (.string ⟨x.1.toArray⟩) ∧ RdW w' R A m c l x.2 d
  | .error x => Thrown e w' x.1 x.2
def nmOk (s : List UInt8) : Bool := Cat.nameNo ⟨s.toArray⟩ == 0
set_option maxRecDepth 100000 in
set_option maxHeartbeats 6400000 in
theorem name_calls (R : Nat) (A : Option Addr) (m c : Nat) (l : Toks) (i d : Nat) (w : World) (hnear : Near l) (h : RdW w R A m c l i d) :
    Calls Tryz.prog 268 #[.pointer (some ⟨R, 0, none⟩)] w fun e w' => Fr (fun k => k = R) w w' ∧ Nmd R A m c l d (nameT nmOk l i) e w' := by
  have hle := h.le
  have HH := Asd.mk h
  have HNE := Asd.mk hnear
  have HSZ := Asd.mk fun x hx => (hnear x hx).2
  have HSH := Asd.mk h.sh
  have hml := Asd.mk h.tok.1
  have hib : i ≤ 16384 := by have h1 := h.tok.1; have h2 := h.tok.2.1; omega
  clear h hnear
  go_enter Tryz.func268, Tryz.ntmps268
  go_wp2_with fail
  refine (token_calls R A m c l i d w HH.out).mono ?_
  rintro e w1 ⟨rfl, hb1⟩
  have HB1 := Asd.mk hb1
  clear hb1
  by_cases hlt : i < l.length
  · rw [tkV_some hlt]
    have HL := Asd.mk (List.getElem?_eq_getElem hlt)
    have HX := Asd.mk (HSZ.out _ (List.getElem_mem hlt))
    generalize l[i] = x at HL HX ⊢
    obtain ⟨⟨kd, tx, nu⟩, pl⟩ := x
    simp only at HX ⊢
    have HTX : Asd ((⟨tx.toArray⟩ : ByteArray).size ≤ 140737488351232) := Asd.mk (by
      have h1 : (⟨tx.toArray⟩ : ByteArray).size = tx.length := by show tx.toArray.size = _; simp
      have := HX.out; rw [h1]; omega)
    by_cases h1 : kd = 1
    · subst h1
      have HB2 : Asd (Below w.heap.size w (w1.alloc (.cells #[.int .i64 1, .string ⟨tx.toArray⟩, .int .i64 ((pl : Nat) : Int), .int .i64 nu] 52 (0, 0)))) := Asd.mk (below_alloc HB1.out _)
      have HT2 := Asd.mk (blk_new w1 (.cells #[.int .i64 1, .string ⟨tx.toArray⟩, .int .i64 ((pl : Nat) : Int), .int .i64 nu] 52 (0, 0)))
      go_wp2_with fail
      change Calls _ _ _ (w1.alloc (.cells #[.int .i64 1, .string ⟨tx.toArray⟩, .int .i64 ((pl : Nat) : Int), .int .i64 nu] 52 (0, 0))) _
      generalize (w1.alloc (.cells #[.int .i64 1, .string ⟨tx.toArray⟩, .int .i64 ((pl : Nat) : Int), .int .i64 nu] 52 (0, 0))) = w2 at HB2 HT2 ⊢
      refine (Cat.name_calls ⟨tx.toArray⟩ w2 HTX.out (shaped_below HSH.out HB2.out)).mono ?_
      rintro e w' ⟨rfl, rfl⟩
      have HH2 := Asd.mk (HH.out.below HB2.out)
      cases hn : nmOk tx with
      | true =>
        have hz : Cat.nameNo ⟨tx.toArray⟩ = 0 := by simpa [nmOk] using hn
        have HN : Asd (nameT nmOk l i = .ok (tx, i + 1)) := Asd.mk (by unfold nameT; rw [HL.out]; simp only; rw [if_pos ⟨trivial, hn⟩])
        rw [hz]
        have t1 := (blk_cell HT2.out 1).trans rfl
        have r1 := (blk_cell HH2.out.blk 1).trans rfl
        have z1 := blk_frozen HH2.out.blk 1
        have hs := HH2.out.set (j := i + 1) (by omega)
        have HSS := Asd.mk hs.2
        have HSF := Asd.mk (frR_below HB2.out hs.1)
        have HNE1 : Asd (w1.heap.size ≠ R) := Asd.mk (by have := blk_lt HH.out.blk; have := HB1.out.size; omega)
        have t2 : (w2.setCell ⟨R, 1, none⟩ (.int .i64 ((i : Int) + 1))).cell? ⟨w1.heap.size, 1, none⟩ = some (.string ⟨tx.toArray⟩) := cell_frS hs.1 (fun h => HNE1.out h) t1
        clear hn hz hs
        go_wp2
        go_ret
        refine ⟨HSF.out, ?_⟩
        rw [HN.out]
        exact ⟨rfl, HSS.out⟩
      | false =>
        have hz : ¬ Cat.nameNo ⟨tx.toArray⟩ = 0 := by simpa [nmOk] using hn
        have HN : Asd (nameT nmOk l i = .error (stopAt l i, 20)) := Asd.mk (by unfold nameT; rw [HL.out]; simp only; rw [if_neg (by rintro ⟨_, h⟩; rw [hn] at h; cases h)])
        have hzb : (Cat.nameNo ⟨tx.toArray⟩ != 0) = true := by simpa using hz
        generalize Cat.nameNo ⟨tx.toArray⟩ = nn at hz hzb ⊢
        clear hn
        go_wp2_with fail
        refine (stop_calls R A m c l i d 20 w2 HNE.out HH2.out).mono ?_
        rintro e w3 ⟨hb3, N, rfl, hN⟩
        refine ⟨rfl, Fr.of_below (HB2.out.trans (hb3.mono HB2.out.size)), ?_⟩
        rw [HN.out]
        exact ⟨N, rfl, hN⟩
    · have h1' : ¬ ((kd : Nat) : Int) = 1 := by omega
      have HB2 : Asd (Below w.heap.size w (w1.alloc (.cells #[.int .i64 ((kd : Nat) : Int), .string ⟨tx.toArray⟩, .int .i64 ((pl : Nat) : Int), .int .i64 nu] 52 (0, 0)))) := Asd.mk (below_alloc HB1.out _)
      have HN : Asd (nameT nmOk l i = .error (stopAt l i, 20)) := Asd.mk (by unfold nameT; rw [HL.out]; simp only; rw [if_neg (by rintro ⟨h, _⟩; exact h1 h)])
      clear h1
      go_wp2_with fail
      generalize (w1.alloc (.cells #[.int .i64 ((kd : Nat) : Int), .string ⟨tx.toArray⟩, .int .i64 ((pl : Nat) : Int), .int .i64 nu] 52 (0, 0))) = w2 at HB2 ⊢
      refine (stop_calls R A m c l i d 20 w2 HNE.out (HH.out.below HB2.out)).mono ?_
      rintro e w3 ⟨hb3, N, rfl, hN⟩
      refine ⟨rfl, Fr.of_below (HB2.out.trans (hb3.mono HB2.out.size)), ?_⟩
      rw [HN.out]
      exact ⟨N, rfl, hN⟩
  · rw [tkV_none (by omega)]
    have HB2 : Asd (Below w.heap.size w (w1.alloc (.cells #[.int .i64 0, .string ⟨#[]⟩, .int .i64 0, .int .i64 0] 52 (0, 0)))) := Asd.mk (below_alloc HB1.out _)
    have HN : Asd (nameT nmOk l i = .error (stopAt l i, 20)) := Asd.mk (by unfold nameT; rw [List.getElem?_eq_none (by omega)])
    go_wp2_with fail
    generalize (w1.alloc (.cells #[.int .i64 0, .string ⟨#[]⟩, .int .i64 0, .int .i64 0] 52 (0, 0))) = w2 at HB2 ⊢
    refine (stop_calls R A m c l i d 20 w2 HNE.out (HH.out.below HB2.out)).mono ?_
    rintro e w3 ⟨hb3, N, rfl, hN⟩
    refine ⟨rfl, Fr.of_below (HB2.out.trans (hb3.mono HB2.out.size)), ?_⟩
    rw [HN.out]
    exact ⟨N, rfl, hN⟩
end Go.Proofs.YtcefmhofidoloaaGreatDoor.Exp

/- The reader of expressions: a sign ahead. -/
set_option linter.unusedVariables false
set_option linter.unusedSimpArgs false
namespace Go.Proofs.YtcefmhofidoloaaGreatDoor.Exp
open Go.RowKit Go.Proofs.YtcefmhofidoloaaGreatDoor.Base Go.Proofs.YtcefmhofidoloaaGreatDoor.App Go.Proofs.YtcefmhofidoloaaGreatDoor.Byt Go.Proofs.YtcefmhofidoloaaGreatDoor.Lex

/-- A part of the reader reads what f reads, d deep. -/
def PartOK (F : FuncId) (R : Nat) (A : Option Addr) (m c : Nat) (l : Toks) (f : Nat → Res Ex) (d : Nat) : Prop := ∀ w i, RdW w R A m c l i d → Calls Tryz.prog F #[.pointer (some ⟨R, 0, none⟩)] w (Got R A m c l d w (f i))
def resJ (r : Res Ex) : Except (Nat × Int) Nat := match r with
  | .ok x => .ok x.2
  | .error x => .error x
/-- The variable at b holds an expression of one operand, which was read. -/
def ArgAt (b base : Nat) (o : Int) (r : Res Ex) (W : World) : Prop := match r with
  | .ok x => ∃ A n c, W.heap[b]? = some (.cells (exC (unE o x.1) (.slice A n c)).toArray 58 (0, 0)) ∧ Held (fun g => base ≤ g ∧ g ≠ b) W [x.1] (.slice A n c)
  | .error _ => True
theorem ArgAt.set {b base : Nat} {o : Int} {r : Res Ex} {W : World} (h : ArgAt b base o r W) {R : Nat} (hb : b ≠ R) (hR : R < base) (j : Nat) (v : Value) : ArgAt b base o r (W.setCell ⟨R, j, none⟩ v) := by
  cases r with
  | error x => exact h
  | ok x =>
    obtain ⟨A, n, c, h1, h2⟩ := h
    exact ⟨A, n, c, blk_far h1 hb _, held_frS h2 (Fr.setCell (S := fun k => k = R) (Fr.refl _ W) (p := ⟨R, j, none⟩) rfl v) (fun g hg h => by have h1 := hg.1; have h2 : g = R := h; omega)⟩
/-- An expression's variable is no concern of the reader. -/
theorem RdW.var {W W' : World} {R b : Nat} {A : Option Addr} {m c : Nat} {l : Toks} {i d : Nat} (h : RdW W R A m c l i d) (hf : Fr (fun k => k = b) W W') (hn : b ≠ R) (hR : R < b) {x y : Ex} {s s' : Value} (h1 : W.heap[b]? = some (.cells (exC x s).toArray 58 (0, 0))) (h2 : W'.heap[b]? = some (.cells (exC y s').toArray 58 (0, 0))) : RdW W' R A m c l i d := by
  refine ⟨blk_fr h.blk hf (fun e => hn e.symm), ⟨h.tok.1, h.tok.2.1, fun h0 => ?_⟩, h.le, ?_, h.low⟩
  · obtain ⟨g, rfl, hc⟩ := h.tok.2.2 h0
    have hg : ¬ g = b := by
      rintro rfl
      have := (hc 0 (by have := h.tok.1; omega)).2.1
      rw [blk_cell h1] at this
      simp [exC] at this
    refine ⟨g, rfl, fun i hi => ?_⟩
    obtain ⟨a, b, c, e⟩ := hc i hi
    exact ⟨cell_frS hf hg a, cell_frS hf hg b, cell_frS hf hg c, cell_frS hf hg e⟩
  · refine h.sh.keptBut (may := fun p => p.block = b) ⟨hf.os, hf.output, fun k hk => ?_⟩ (fun p hp => by rw [hp]; have := h.low; omega)
    by_cases hkb : k = b
    · subst hkb
      rw [h1, h2]
      exact ⟨rfl, rfl, rfl, fun j hj => absurd rfl hj⟩
    · rw [hf.block k hk hkb]
      cases hx : W.heap[k]? with
      | none => rfl
      | some o => cases o <;> simp
theorem blk_set9 {W : World} {b : Nat} {T : TypeId} {x y : Ex} {s : Value} (h : W.heap[b]? = some (.cells (exC x s).toArray T (0, 0))) (v : Value) (hxy : exC y v = (exC x s).set 9 v) : (W.setCell ⟨b, 9, none⟩ v).heap[b]? = some (.cells (exC y v).toArray T (0, 0)) := by
  rw [blk_set h 9 v, hxy]
  simp

set_option maxRecDepth 100000 in
set_option maxHeartbeats 6400000 in
theorem sign1_calls (b1 b3 R : Nat) (A : Option Addr) (m c : Nat) (l : Toks) (f : Nat → Res Ex) (i d : Nat) (w : World)
    (p1 : w.heap[b1]? = some (.cells #[.pointer (some ⟨R, 0, none⟩)] 107 (0, 0))) (p3 : w.heap[b3]? = some (.cells (exC (.mk 3 1 vNull [] [] 0 0 []) (.slice none 0 0)).toArray 58 (0, 0)))
    (n3 : b3 ≠ R) (hrb : R < b3) (hf : PartOK 133 R A m c l f d) (h : RdW w R A m c l i d) :
    Calls Tryz.prog 193 #[.pointer (some ⟨b1, 0, none⟩), .pointer (some ⟨b3, 0, none⟩)] w fun e w' => Fr (fun k => k = R ∨ k = b3) w w' ∧ Ins R A m c l d (resJ (f i)) (ArgAt b3 w.heap.size 1 (f i)) e w' := by
  have HH := Asd.mk h
  have HP3 := Asd.mk p3
  have HN3 := Asd.mk n3
  have HRB := Asd.mk hrb
  have HF := Asd.mk hf
  have c1 := (blk_cell p1 0).trans rfl
  have HB3 := Asd.mk (blk_lt p3)
  clear h p1 p3 n3 hrb hf
  go_enter Tryz.func193, Tryz.ntmps193
  go_wp2_with fail
  refine (HF.out w i HH.out).mono ?_
  rintro e w1 ⟨hf1, hm⟩
  have HF1 := Asd.mk hf1
  have HQ1 : Asd (w1.heap[b3]? = some (.cells (exC (.mk 3 1 vNull [] [] 0 0 []) (.slice none 0 0)).toArray 58 (0, 0))) := Asd.mk (blk_fr HP3.out hf1 HN3.out)
  clear hf1
  cases hfi : f i with
  | error er =>
    rw [hfi] at hm
    obtain ⟨N, rfl, hN⟩ := hm
    have HR0 : Asd (Fr (fun k => k = R ∨ k = b3) w w1) := Asd.mk (HF1.out.mono fun k h _ => .inl h)
    have HFI := Asd.mk hfi
    clear hfi
    go_wp2
    refine ⟨rfl, HR0.out, ?_⟩
    rw [HFI.out]
    exact ⟨N, rfl, hN⟩
  | ok y =>
    obtain ⟨x, j⟩ := y
    rw [hfi] at hm
    obtain ⟨s, rfl, hh, hr⟩ := hm
    obtain ⟨As, ms, cs, rfl⟩ := held_slice hh
    have HHX := Asd.mk hh
    have HRX := Asd.mk hr
    have HFI := Asd.mk hfi
    clear hfi hh hr
    unfold exV
    have HBA := Asd.mk (below_alloc (Below.refl _ w1) (.cells #[.int .i64 x.kind, .int .i64 x.op, .int .i64 x.v.kind, .int .i64 x.v.int, .string ⟨x.v.text.toArray⟩, .string ⟨x.table.toArray⟩, .string ⟨x.name.toArray⟩, .int .i64 x.col, .int .i64 x.ty, .slice As ms cs] 58 (0, 0)))
    have HNB := Asd.mk (blk_new w1 (.cells #[.int .i64 x.kind, .int .i64 x.op, .int .i64 x.v.kind, .int .i64 x.v.int, .string ⟨x.v.text.toArray⟩, .string ⟨x.table.toArray⟩, .string ⟨x.name.toArray⟩, .int .i64 x.col, .int .i64 x.ty, .slice As ms cs] 58 (0, 0)))
    have HQ2 := Asd.mk (blk_below HBA.out HQ1.out)
    have HR2 := Asd.mk (HRX.out.below HBA.out)
    have HH2 := Asd.mk (held_below HHX.out HBA.out)
    have HL3 : Asd (b3 < w1.heap.size) := Asd.mk (blk_lt HQ1.out)
    have HS3 : Asd (w.heap.size ≤ w1.heap.size) := Asd.mk HF1.out.size
    have z9 := blk_frozen HQ2.out 9
    have y9 := (ex_cells HQ2.out).2.2.2.2.2.2.2.2.2
    go_wp2
    refine bodyPost_end (results_none rfl _ _ _) rfl ?_
    have hst := Fr.setCell (S := fun k => k = b3) (Fr.refl _ (w1.alloc (.cells #[.int .i64 x.kind, .int .i64 x.op, .int .i64 x.v.kind, .int .i64 x.v.int, .string ⟨x.v.text.toArray⟩, .string ⟨x.table.toArray⟩, .string ⟨x.name.toArray⟩, .int .i64 x.col, .int .i64 x.ty, .slice As ms cs] 58 (0, 0)))) (p := ⟨b3, 9, none⟩) rfl (.slice (some ⟨w1.heap.size, 0, none⟩) 1 1)
    have hfr : Fr (fun k => k = R ∨ k = b3) w _ := (below_frR HF1.out HBA.out).trans hst (fun k h _ => .inl h) (fun k h _ => .inr h)
    have hb9 := blk_set9 (y := unE 1 x) HQ2.out (.slice (some ⟨w1.heap.size, 0, none⟩) 1 1) rfl
    have hld : Held (fun g => w.heap.size ≤ g ∧ g ≠ b3) (w1.alloc (.cells #[.int .i64 x.kind, .int .i64 x.op, .int .i64 x.v.kind, .int .i64 x.v.int, .string ⟨x.v.text.toArray⟩, .string ⟨x.table.toArray⟩, .string ⟨x.name.toArray⟩, .int .i64 x.col, .int .i64 x.ty, .slice As ms cs] 58 (0, 0))) [x] (.slice (some ⟨w1.heap.size, 0, none⟩) 1 1) := by
      refine held_of_blk (P := fun g => w.heap.size ≤ g ∧ g ≠ b3) (c := 1) ⟨HS3.out, by have := HL3.out; omega⟩ [(x, .slice As ms cs)] HNB.out ?_
      intro p hp
      simp only [List.mem_singleton] at hp
      subst hp
      exact held_mono HH2.out (fun g _ hg => ⟨hg, by have := HB3.out; have h1 : w.heap.size ≤ g := hg; omega⟩)
    refine ⟨hfr, ?_⟩
    rw [HFI.out]
    exact ⟨rfl, HR2.out.var hst HN3.out HRB.out HQ2.out hb9, _, _, _, hb9, held_frS hld hst (fun g hg h => hg.2 h)⟩
end Go.Proofs.YtcefmhofidoloaaGreatDoor.Exp

/- The reader of expressions: how a part's result is handed over; sign. -/
set_option linter.unusedVariables false
set_option linter.unusedSimpArgs false
namespace Go.Proofs.YtcefmhofidoloaaGreatDoor.Exp
open Go.RowKit Go.Proofs.YtcefmhofidoloaaGreatDoor.Base Go.Proofs.YtcefmhofidoloaaGreatDoor.App Go.Proofs.YtcefmhofidoloaaGreatDoor.Byt Go.Proofs.YtcefmhofidoloaaGreatDoor.Lex

theorem fin_got {R : Nat} {A : Option Addr} {m c : Nat} {l : Toks} {i0 d : Nat} {w w2 : World} {b2 : Nat} {x : Ex} {j : Nat} {A' : Option Addr} {n' c' : Nat} (h0 : RdW w R A m c l i0 d) (hF : Fr (fun k => k = R) w w2) (hb2 : w.heap.size ≤ b2) (hr : RdW w2 R A m c l j d) (hh : Held (fun g => w.heap.size ≤ g ∧ g ≠ b2) w2 x.args (.slice A' n' c')) :
    Got R A m c l d w (.ok (x, j)) (.returned (exV x (.slice A' n' c'))) ((((((((((w2.setCell ⟨b2, 0, none⟩ (.int .i64 x.kind)).setCell ⟨b2, 1, none⟩ (.int .i64 x.op)).setCell ⟨b2, 2, none⟩ (.int .i64 x.v.kind)).setCell ⟨b2, 3, none⟩ (.int .i64 x.v.int)).setCell ⟨b2, 4, none⟩ (.string ⟨x.v.text.toArray⟩)).setCell ⟨b2, 5, none⟩ (.string ⟨x.table.toArray⟩)).setCell ⟨b2, 6, none⟩ (.string ⟨x.name.toArray⟩)).setCell ⟨b2, 7, none⟩ (.int .i64 x.col)).setCell ⟨b2, 8, none⟩ (.int .i64 x.ty)).setCell ⟨b2, 9, none⟩ (.slice A' n' c')) := by
  have hfb := put10_fr (W := w2) (b := b2) (S := fun k => k = b2) rfl (.int .i64 x.kind) (.int .i64 x.op) (.int .i64 x.v.kind) (.int .i64 x.v.int) (.string ⟨x.v.text.toArray⟩) (.string ⟨x.table.toArray⟩) (.string ⟨x.name.toArray⟩) (.int .i64 x.col) (.int .i64 x.ty) (.slice A' n' c')
  have hR := blk_lt h0.blk
  have hff := fr_new hF hfb (fun k hk => .inr (by have h1 : k = b2 := hk; omega))
  exact ⟨hff, _, rfl, held_mono (held_frS hh hfb (fun g hg h => hg.2 h)) (fun g _ hg => hg.1), h0.move hff hr.le (blk_fr hr.blk hfb (by show ¬ R = b2; omega))⟩
theorem ArgAt.mono {b base base' : Nat} {o : Int} {r : Res Ex} {W : World} (h : ArgAt b base o r W) (hb : base' ≤ base) : ArgAt b base' o r W := by
  cases r with
  | error x => exact h
  | ok x =>
    obtain ⟨A, n, c, h1, h2⟩ := h
    exact ⟨A, n, c, h1, held_mono h2 (fun g _ hg => ⟨by have := hg.1; omega, hg.2⟩)⟩
theorem ins_mono {R : Nat} {A : Option Addr} {m c : Nat} {l : Toks} {d : Nat} {r : Except (Nat × Int) Nat} {Q Q' : World → Prop} {e : Ending} {w : World} (h : Ins R A m c l d r Q e w) (hq : ∀ w, Q w → Q' w) : Ins R A m c l d r Q' e w := by
  cases r with
  | error x => exact h
  | ok j => exact ⟨h.1, h.2.1, hq _ h.2.2⟩
theorem got_error {R : Nat} {A : Option Addr} {m c : Nat} {l : Toks} {d : Nat} {w w' : World} {x : Nat × Int} {e : Ending} (hF : Fr (fun k => k = R) w w') (h : Thrown e w' x.1 x.2) : Got R A m c l d w (.error x) e w' := ⟨hF, h⟩

set_option maxRecDepth 100000 in
set_option maxHeartbeats 6400000 in
theorem sign_calls (nm : List UInt8 → Bool) (R : Nat) (A : Option Addr) (m c : Nat) (l : Toks) (sub : Option PF) (i d : Nat) (w : World) (hnear : Near l) (hd : d ≤ 32)
    (hitem : PartOK 191 R A m c l (itemP nm l sub) d) (hsome : ∀ p, sub = some p → d < 32 ∧ PartOK 133 R A m c l p.sign (d + 1)) (hnone : sub = none → ¬ d < 32) (h : RdW w R A m c l i d) :
    Calls Tryz.prog 133 #[.pointer (some ⟨R, 0, none⟩)] w (Got R A m c l d w (signP nm l sub i)) := by
  have HH := Asd.mk h
  have HIT := Asd.mk hitem
  have HSO := Asd.mk hsome
  have HNO := Asd.mk hnone
  have HNE := Asd.mk hnear
  have HD := Asd.mk hd
  clear h hitem hsome hnone hnear hd
  have hmf := mk_func
  have HBA := Asd.mk (below_alloc (below_alloc (Below.refl _ w) (.cells #[.pointer (some ⟨R, 0, none⟩)] 107 (0, 0))) (.cells #[.int .i64 0, .int .i64 0, .int .i64 0, .int .i64 0, .string ⟨#[]⟩, .string ⟨#[]⟩, .string ⟨#[]⟩, .int .i64 0, .int .i64 0, .slice none 0 0] 58 (0, 0)))
  have HP1 := Asd.mk (blk_alloc (blk_new w (.cells #[.pointer (some ⟨R, 0, none⟩)] 107 (0, 0))) (.cells #[.int .i64 0, .int .i64 0, .int .i64 0, .int .i64 0, .string ⟨#[]⟩, .string ⟨#[]⟩, .string ⟨#[]⟩, .int .i64 0, .int .i64 0, .slice none 0 0] 58 (0, 0)))
  have HZ0 := Asd.mk (nb1 w (.cells #[.pointer (some ⟨R, 0, none⟩)] 107 (0, 0)) (.cells #[.int .i64 0, .int .i64 0, .int .i64 0, .int .i64 0, .string ⟨#[]⟩, .string ⟨#[]⟩, .string ⟨#[]⟩, .int .i64 0, .int .i64 0, .slice none 0 0] 58 (0, 0)))
  have HRW : Asd (R < w.heap.size) := Asd.mk (blk_lt HH.out.blk)
  go_enter Tryz.func133, Tryz.ntmps133
  go_wp2_with fail
  generalize (w.alloc (.cells #[.pointer (some ⟨R, 0, none⟩)] 107 (0, 0))).alloc (.cells #[.int .i64 0, .int .i64 0, .int .i64 0, .int .i64 0, .string ⟨#[]⟩, .string ⟨#[]⟩, .string ⟨#[]⟩, .int .i64 0, .int .i64 0, .slice none 0 0] 58 (0, 0)) = w0 at HBA HP1 HZ0 ⊢
  refine (is_calls R A m c l i d 5 [45] w0 (by omega) (HH.out.below HBA.out)).mono ?_
  rintro e w1 ⟨rfl, hb1⟩
  have HB1 : Asd (Below w.heap.size w w1) := Asd.mk (HBA.out.trans (hb1.mono HBA.out.size))
  have HP2 := Asd.mk (blk_below hb1 HP1.out)
  have HZ1 := Asd.mk (blk_below hb1 HZ0.out)
  have c1 := (blk_cell HP2.out 0).trans rfl
  clear hb1 HBA HP1 HZ0
  cases hT : isT l i 5 [45] with
  | false =>
    have HC : Asd (signP nm l sub i = itemP nm l sub i) := Asd.mk (by unfold signP; rw [if_neg (by rw [hT]; decide)])
    clear hT
    go_wp2_with fail
    refine (HIT.out w1 i (HH.out.below HB1.out)).mono ?_
    rintro e w2 ⟨hf2, hm⟩
    have HF2 := Asd.mk (frR_below HB1.out hf2)
    have HZ2 := Asd.mk (blk_fr HZ1.out hf2 (by show ¬ w.heap.size + 1 = R; have := HRW.out; omega))
    clear hf2
    cases hfi : itemP nm l sub i with
    | error er =>
      rw [hfi] at hm
      have HE : Asd (signP nm l sub i = .error er) := Asd.mk (by rw [HC.out, hfi])
      obtain ⟨N, rfl, hN⟩ := hm
      clear hfi
      go_wp2
      refine ⟨rfl, ?_⟩
      rw [HE.out]
      exact got_error HF2.out ⟨N, rfl, hN⟩
    | ok y =>
      obtain ⟨x, j⟩ := y
      rw [hfi] at hm
      have HE : Asd (signP nm l sub i = .ok (x, j)) := Asd.mk (by rw [HC.out, hfi])
      obtain ⟨s, rfl, hh, hr⟩ := hm
      obtain ⟨As, ms, cs, rfl⟩ := held_slice hh
      have HHX := Asd.mk hh
      have HRX := Asd.mk hr
      have HSZ : Asd (w.heap.size + 1 < w1.heap.size) := Asd.mk (blk_lt HZ1.out)
      clear hfi hh hr
      unfold exV
      have y0 := (blk_cell HZ2.out 0).trans rfl
      have y1 := (blk_cell HZ2.out 1).trans rfl
      have y2 := (blk_cell HZ2.out 2).trans rfl
      have y3 := (blk_cell HZ2.out 3).trans rfl
      have y4 := (blk_cell HZ2.out 4).trans rfl
      have y5 := (blk_cell HZ2.out 5).trans rfl
      have y6 := (blk_cell HZ2.out 6).trans rfl
      have y7 := (blk_cell HZ2.out 7).trans rfl
      have y8 := (blk_cell HZ2.out 8).trans rfl
      have y9 := (blk_cell HZ2.out 9).trans rfl
      have z0 := blk_frozen HZ2.out 0
      have z1 := blk_frozen HZ2.out 1
      have z2 := blk_frozen HZ2.out 2
      have z3 := blk_frozen HZ2.out 3
      have z4 := blk_frozen HZ2.out 4
      have z5 := blk_frozen HZ2.out 5
      have z6 := blk_frozen HZ2.out 6
      have z7 := blk_frozen HZ2.out 7
      have z8 := blk_frozen HZ2.out 8
      have z9 := blk_frozen HZ2.out 9
      go_wp2
      refine bodyPost_ret (results_cell_row rfl _ _ (w.heap.size + 1) 58 _ (0, 0) _ rfl (put10_blk HZ2.out _ _ _ _ _ _ _ _ _ _) Tryz.underlying58 rfl (by kernel_rfl)) rfl ?_
      rw [HE.out]
      exact fin_got HH.out HF2.out (by omega) HRX.out (held_mono HHX.out fun g _ hg => by have h1 : w1.heap.size ≤ g := hg; have := HSZ.out; exact ⟨by omega, by omega⟩)
  | true =>
    have HLT := Asd.mk (isT_lt hT)
    have HT := Asd.mk hT
    clear hT
    have HBB := Asd.mk (below_alloc HB1.out (.cells #[.int .i64 3, .int .i64 1, .int .i64 0, .int .i64 0, .string ⟨#[]⟩, .string ⟨#[]⟩, .string ⟨#[]⟩, .int .i64 0, .int .i64 0, .slice none 0 0] 58 (0, 0)))
    have HU0 := Asd.mk (blk_new w1 (.cells #[.int .i64 3, .int .i64 1, .int .i64 0, .int .i64 0, .string ⟨#[]⟩, .string ⟨#[]⟩, .string ⟨#[]⟩, .int .i64 0, .int .i64 0, .slice none 0 0] 58 (0, 0)))
    have HP3 := Asd.mk (blk_alloc HP2.out (.cells #[.int .i64 3, .int .i64 1, .int .i64 0, .int .i64 0, .string ⟨#[]⟩, .string ⟨#[]⟩, .string ⟨#[]⟩, .int .i64 0, .int .i64 0, .slice none 0 0] 58 (0, 0)))
    have HZ3 := Asd.mk (blk_alloc HZ1.out (.cells #[.int .i64 3, .int .i64 1, .int .i64 0, .int .i64 0, .string ⟨#[]⟩, .string ⟨#[]⟩, .string ⟨#[]⟩, .int .i64 0, .int .i64 0, .slice none 0 0] 58 (0, 0)))
    have HSW : Asd (w.heap.size ≤ w1.heap.size) := Asd.mk HB1.out.size
    have HSZ : Asd (w.heap.size + 1 < w1.heap.size) := Asd.mk (blk_lt HZ1.out)
    have c1a := (blk_cell HP3.out 0).trans rfl
    go_wp2_with fail
    generalize w1.alloc (.cells #[.int .i64 3, .int .i64 1, .int .i64 0, .int .i64 0, .string ⟨#[]⟩, .string ⟨#[]⟩, .string ⟨#[]⟩, .int .i64 0, .int .i64 0, .slice none 0 0] 58 (0, 0)) = w4 at HBB HU0 HP3 HZ3 ⊢
    have HRD := Asd.mk (HH.out.below HBB.out)
    have HB3 : Asd (w1.heap.size < w4.heap.size) := Asd.mk (blk_lt HU0.out)
    generalize w1.heap.size = b3 at HU0 HSW HSZ HB3 ⊢
    cases hs : sub with
    | none =>
      have HE : Asd (signP nm l sub i = .error (stopAt l i, 21)) := Asd.mk (by unfold signP; rw [if_pos HT.out, hs])
      have hnd := HNO.out hs
      refine (within_calls 193 #[.pointer (some ⟨w.heap.size, 0, none⟩), .pointer (some ⟨b3, 0, none⟩)] (fun k => k = R) R A m c l i d (.error (stopAt l i, 21)) (fun _ => True) w4 HNE.out rfl (isGo_of Tryz.func193 (by kernel_rfl) rfl) HLT.out HD.out (fun _ _ _ => trivial) HRD.out (fun h => absurd h hnd)).mono ?_
      rintro e w5 ⟨hf5, hm⟩
      rw [if_neg hnd] at hm
      obtain ⟨N, rfl, hN⟩ := hm
      refine ⟨rfl, ?_⟩
      rw [← hs, HE.out]
      exact got_error (frR_below HBB.out hf5) ⟨N, rfl, hN⟩
    | some p =>
      obtain ⟨hd32, hpart⟩ := HSO.out p hs
      have HPA := Asd.mk hpart
      have HE : Asd (signP nm l sub i = match p.sign (i + 1) with | .error x => .error x | .ok (e, j) => .ok (unE 1 e, j)) := Asd.mk (by unfold signP; rw [if_pos HT.out, hs]; rfl)
      have HS := Asd.mk hs
      refine (within_calls 193 #[.pointer (some ⟨w.heap.size, 0, none⟩), .pointer (some ⟨b3, 0, none⟩)] (fun k => k = R ∨ k = b3) R A m c l i d (resJ (p.sign (i + 1))) (ArgAt b3 w4.heap.size 1 (p.sign (i + 1))) w4 HNE.out (.inl rfl) (isGo_of Tryz.func193 (by kernel_rfl) rfl) HLT.out HD.out (fun W v hq => hq.set (by have := HSW.out; have := HRW.out; omega) (by have := HB3.out; have := HSW.out; have := HRW.out; omega) 2 v) HRD.out (fun _ w' hf' hr' => ?_)).mono ?_
      · refine (sign1_calls w.heap.size b3 R A m c l p.sign (i + 1) (d + 1) w' (blk_fr HP3.out hf' (by show ¬ w.heap.size = R; have := HRW.out; omega)) (blk_fr HU0.out hf' (by show ¬ b3 = R; have := HSW.out; have := HRW.out; omega)) (by have := HSW.out; have := HRW.out; omega) (by have := HSW.out; have := HRW.out; omega) HPA.out hr').mono ?_
        rintro e w'' ⟨h1, h2⟩
        exact ⟨h1, ins_mono h2 fun W hq => hq.mono hf'.size⟩
      · rintro e w5 ⟨hf5, hm⟩
        rw [if_pos hd32] at hm
        have HF5 : Asd (Fr (fun k => k = R) w w5) := Asd.mk (fr_new (Fr.of_below HBB.out) hf5 (fun k hk => by rcases hk with h | h; exact .inl h; exact .inr (by have := HSW.out; omega)))
        have HZ5 := Asd.mk (blk_fr HZ3.out hf5 (by show ¬ (w.heap.size + 1 = R ∨ w.heap.size + 1 = b3); have := HSZ.out; have := HRW.out; omega))
        clear hf5
        cases hfi : p.sign (i + 1) with
        | error er =>
          rw [hfi] at hm
          obtain ⟨N, rfl, hN⟩ := hm
          have HE2 : Asd (signP nm l sub i = .error er) := Asd.mk (by rw [HE.out, hfi])
          clear hfi
          go_wp2
          refine ⟨rfl, ?_⟩
          first | rw [HE2.out] | rw [← HS.out, HE2.out]
          exact got_error HF5.out ⟨N, rfl, hN⟩
        | ok y =>
          obtain ⟨x, j⟩ := y
          rw [hfi] at hm
          obtain ⟨rfl, hr5, A5, n5, c5, hb5, hh5⟩ := hm
          have HE2 : Asd (signP nm l sub i = .ok (unE 1 x, j)) := Asd.mk (by rw [HE.out, hfi])
          have HR5 := Asd.mk hr5
          have HH5 := Asd.mk hh5
          obtain ⟨e0, e1, e2, e3, e4, e5, e6, e7, e8, e9⟩ := ex_cells hb5
          clear hfi hr5 hh5 hb5
          have y0 := (blk_cell HZ5.out 0).trans rfl
          have y1 := (blk_cell HZ5.out 1).trans rfl
          have y2 := (blk_cell HZ5.out 2).trans rfl
          have y3 := (blk_cell HZ5.out 3).trans rfl
          have y4 := (blk_cell HZ5.out 4).trans rfl
          have y5 := (blk_cell HZ5.out 5).trans rfl
          have y6 := (blk_cell HZ5.out 6).trans rfl
          have y7 := (blk_cell HZ5.out 7).trans rfl
          have y8 := (blk_cell HZ5.out 8).trans rfl
          have y9 := (blk_cell HZ5.out 9).trans rfl
          have z0 := blk_frozen HZ5.out 0
          have z1 := blk_frozen HZ5.out 1
          have z2 := blk_frozen HZ5.out 2
          have z3 := blk_frozen HZ5.out 3
          have z4 := blk_frozen HZ5.out 4
          have z5 := blk_frozen HZ5.out 5
          have z6 := blk_frozen HZ5.out 6
          have z7 := blk_frozen HZ5.out 7
          have z8 := blk_frozen HZ5.out 8
          have z9 := blk_frozen HZ5.out 9
          go_wp2
          refine bodyPost_ret (results_cell_row rfl _ _ (w.heap.size + 1) 58 _ (0, 0) _ rfl (put10_blk HZ5.out _ _ _ _ _ _ _ _ _ _) Tryz.underlying58 rfl (by kernel_rfl)) rfl ?_
          first | rw [HE2.out] | rw [← HS.out, HE2.out]
          exact fin_got HH.out HF5.out (by omega) HR5.out (held_mono HH5.out fun g _ hg => by have h1 := hg.1; have := HB3.out; have := HSZ.out; exact ⟨by omega, by omega⟩)
end Go.Proofs.YtcefmhofidoloaaGreatDoor.Exp

/- The reader of expressions: not. -/
set_option linter.unusedVariables false
set_option linter.unusedSimpArgs false
namespace Go.Proofs.YtcefmhofidoloaaGreatDoor.Exp
open Go.RowKit Go.Proofs.YtcefmhofidoloaaGreatDoor.Base Go.Proofs.YtcefmhofidoloaaGreatDoor.App Go.Proofs.YtcefmhofidoloaaGreatDoor.Byt Go.Proofs.YtcefmhofidoloaaGreatDoor.Lex

/-- A part of the reader that takes the closure for chains of '||' reads what f reads, d deep, where K holds. -/
def PartK (F : FuncId) (cap : Array Value) (K : World → Prop) (R : Nat) (A : Option Addr) (m c : Nat) (l : Toks) (f : Nat → Res Ex) (d : Nat) : Prop := ∀ w i, RdW w R A m c l i d → K w → Calls Tryz.prog F #[.pointer (some ⟨R, 0, none⟩), .func (.func 187) #[] cap] w (Got R A m c l d w (f i))
/-- What outlives the reader's moves. -/
def Stays (R : Nat) (K : World → Prop) : Prop := ∀ w w', Fr (fun k => k = R) w w' → K w → K w'
set_option maxRecDepth 100000 in
set_option maxHeartbeats 6400000 in
theorem not1_calls (cap : Array Value) (K : World → Prop) (b1 bc b3 R : Nat) (A : Option Addr) (m c : Nat) (l : Toks) (f : Nat → Res Ex) (i d : Nat) (w : World)
    (p1 : w.heap[b1]? = some (.cells #[.pointer (some ⟨R, 0, none⟩)] 107 (0, 0))) (p3 : w.heap[b3]? = some (.cells (exC (.mk 3 2 vNull [] [] 0 0 []) (.slice none 0 0)).toArray 58 (0, 0)))
    (pc : w.heap[bc]? = some (.cells #[.func (.func 187) #[] cap] 110 (0, 0))) (hK : K w) (n3 : b3 ≠ R) (hrb : R < b3) (hf : PartK 135 cap K R A m c l f d) (h : RdW w R A m c l i d) :
    Calls Tryz.prog 195 #[.pointer (some ⟨b1, 0, none⟩), .pointer (some ⟨bc, 0, none⟩), .pointer (some ⟨b3, 0, none⟩)] w fun e w' => Fr (fun k => k = R ∨ k = b3) w w' ∧ Ins R A m c l d (resJ (f i)) (ArgAt b3 w.heap.size 2 (f i)) e w' := by
  have HH := Asd.mk h
  have HP3 := Asd.mk p3
  have HN3 := Asd.mk n3
  have HRB := Asd.mk hrb
  have HF := Asd.mk hf
  have c1 := (blk_cell p1 0).trans rfl
  have cc := (blk_cell pc 0).trans rfl
  have HK := Asd.mk hK
  have HB3 := Asd.mk (blk_lt p3)
  clear h p1 p3 pc n3 hrb hf hK
  go_enter Tryz.func195, Tryz.ntmps195
  go_wp2_with fail
  refine (HF.out w i HH.out HK.out).mono ?_
  rintro e w1 ⟨hf1, hm⟩
  have HF1 := Asd.mk hf1
  have HQ1 : Asd (w1.heap[b3]? = some (.cells (exC (.mk 3 2 vNull [] [] 0 0 []) (.slice none 0 0)).toArray 58 (0, 0))) := Asd.mk (blk_fr HP3.out hf1 HN3.out)
  clear hf1
  cases hfi : f i with
  | error er =>
    rw [hfi] at hm
    obtain ⟨N, rfl, hN⟩ := hm
    have HR0 : Asd (Fr (fun k => k = R ∨ k = b3) w w1) := Asd.mk (HF1.out.mono fun k h _ => .inl h)
    have HFI := Asd.mk hfi
    clear hfi
    go_wp2
    refine ⟨rfl, HR0.out, ?_⟩
    rw [HFI.out]
    exact ⟨N, rfl, hN⟩
  | ok y =>
    obtain ⟨x, j⟩ := y
    rw [hfi] at hm
    obtain ⟨s, rfl, hh, hr⟩ := hm
    obtain ⟨As, ms, cs, rfl⟩ := held_slice hh
    have HHX := Asd.mk hh
    have HRX := Asd.mk hr
    have HFI := Asd.mk hfi
    clear hfi hh hr
    unfold exV
    have HBA := Asd.mk (below_alloc (Below.refl _ w1) (.cells #[.int .i64 x.kind, .int .i64 x.op, .int .i64 x.v.kind, .int .i64 x.v.int, .string ⟨x.v.text.toArray⟩, .string ⟨x.table.toArray⟩, .string ⟨x.name.toArray⟩, .int .i64 x.col, .int .i64 x.ty, .slice As ms cs] 58 (0, 0)))
    have HNB := Asd.mk (blk_new w1 (.cells #[.int .i64 x.kind, .int .i64 x.op, .int .i64 x.v.kind, .int .i64 x.v.int, .string ⟨x.v.text.toArray⟩, .string ⟨x.table.toArray⟩, .string ⟨x.name.toArray⟩, .int .i64 x.col, .int .i64 x.ty, .slice As ms cs] 58 (0, 0)))
    have HQ2 := Asd.mk (blk_below HBA.out HQ1.out)
    have HR2 := Asd.mk (HRX.out.below HBA.out)
    have HH2 := Asd.mk (held_below HHX.out HBA.out)
    have HL3 : Asd (b3 < w1.heap.size) := Asd.mk (blk_lt HQ1.out)
    have HS3 : Asd (w.heap.size ≤ w1.heap.size) := Asd.mk HF1.out.size
    have z9 := blk_frozen HQ2.out 9
    have y9 := (ex_cells HQ2.out).2.2.2.2.2.2.2.2.2
    go_wp2
    refine bodyPost_end (results_none rfl _ _ _) rfl ?_
    have hst := Fr.setCell (S := fun k => k = b3) (Fr.refl _ (w1.alloc (.cells #[.int .i64 x.kind, .int .i64 x.op, .int .i64 x.v.kind, .int .i64 x.v.int, .string ⟨x.v.text.toArray⟩, .string ⟨x.table.toArray⟩, .string ⟨x.name.toArray⟩, .int .i64 x.col, .int .i64 x.ty, .slice As ms cs] 58 (0, 0)))) (p := ⟨b3, 9, none⟩) rfl (.slice (some ⟨w1.heap.size, 0, none⟩) 1 1)
    have hfr : Fr (fun k => k = R ∨ k = b3) w _ := (below_frR HF1.out HBA.out).trans hst (fun k h _ => .inl h) (fun k h _ => .inr h)
    have hb9 := blk_set9 (y := unE 2 x) HQ2.out (.slice (some ⟨w1.heap.size, 0, none⟩) 1 1) rfl
    have hld : Held (fun g => w.heap.size ≤ g ∧ g ≠ b3) (w1.alloc (.cells #[.int .i64 x.kind, .int .i64 x.op, .int .i64 x.v.kind, .int .i64 x.v.int, .string ⟨x.v.text.toArray⟩, .string ⟨x.table.toArray⟩, .string ⟨x.name.toArray⟩, .int .i64 x.col, .int .i64 x.ty, .slice As ms cs] 58 (0, 0))) [x] (.slice (some ⟨w1.heap.size, 0, none⟩) 1 1) := by
      refine held_of_blk (P := fun g => w.heap.size ≤ g ∧ g ≠ b3) (c := 1) ⟨HS3.out, by have := HL3.out; omega⟩ [(x, .slice As ms cs)] HNB.out ?_
      intro p hp
      simp only [List.mem_singleton] at hp
      subst hp
      exact held_mono HH2.out (fun g _ hg => ⟨hg, by have := HB3.out; have h1 : w.heap.size ≤ g := hg; omega⟩)
    refine ⟨hfr, ?_⟩
    rw [HFI.out]
    exact ⟨rfl, HR2.out.var hst HN3.out HRB.out HQ2.out hb9, _, _, _, hb9, held_frS hld hst (fun g hg h => hg.2 h)⟩
set_option maxRecDepth 100000 in
set_option maxHeartbeats 6400000 in
theorem not_calls (cap : Array Value) (K : World → Prop) (nm : List UInt8 → Bool) (R : Nat) (A : Option Addr) (m c : Nat) (l : Toks) (sub : Option PF) (i d : Nat) (w : World) (hKs : Stays R K) (hK : K w) (hnear : Near l) (hd : d ≤ 32)
    (hitem : PartK 194 cap K R A m c l (testP nm l sub) d) (hsome : ∀ p, sub = some p → d < 32 ∧ PartK 135 cap K R A m c l p.not (d + 1)) (hnone : sub = none → ¬ d < 32) (h : RdW w R A m c l i d) :
    Calls Tryz.prog 135 #[.pointer (some ⟨R, 0, none⟩), .func (.func 187) #[] cap] w (Got R A m c l d w (notP nm l sub i)) := by
  have HH := Asd.mk h
  have HIT := Asd.mk hitem
  have HSO := Asd.mk hsome
  have HNO := Asd.mk hnone
  have HNE := Asd.mk hnear
  have HD := Asd.mk hd
  have HK := Asd.mk hK
  have HKS := Asd.mk hKs
  have hst := st_func
  clear h hitem hsome hnone hnear hd hK hKs
  have hmf := mk_func
  have HBA := Asd.mk (below_alloc (below_alloc (below_alloc (Below.refl _ w) (.cells #[.pointer (some ⟨R, 0, none⟩)] 107 (0, 0))) (.cells #[.func (.func 187) #[] cap] 110 (0, 0))) (.cells #[.int .i64 0, .int .i64 0, .int .i64 0, .int .i64 0, .string ⟨#[]⟩, .string ⟨#[]⟩, .string ⟨#[]⟩, .int .i64 0, .int .i64 0, .slice none 0 0] 58 (0, 0)))
  have HP1 := Asd.mk (blk_alloc (blk_alloc (blk_new w (.cells #[.pointer (some ⟨R, 0, none⟩)] 107 (0, 0))) (.cells #[.func (.func 187) #[] cap] 110 (0, 0))) (.cells #[.int .i64 0, .int .i64 0, .int .i64 0, .int .i64 0, .string ⟨#[]⟩, .string ⟨#[]⟩, .string ⟨#[]⟩, .int .i64 0, .int .i64 0, .slice none 0 0] 58 (0, 0)))
  have HC1 := Asd.mk (blk_alloc (nb1 w (.cells #[.pointer (some ⟨R, 0, none⟩)] 107 (0, 0)) (.cells #[.func (.func 187) #[] cap] 110 (0, 0))) (.cells #[.int .i64 0, .int .i64 0, .int .i64 0, .int .i64 0, .string ⟨#[]⟩, .string ⟨#[]⟩, .string ⟨#[]⟩, .int .i64 0, .int .i64 0, .slice none 0 0] 58 (0, 0)))
  have HZ0 := Asd.mk (nb2 w (.cells #[.pointer (some ⟨R, 0, none⟩)] 107 (0, 0)) (.cells #[.func (.func 187) #[] cap] 110 (0, 0)) (.cells #[.int .i64 0, .int .i64 0, .int .i64 0, .int .i64 0, .string ⟨#[]⟩, .string ⟨#[]⟩, .string ⟨#[]⟩, .int .i64 0, .int .i64 0, .slice none 0 0] 58 (0, 0)))
  have HRW : Asd (R < w.heap.size) := Asd.mk (blk_lt HH.out.blk)
  go_enter Tryz.func135, Tryz.ntmps135
  go_wp2_with fail
  generalize ((w.alloc (.cells #[.pointer (some ⟨R, 0, none⟩)] 107 (0, 0))).alloc (.cells #[.func (.func 187) #[] cap] 110 (0, 0))).alloc (.cells #[.int .i64 0, .int .i64 0, .int .i64 0, .int .i64 0, .string ⟨#[]⟩, .string ⟨#[]⟩, .string ⟨#[]⟩, .int .i64 0, .int .i64 0, .slice none 0 0] 58 (0, 0)) = w0 at HBA HP1 HC1 HZ0 ⊢
  refine (is_calls R A m c l i d 1 [110, 111, 116] w0 (by omega) (HH.out.below HBA.out)).mono ?_
  rintro e w1 ⟨rfl, hb1⟩
  have HB1 : Asd (Below w.heap.size w w1) := Asd.mk (HBA.out.trans (hb1.mono HBA.out.size))
  have HP2 := Asd.mk (blk_below hb1 HP1.out)
  have HC2 := Asd.mk (blk_below hb1 HC1.out)
  have cc := (blk_cell HC2.out 0).trans rfl
  have HZ1 := Asd.mk (blk_below hb1 HZ0.out)
  have c1 := (blk_cell HP2.out 0).trans rfl
  clear hb1 HBA HP1 HC1 HZ0
  cases hT : isT l i 1 [110, 111, 116] with
  | false =>
    have HC : Asd (notP nm l sub i = testP nm l sub i) := Asd.mk (by unfold notP; rw [if_neg (by rw [hT]; decide)])
    clear hT
    go_wp2_with fail
    refine (HIT.out w1 i (HH.out.below HB1.out) (HKS.out _ _ (Fr.of_below HB1.out) HK.out)).mono ?_
    rintro e w2 ⟨hf2, hm⟩
    have HF2 := Asd.mk (frR_below HB1.out hf2)
    have HZ2 := Asd.mk (blk_fr HZ1.out hf2 (by show ¬ w.heap.size + 1 + 1 = R; have := HRW.out; omega))
    clear hf2
    cases hfi : testP nm l sub i with
    | error er =>
      rw [hfi] at hm
      have HE : Asd (notP nm l sub i = .error er) := Asd.mk (by rw [HC.out, hfi])
      obtain ⟨N, rfl, hN⟩ := hm
      clear hfi
      go_wp2
      refine ⟨rfl, ?_⟩
      rw [HE.out]
      exact got_error HF2.out ⟨N, rfl, hN⟩
    | ok y =>
      obtain ⟨x, j⟩ := y
      rw [hfi] at hm
      have HE : Asd (notP nm l sub i = .ok (x, j)) := Asd.mk (by rw [HC.out, hfi])
      obtain ⟨s, rfl, hh, hr⟩ := hm
      obtain ⟨As, ms, cs, rfl⟩ := held_slice hh
      have HHX := Asd.mk hh
      have HRX := Asd.mk hr
      have HSZ : Asd (w.heap.size + 1 + 1 < w1.heap.size) := Asd.mk (blk_lt HZ1.out)
      clear hfi hh hr
      unfold exV
      have y0 := (blk_cell HZ2.out 0).trans rfl
      have y1 := (blk_cell HZ2.out 1).trans rfl
      have y2 := (blk_cell HZ2.out 2).trans rfl
      have y3 := (blk_cell HZ2.out 3).trans rfl
      have y4 := (blk_cell HZ2.out 4).trans rfl
      have y5 := (blk_cell HZ2.out 5).trans rfl
      have y6 := (blk_cell HZ2.out 6).trans rfl
      have y7 := (blk_cell HZ2.out 7).trans rfl
      have y8 := (blk_cell HZ2.out 8).trans rfl
      have y9 := (blk_cell HZ2.out 9).trans rfl
      have z0 := blk_frozen HZ2.out 0
      have z1 := blk_frozen HZ2.out 1
      have z2 := blk_frozen HZ2.out 2
      have z3 := blk_frozen HZ2.out 3
      have z4 := blk_frozen HZ2.out 4
      have z5 := blk_frozen HZ2.out 5
      have z6 := blk_frozen HZ2.out 6
      have z7 := blk_frozen HZ2.out 7
      have z8 := blk_frozen HZ2.out 8
      have z9 := blk_frozen HZ2.out 9
      go_wp2
      refine bodyPost_ret (results_cell_row rfl _ _ (w.heap.size + 1 + 1) 58 _ (0, 0) _ rfl (put10_blk HZ2.out _ _ _ _ _ _ _ _ _ _) Tryz.underlying58 rfl (by kernel_rfl)) rfl ?_
      rw [HE.out]
      exact fin_got HH.out HF2.out (by omega) HRX.out (held_mono HHX.out fun g _ hg => by have h1 : w1.heap.size ≤ g := hg; have := HSZ.out; exact ⟨by omega, by omega⟩)
  | true =>
    have HLT := Asd.mk (isT_lt hT)
    have HT := Asd.mk hT
    clear hT
    have HBB := Asd.mk (below_alloc HB1.out (.cells #[.int .i64 3, .int .i64 2, .int .i64 0, .int .i64 0, .string ⟨#[]⟩, .string ⟨#[]⟩, .string ⟨#[]⟩, .int .i64 0, .int .i64 0, .slice none 0 0] 58 (0, 0)))
    have HU0 := Asd.mk (blk_new w1 (.cells #[.int .i64 3, .int .i64 2, .int .i64 0, .int .i64 0, .string ⟨#[]⟩, .string ⟨#[]⟩, .string ⟨#[]⟩, .int .i64 0, .int .i64 0, .slice none 0 0] 58 (0, 0)))
    have HC3 := Asd.mk (blk_alloc HC2.out (.cells #[.int .i64 3, .int .i64 2, .int .i64 0, .int .i64 0, .string ⟨#[]⟩, .string ⟨#[]⟩, .string ⟨#[]⟩, .int .i64 0, .int .i64 0, .slice none 0 0] 58 (0, 0)))
    have HP3 := Asd.mk (blk_alloc HP2.out (.cells #[.int .i64 3, .int .i64 2, .int .i64 0, .int .i64 0, .string ⟨#[]⟩, .string ⟨#[]⟩, .string ⟨#[]⟩, .int .i64 0, .int .i64 0, .slice none 0 0] 58 (0, 0)))
    have HZ3 := Asd.mk (blk_alloc HZ1.out (.cells #[.int .i64 3, .int .i64 2, .int .i64 0, .int .i64 0, .string ⟨#[]⟩, .string ⟨#[]⟩, .string ⟨#[]⟩, .int .i64 0, .int .i64 0, .slice none 0 0] 58 (0, 0)))
    have HSW : Asd (w.heap.size ≤ w1.heap.size) := Asd.mk HB1.out.size
    have HSZ : Asd (w.heap.size + 1 + 1 < w1.heap.size) := Asd.mk (blk_lt HZ1.out)
    have c1a := (blk_cell HP3.out 0).trans rfl
    have c1c := (blk_cell HC3.out 0).trans rfl
    go_wp2_with fail
    generalize w1.alloc (.cells #[.int .i64 3, .int .i64 2, .int .i64 0, .int .i64 0, .string ⟨#[]⟩, .string ⟨#[]⟩, .string ⟨#[]⟩, .int .i64 0, .int .i64 0, .slice none 0 0] 58 (0, 0)) = w4 at HBB HU0 HP3 HC3 HZ3 ⊢
    have HRD := Asd.mk (HH.out.below HBB.out)
    have HB3 : Asd (w1.heap.size < w4.heap.size) := Asd.mk (blk_lt HU0.out)
    generalize w1.heap.size = b3 at HU0 HSW HSZ HB3 ⊢
    cases hs : sub with
    | none =>
      have HE : Asd (notP nm l sub i = .error (stopAt l i, 21)) := Asd.mk (by unfold notP; rw [if_pos HT.out, hs])
      have hnd := HNO.out hs
      refine (within_calls 195 #[.pointer (some ⟨w.heap.size, 0, none⟩), .pointer (some ⟨w.heap.size + 1, 0, none⟩), .pointer (some ⟨b3, 0, none⟩)] (fun k => k = R) R A m c l i d (.error (stopAt l i, 21)) (fun _ => True) w4 HNE.out rfl (isGo_of Tryz.func195 (by kernel_rfl) rfl) HLT.out HD.out (fun _ _ _ => trivial) HRD.out (fun h => absurd h hnd)).mono ?_
      rintro e w5 ⟨hf5, hm⟩
      rw [if_neg hnd] at hm
      obtain ⟨N, rfl, hN⟩ := hm
      refine ⟨rfl, ?_⟩
      rw [← hs, HE.out]
      exact got_error (frR_below HBB.out hf5) ⟨N, rfl, hN⟩
    | some p =>
      obtain ⟨hd32, hpart⟩ := HSO.out p hs
      have HPA := Asd.mk hpart
      have HE : Asd (notP nm l sub i = match p.not (i + 1) with | .error x => .error x | .ok (e, j) => .ok (unE 2 e, j)) := Asd.mk (by unfold notP; rw [if_pos HT.out, hs]; rfl)
      have HS := Asd.mk hs
      refine (within_calls 195 #[.pointer (some ⟨w.heap.size, 0, none⟩), .pointer (some ⟨w.heap.size + 1, 0, none⟩), .pointer (some ⟨b3, 0, none⟩)] (fun k => k = R ∨ k = b3) R A m c l i d (resJ (p.not (i + 1))) (ArgAt b3 w4.heap.size 2 (p.not (i + 1))) w4 HNE.out (.inl rfl) (isGo_of Tryz.func195 (by kernel_rfl) rfl) HLT.out HD.out (fun W v hq => hq.set (by have := HSW.out; have := HRW.out; omega) (by have := HB3.out; have := HSW.out; have := HRW.out; omega) 2 v) HRD.out (fun _ w' hf' hr' => ?_)).mono ?_
      · refine (not1_calls cap K w.heap.size (w.heap.size + 1) b3 R A m c l p.not (i + 1) (d + 1) w' (blk_fr HP3.out hf' (by show ¬ w.heap.size = R; have := HRW.out; omega)) (blk_fr HU0.out hf' (by show ¬ b3 = R; have := HSW.out; have := HRW.out; omega)) (blk_fr HC3.out hf' (by show ¬ w.heap.size + 1 = R; have := HRW.out; omega)) (HKS.out _ _ (frR_below HBB.out hf') HK.out) (by have := HSW.out; have := HRW.out; omega) (by have := HSW.out; have := HRW.out; omega) HPA.out hr').mono ?_
        rintro e w'' ⟨h1, h2⟩
        exact ⟨h1, ins_mono h2 fun W hq => hq.mono hf'.size⟩
      · rintro e w5 ⟨hf5, hm⟩
        rw [if_pos hd32] at hm
        have HF5 : Asd (Fr (fun k => k = R) w w5) := Asd.mk (fr_new (Fr.of_below HBB.out) hf5 (fun k hk => by rcases hk with h | h; exact .inl h; exact .inr (by have := HSW.out; omega)))
        have HZ5 := Asd.mk (blk_fr HZ3.out hf5 (by show ¬ (w.heap.size + 1 + 1 = R ∨ w.heap.size + 1 + 1 = b3); have := HSZ.out; have := HRW.out; omega))
        clear hf5
        cases hfi : p.not (i + 1) with
        | error er =>
          rw [hfi] at hm
          obtain ⟨N, rfl, hN⟩ := hm
          have HE2 : Asd (notP nm l sub i = .error er) := Asd.mk (by rw [HE.out, hfi])
          clear hfi
          go_wp2
          refine ⟨rfl, ?_⟩
          first | rw [HE2.out] | rw [← HS.out, HE2.out]
          exact got_error HF5.out ⟨N, rfl, hN⟩
        | ok y =>
          obtain ⟨x, j⟩ := y
          rw [hfi] at hm
          obtain ⟨rfl, hr5, A5, n5, c5, hb5, hh5⟩ := hm
          have HE2 : Asd (notP nm l sub i = .ok (unE 2 x, j)) := Asd.mk (by rw [HE.out, hfi])
          have HR5 := Asd.mk hr5
          have HH5 := Asd.mk hh5
          obtain ⟨e0, e1, e2, e3, e4, e5, e6, e7, e8, e9⟩ := ex_cells hb5
          clear hfi hr5 hh5 hb5
          have y0 := (blk_cell HZ5.out 0).trans rfl
          have y1 := (blk_cell HZ5.out 1).trans rfl
          have y2 := (blk_cell HZ5.out 2).trans rfl
          have y3 := (blk_cell HZ5.out 3).trans rfl
          have y4 := (blk_cell HZ5.out 4).trans rfl
          have y5 := (blk_cell HZ5.out 5).trans rfl
          have y6 := (blk_cell HZ5.out 6).trans rfl
          have y7 := (blk_cell HZ5.out 7).trans rfl
          have y8 := (blk_cell HZ5.out 8).trans rfl
          have y9 := (blk_cell HZ5.out 9).trans rfl
          have z0 := blk_frozen HZ5.out 0
          have z1 := blk_frozen HZ5.out 1
          have z2 := blk_frozen HZ5.out 2
          have z3 := blk_frozen HZ5.out 3
          have z4 := blk_frozen HZ5.out 4
          have z5 := blk_frozen HZ5.out 5
          have z6 := blk_frozen HZ5.out 6
          have z7 := blk_frozen HZ5.out 7
          have z8 := blk_frozen HZ5.out 8
          have z9 := blk_frozen HZ5.out 9
          go_wp2
          refine bodyPost_ret (results_cell_row rfl _ _ (w.heap.size + 1 + 1) 58 _ (0, 0) _ rfl (put10_blk HZ5.out _ _ _ _ _ _ _ _ _ _) Tryz.underlying58 rfl (by kernel_rfl)) rfl ?_
          first | rw [HE2.out] | rw [← HS.out, HE2.out]
          exact fin_got HH.out HF5.out (by omega) HR5.out (held_mono HH5.out fun g _ hg => by have h1 := hg.1; have := HB3.out; have := HSZ.out; exact ⟨by omega, by omega⟩)
end Go.Proofs.YtcefmhofidoloaaGreatDoor.Exp

/- The reader of expressions: test. -/
set_option linter.unusedVariables false
set_option linter.unusedSimpArgs false
namespace Go.Proofs.YtcefmhofidoloaaGreatDoor.Exp
open Go.RowKit Go.Proofs.YtcefmhofidoloaaGreatDoor.Base Go.Proofs.YtcefmhofidoloaaGreatDoor.App Go.Proofs.YtcefmhofidoloaaGreatDoor.Byt Go.Proofs.YtcefmhofidoloaaGreatDoor.Lex

theorem sgTest_ok : SgOK sgTest := ⟨by decide, by decide, by decide, by decide⟩
set_option maxRecDepth 100000 in
set_option maxHeartbeats 6400000 in
theorem or1_calls (cap : Array Value) (K : World → Prop) (b1 bc R : Nat) (A : Option Addr) (m c : Nat) (l : Toks) (f : Nat → Res Ex) (i d : Nat) (w : World) (hK : K w) (hKs : Stays R K)
    (p1 : w.heap[b1]? = some (.cells #[.pointer (some ⟨R, 0, none⟩)] 107 (0, 0))) (pc : w.heap[bc]? = some (.cells #[.func (.func 187) #[] cap] 110 (0, 0)))
    (hf : PartK 135 cap K R A m c l f d) (h : RdW w R A m c l i d) :
    Calls Tryz.prog 134 #[.pointer (some ⟨b1, 0, none⟩), .pointer (some ⟨bc, 0, none⟩)] w (Got R A m c l d w (f i)) := by
  have HH := Asd.mk h
  have HF := Asd.mk hf
  have HK := Asd.mk hK
  have HKS := Asd.mk hKs
  have hst := st_func
  have HBA := Asd.mk (below_alloc (Below.refl _ w) (.cells #[.int .i64 0, .int .i64 0, .int .i64 0, .int .i64 0, .string ⟨#[]⟩, .string ⟨#[]⟩, .string ⟨#[]⟩, .int .i64 0, .int .i64 0, .slice none 0 0] 58 (0, 0)))
  have HZ0 := Asd.mk (blk_new w (.cells #[.int .i64 0, .int .i64 0, .int .i64 0, .int .i64 0, .string ⟨#[]⟩, .string ⟨#[]⟩, .string ⟨#[]⟩, .int .i64 0, .int .i64 0, .slice none 0 0] 58 (0, 0)))
  have HRW : Asd (R < w.heap.size) := Asd.mk (blk_lt h.blk)
  have HP1 := Asd.mk (blk_alloc p1 (.cells #[.int .i64 0, .int .i64 0, .int .i64 0, .int .i64 0, .string ⟨#[]⟩, .string ⟨#[]⟩, .string ⟨#[]⟩, .int .i64 0, .int .i64 0, .slice none 0 0] 58 (0, 0)))
  have HC1 := Asd.mk (blk_alloc pc (.cells #[.int .i64 0, .int .i64 0, .int .i64 0, .int .i64 0, .string ⟨#[]⟩, .string ⟨#[]⟩, .string ⟨#[]⟩, .int .i64 0, .int .i64 0, .slice none 0 0] 58 (0, 0)))
  clear h hf hK hKs p1 pc
  go_enter Tryz.func134, Tryz.ntmps134
  have c1 := (blk_cell HP1.out 0).trans rfl
  have c2 := (blk_cell HC1.out 0).trans rfl
  go_wp2_with fail
  generalize w.alloc (.cells #[.int .i64 0, .int .i64 0, .int .i64 0, .int .i64 0, .string ⟨#[]⟩, .string ⟨#[]⟩, .string ⟨#[]⟩, .int .i64 0, .int .i64 0, .slice none 0 0] 58 (0, 0)) = w0 at HBA HZ0 HP1 HC1 ⊢
  refine (HF.out w0 i (HH.out.below HBA.out) (HKS.out _ _ (Fr.of_below HBA.out) HK.out)).mono ?_
  rintro e w2 ⟨hf2, hm⟩
  have HF2 := Asd.mk (frR_below HBA.out hf2)
  have HSZ : Asd (w.heap.size < w0.heap.size) := Asd.mk (blk_lt HZ0.out)
  have HZ2 := Asd.mk (blk_fr HZ0.out hf2 (by show ¬ w.heap.size = R; have := HRW.out; omega))
  clear hf2
  cases hfi : f i with
  | error er =>
    rw [hfi] at hm
    obtain ⟨N, rfl, hN⟩ := hm
    have HE := Asd.mk hfi
    clear hfi
    go_wp2
    refine ⟨rfl, ?_⟩
    exact got_error HF2.out ⟨N, rfl, hN⟩
  | ok y =>
    obtain ⟨x, j⟩ := y
    rw [hfi] at hm
    have HE := Asd.mk hfi
    obtain ⟨s, rfl, hh, hr⟩ := hm
    obtain ⟨As, ms, cs, rfl⟩ := held_slice hh
    have HHX := Asd.mk hh
    have HRX := Asd.mk hr
    clear hfi hh hr
    unfold exV
    have y0 := (blk_cell HZ2.out 0).trans rfl
    have y1 := (blk_cell HZ2.out 1).trans rfl
    have y2 := (blk_cell HZ2.out 2).trans rfl
    have y3 := (blk_cell HZ2.out 3).trans rfl
    have y4 := (blk_cell HZ2.out 4).trans rfl
    have y5 := (blk_cell HZ2.out 5).trans rfl
    have y6 := (blk_cell HZ2.out 6).trans rfl
    have y7 := (blk_cell HZ2.out 7).trans rfl
    have y8 := (blk_cell HZ2.out 8).trans rfl
    have y9 := (blk_cell HZ2.out 9).trans rfl
    have z0 := blk_frozen HZ2.out 0
    have z1 := blk_frozen HZ2.out 1
    have z2 := blk_frozen HZ2.out 2
    have z3 := blk_frozen HZ2.out 3
    have z4 := blk_frozen HZ2.out 4
    have z5 := blk_frozen HZ2.out 5
    have z6 := blk_frozen HZ2.out 6
    have z7 := blk_frozen HZ2.out 7
    have z8 := blk_frozen HZ2.out 8
    have z9 := blk_frozen HZ2.out 9
    go_wp2
    refine bodyPost_ret (results_cell_row rfl _ _ w.heap.size 58 _ (0, 0) _ rfl (put10_blk HZ2.out _ _ _ _ _ _ _ _ _ _) Tryz.underlying58 rfl (by kernel_rfl)) rfl ?_
    rw [HE.out]
    exact fin_got HH.out HF2.out (Nat.le_refl _) HRX.out (held_mono HHX.out fun g _ hg => by have h1 : w0.heap.size ≤ g := hg; have := HSZ.out; exact ⟨by omega, by omega⟩)
set_option maxRecDepth 100000 in
set_option maxHeartbeats 12800000 in
theorem test_calls (cap : Array Value) (K : World → Prop) (nm : List UInt8 → Bool) (R : Nat) (A : Option Addr) (m c : Nat) (l : Toks) (sub : Option PF) (i d : Nat) (w : World) (hnear : Near l) (hahd : Ahd (catP nm l sub))
    (hKs : Stays R K) (hK : K w) (hcat : ∀ w, K w → OpOK 187 cap R A m c l (catP nm l sub) d w) (h : RdW w R A m c l i d) :
    Calls Tryz.prog 194 #[.pointer (some ⟨R, 0, none⟩), .func (.func 187) #[] cap] w (Got R A m c l d w (testP nm l sub i)) := by
  have HH := Asd.mk h
  have HCAT := Asd.mk hcat
  have HK := Asd.mk hK
  have HKS := Asd.mk hKs
  have HNE := Asd.mk hnear
  have HBA := Asd.mk (below_alloc (Below.refl _ w) (.cells #[.int .i64 0, .int .i64 0, .int .i64 0, .int .i64 0, .string ⟨#[]⟩, .string ⟨#[]⟩, .string ⟨#[]⟩, .int .i64 0, .int .i64 0, .slice none 0 0] 58 (0, 0)))
  have HZ0 := Asd.mk (blk_new w (.cells #[.int .i64 0, .int .i64 0, .int .i64 0, .int .i64 0, .string ⟨#[]⟩, .string ⟨#[]⟩, .string ⟨#[]⟩, .int .i64 0, .int .i64 0, .slice none 0 0] 58 (0, 0)))
  have HRW : Asd (R < w.heap.size) := Asd.mk (blk_lt h.blk)
  clear h hcat hK hKs hnear hahd
  go_enter Tryz.func194, Tryz.ntmps194
  go_wp2_with fail
  generalize w.alloc (.cells #[.int .i64 0, .int .i64 0, .int .i64 0, .int .i64 0, .string ⟨#[]⟩, .string ⟨#[]⟩, .string ⟨#[]⟩, .int .i64 0, .int .i64 0, .slice none 0 0] 58 (0, 0)) = w0 at HBA HZ0 ⊢
  try simp only [Array.empty_append]
  refine (HCAT.out w HK.out w0 (Fr.of_below HBA.out) i (HH.out.below HBA.out)).mono ?_
  rintro e w1 ⟨hf1, hm⟩
  have HF1 := Asd.mk (frR_below HBA.out hf1)
  have HSZ : Asd (w.heap.size < w0.heap.size) := Asd.mk (blk_lt HZ0.out)
  have HZ1 := Asd.mk (blk_fr HZ0.out hf1 (by show ¬ w.heap.size = R; have := HRW.out; omega))
  clear hf1
  cases hfi : catP nm l sub i with
  | error er =>
    rw [hfi] at hm
    obtain ⟨N, rfl, hN⟩ := hm
    have HE : Asd (testP nm l sub i = .error er) := Asd.mk (by unfold testP; rw [hfi])
    clear hfi
    go_wp2
    refine ⟨rfl, ?_⟩
    rw [HE.out]
    exact got_error HF1.out ⟨N, rfl, hN⟩
  | ok y =>
    obtain ⟨x, j⟩ := y
    rw [hfi] at hm
    have HCI := Asd.mk hfi
    obtain ⟨s, rfl, hh, hr⟩ := hm
    obtain ⟨As, ms, cs, rfl⟩ := held_slice hh
    have HHX : Asd (Held (fun g => w.heap.size < g) w1 x.args (.slice As ms cs)) := Asd.mk (held_mono hh fun g _ hg => by have h1 : w0.heap.size ≤ g := hg; have := HSZ.out; show w.heap.size < g; omega)
    have HRX := Asd.mk hr
    clear hfi hh hr
    unfold exV
    have HBB := Asd.mk (below_alloc (Below.refl _ w1) (.cells #[.int .i64 x.kind, .int .i64 x.op, .int .i64 x.v.kind, .int .i64 x.v.int, .string ⟨x.v.text.toArray⟩, .string ⟨x.table.toArray⟩, .string ⟨x.name.toArray⟩, .int .i64 x.col, .int .i64 x.ty, .slice As ms cs] 58 (0, 0)))
    have HX0 := Asd.mk (blk_new w1 (.cells #[.int .i64 x.kind, .int .i64 x.op, .int .i64 x.v.kind, .int .i64 x.v.int, .string ⟨x.v.text.toArray⟩, .string ⟨x.table.toArray⟩, .string ⟨x.name.toArray⟩, .int .i64 x.col, .int .i64 x.ty, .slice As ms cs] 58 (0, 0)))
    have HZ2 := Asd.mk (blk_alloc HZ1.out (.cells #[.int .i64 x.kind, .int .i64 x.op, .int .i64 x.v.kind, .int .i64 x.v.int, .string ⟨x.v.text.toArray⟩, .string ⟨x.table.toArray⟩, .string ⟨x.name.toArray⟩, .int .i64 x.col, .int .i64 x.ty, .slice As ms cs] 58 (0, 0)))
    have HLX : Asd (w.heap.size < w1.heap.size) := Asd.mk (blk_lt HZ1.out)
    go_wp2_with fail
    generalize w1.alloc (.cells #[.int .i64 x.kind, .int .i64 x.op, .int .i64 x.v.kind, .int .i64 x.v.int, .string ⟨x.v.text.toArray⟩, .string ⟨x.table.toArray⟩, .string ⟨x.name.toArray⟩, .int .i64 x.col, .int .i64 x.ty, .slice As ms cs] 58 (0, 0)) = w2 at HBB HX0 HZ2 ⊢
    have HR2 := Asd.mk (HRX.out.below HBB.out)
    have HH2 : Asd (Held (fun g => w.heap.size < g ∧ g ≠ w1.heap.size) w2 x.args (.slice As ms cs)) := Asd.mk (held_below (held_mono HHX.out fun g h1 hg => ⟨hg, by omega⟩) HBB.out)
    have HF2 := Asd.mk (below_frR HF1.out HBB.out)
    generalize w1.heap.size = b5 at HX0 HLX HH2 ⊢
    refine (take_calls R A m c l j d 1 [105, 115] w2 (by omega) HR2.out).mono ?_
    rintro e w3 ⟨rfl, hf3, hr3⟩
    have HF3 := Asd.mk (frR_trans HF2.out hf3)
    have HZ3 := Asd.mk (blk_fr HZ2.out hf3 (by show ¬ w.heap.size = R; have := HRW.out; omega))
    have HX3 := Asd.mk (blk_fr HX0.out hf3 (by show ¬ b5 = R; have := HRW.out; have := HLX.out; omega))
    have HH3 := Asd.mk (held_frS HH2.out hf3 (fun g hg h => by have h1 := hg.1; have h2 : g = R := h; have := HRW.out; omega))
    have HRT := Asd.mk hr3
    clear hf3 hr3
    have x0 := (blk_cell HX3.out 0).trans rfl
    have x1 := (blk_cell HX3.out 1).trans rfl
    have x2 := (blk_cell HX3.out 2).trans rfl
    have x3 := (blk_cell HX3.out 3).trans rfl
    have x4 := (blk_cell HX3.out 4).trans rfl
    have x5 := (blk_cell HX3.out 5).trans rfl
    have x6 := (blk_cell HX3.out 6).trans rfl
    have x7 := (blk_cell HX3.out 7).trans rfl
    have x8 := (blk_cell HX3.out 8).trans rfl
    have x9 := (blk_cell HX3.out 9).trans rfl
    cases hT : isT l j 1 [105, 115] with
    | true =>
      have HR3 : Asd (RdW w3 R A m c l (j + 1) d) := Asd.mk (by have := HRT.out; unfold tookT at this; rw [hT] at this; exact this)
      have HT := Asd.mk hT
      clear hT
      have HBC := Asd.mk (below_alloc (below_alloc (Below.refl _ w3) (.cells #[.int .i64 x.kind, .int .i64 x.op, .int .i64 x.v.kind, .int .i64 x.v.int, .string ⟨x.v.text.toArray⟩, .string ⟨x.table.toArray⟩, .string ⟨x.name.toArray⟩, .int .i64 x.col, .int .i64 x.ty, .slice As ms cs] 58 (0, 0))) (.cells #[.int .i64 7, .int .i64 0, .int .i64 0, .int .i64 0, .string ⟨#[]⟩, .string ⟨#[]⟩, .string ⟨#[]⟩, .int .i64 0, .int .i64 0, .slice (some ⟨w3.heap.size, 0, none⟩) 1 1] 58 (0, 0)))
      have HS0 := Asd.mk (blk_alloc (blk_new w3 (.cells #[.int .i64 x.kind, .int .i64 x.op, .int .i64 x.v.kind, .int .i64 x.v.int, .string ⟨x.v.text.toArray⟩, .string ⟨x.table.toArray⟩, .string ⟨x.name.toArray⟩, .int .i64 x.col, .int .i64 x.ty, .slice As ms cs] 58 (0, 0))) (.cells #[.int .i64 7, .int .i64 0, .int .i64 0, .int .i64 0, .string ⟨#[]⟩, .string ⟨#[]⟩, .string ⟨#[]⟩, .int .i64 0, .int .i64 0, .slice (some ⟨w3.heap.size, 0, none⟩) 1 1] 58 (0, 0)))
      have HV0 := Asd.mk (nb1 w3 (.cells #[.int .i64 x.kind, .int .i64 x.op, .int .i64 x.v.kind, .int .i64 x.v.int, .string ⟨x.v.text.toArray⟩, .string ⟨x.table.toArray⟩, .string ⟨x.name.toArray⟩, .int .i64 x.col, .int .i64 x.ty, .slice As ms cs] 58 (0, 0)) (.cells #[.int .i64 7, .int .i64 0, .int .i64 0, .int .i64 0, .string ⟨#[]⟩, .string ⟨#[]⟩, .string ⟨#[]⟩, .int .i64 0, .int .i64 0, .slice (some ⟨w3.heap.size, 0, none⟩) 1 1] 58 (0, 0)))
      have HZ4 := Asd.mk (blk_below HBC.out HZ3.out)
      have HSZ3 : Asd (w.heap.size < w3.heap.size ∧ b5 < w3.heap.size) := Asd.mk ⟨blk_lt HZ3.out, blk_lt HX3.out⟩
      go_wp2_with fail
      generalize (w3.alloc (.cells #[.int .i64 x.kind, .int .i64 x.op, .int .i64 x.v.kind, .int .i64 x.v.int, .string ⟨x.v.text.toArray⟩, .string ⟨x.table.toArray⟩, .string ⟨x.name.toArray⟩, .int .i64 x.col, .int .i64 x.ty, .slice As ms cs] 58 (0, 0))).alloc (.cells #[.int .i64 7, .int .i64 0, .int .i64 0, .int .i64 0, .string ⟨#[]⟩, .string ⟨#[]⟩, .string ⟨#[]⟩, .int .i64 0, .int .i64 0, .slice (some ⟨w3.heap.size, 0, none⟩) 1 1] 58 (0, 0)) = w4 at HBC HS0 HV0 HZ4 ⊢
      have HR4 := Asd.mk (HR3.out.below HBC.out)
      have HF4 := Asd.mk (below_frR HF3.out HBC.out)
      have HH4 : Asd (Held (fun g => w.heap.size < g ∧ g < w3.heap.size) w4 x.args (.slice As ms cs)) := Asd.mk (held_below (held_mono HH3.out fun g h1 hg => ⟨hg.1, h1⟩) HBC.out)
      generalize w3.heap.size = b6 at HS0 HV0 HSZ3 HH4 ⊢
      refine (take_calls R A m c l (j + 1) d 1 [110, 111, 116] w4 (by omega) HR4.out).mono ?_
      rintro e w5 ⟨rfl, hf5, hr5⟩
      have HF5 := Asd.mk (frR_trans HF4.out hf5)
      have HZ5 := Asd.mk (blk_fr HZ4.out hf5 (by show ¬ w.heap.size = R; have := HRW.out; omega))
      have HS5 := Asd.mk (blk_fr HS0.out hf5 (by show ¬ b6 = R; have := HRW.out; have := HSZ3.out.1; omega))
      have HV5 := Asd.mk (blk_fr HV0.out hf5 (by show ¬ b6 + 1 = R; have := HRW.out; have := HSZ3.out.1; omega))
      have HH5 := Asd.mk (held_frS HH4.out hf5 (fun g hg h => by have h1 := hg.1; have h2 : g = R := h; have := HRW.out; omega))
      have HRU := Asd.mk hr5
      clear hf5 hr5 x0 x1 x2 x3 x4 x5 x6 x7 x8 x9
      cases hU : isT l (j + 1) 1 [110, 111, 116] with
      | true =>
        have HR5 : Asd (RdW w5 R A m c l (j + 2) d) := Asd.mk (by have := HRU.out; unfold tookT at this; rw [hU] at this; exact this)
        have HU := Asd.mk hU
        clear hU
        have v1 := (blk_cell HV5.out 1).trans rfl
        have f1 := blk_frozen HV5.out 1
        have hst := Fr.setCell (S := fun k => k = b6 + 1) (Fr.refl _ w5) (p := ⟨b6 + 1, 1, none⟩) rfl (.int .i64 1)
        have HV6 : Asd ((w5.setCell ⟨b6 + 1, 1, none⟩ (.int .i64 1)).heap[b6 + 1]? = some (.cells #[.int .i64 7, .int .i64 1, .int .i64 0, .int .i64 0, .string ⟨#[]⟩, .string ⟨#[]⟩, .string ⟨#[]⟩, .int .i64 0, .int .i64 0, .slice (some ⟨b6, 0, none⟩) 1 1] 58 (0, 0))) := Asd.mk ((blk_set HV5.out 1 (.int .i64 1)).trans rfl)
        have HF6 := Asd.mk (fr_new HF5.out hst (fun k hk => .inr (by have h1 : k = b6 + 1 := hk; have := HSZ3.out.1; omega)))
        have HR6 := Asd.mk (HR5.out.var hst (by have := HRW.out; have := HSZ3.out.1; omega) (by have := HRW.out; have := HSZ3.out.1; omega) (x := nullE 0 x) (y := nullE 1 x) HV5.out HV6.out)
        have HZ6 := Asd.mk (blk_fr HZ5.out hst (by show ¬ w.heap.size = b6 + 1; have := HSZ3.out.1; omega))
        have HS6 := Asd.mk (blk_fr HS5.out hst (by show ¬ b6 = b6 + 1; omega))
        have HH6 := Asd.mk (held_frS HH5.out hst (fun g hg h => by have h1 := hg.2; have h2 : g = b6 + 1 := h; omega))
        clear hst
        go_wp2_with fail
        refine (must_calls R A m c l (j + 2) d 1 [110, 117, 108, 108] _ HNE.out (by omega) HR6.out).mono ?_
        rintro e w7 ⟨hf7, hm⟩
        have HF7 := Asd.mk (frR_trans HF6.out hf7)
        have HZ7 := Asd.mk (blk_fr HZ6.out hf7 (by show ¬ w.heap.size = R; have := HRW.out; omega))
        have HS7 := Asd.mk (blk_fr HS6.out hf7 (by show ¬ b6 = R; have := HRW.out; have := HSZ3.out.1; omega))
        have HV7 := Asd.mk (blk_fr HV6.out hf7 (by show ¬ b6 + 1 = R; have := HRW.out; have := HSZ3.out.1; omega))
        have HH7 := Asd.mk (held_frS HH6.out hf7 (fun g hg h => by have h1 := hg.1; have h2 : g = R := h; have := HRW.out; omega))
        clear hf7
        cases hM : mustT l (j + 2) 1 [110, 117, 108, 108] with
        | error er =>
          rw [hM] at hm
          obtain ⟨N, rfl, hN⟩ := hm
          have HE : Asd (testP nm l sub i = .error er) := Asd.mk (by unfold testP; rw [HCI.out]; simp only; rw [if_pos HT.out, HU.out]; simp only [if_true, if_false, Bool.false_eq_true]; rw [hM])
          clear hM
          go_wp2
          refine ⟨rfl, ?_⟩
          rw [HE.out]
          exact got_error HF7.out ⟨N, rfl, hN⟩
        | ok q =>
          rw [hM] at hm
          obtain ⟨rfl, hr7⟩ := hm
          have HE : Asd (testP nm l sub i = .ok (nullE 1 x, q)) := Asd.mk (by unfold testP; rw [HCI.out]; simp only; rw [if_pos HT.out, HU.out]; simp only [if_true, if_false, Bool.false_eq_true]; rw [hM])
          have HR7 := Asd.mk hr7
          clear hM hr7
          have x0 := (blk_cell HV7.out 0).trans rfl
          have x1 := (blk_cell HV7.out 1).trans rfl
          have x2 := (blk_cell HV7.out 2).trans rfl
          have x3 := (blk_cell HV7.out 3).trans rfl
          have x4 := (blk_cell HV7.out 4).trans rfl
          have x5 := (blk_cell HV7.out 5).trans rfl
          have x6 := (blk_cell HV7.out 6).trans rfl
          have x7 := (blk_cell HV7.out 7).trans rfl
          have x8 := (blk_cell HV7.out 8).trans rfl
          have x9 := (blk_cell HV7.out 9).trans rfl
          have y0 := (blk_cell HZ7.out 0).trans rfl
          have y1 := (blk_cell HZ7.out 1).trans rfl
          have y2 := (blk_cell HZ7.out 2).trans rfl
          have y3 := (blk_cell HZ7.out 3).trans rfl
          have y4 := (blk_cell HZ7.out 4).trans rfl
          have y5 := (blk_cell HZ7.out 5).trans rfl
          have y6 := (blk_cell HZ7.out 6).trans rfl
          have y7 := (blk_cell HZ7.out 7).trans rfl
          have y8 := (blk_cell HZ7.out 8).trans rfl
          have y9 := (blk_cell HZ7.out 9).trans rfl
          have z0 := blk_frozen HZ7.out 0
          have z1 := blk_frozen HZ7.out 1
          have z2 := blk_frozen HZ7.out 2
          have z3 := blk_frozen HZ7.out 3
          have z4 := blk_frozen HZ7.out 4
          have z5 := blk_frozen HZ7.out 5
          have z6 := blk_frozen HZ7.out 6
          have z7 := blk_frozen HZ7.out 7
          have z8 := blk_frozen HZ7.out 8
          have z9 := blk_frozen HZ7.out 9
          go_wp2
          refine bodyPost_ret (results_cell_row rfl _ _ w.heap.size 58 _ (0, 0) _ rfl (put10_blk HZ7.out _ _ _ _ _ _ _ _ _ _) Tryz.underlying58 rfl (by kernel_rfl)) rfl ?_
          rw [HE.out]
          refine fin_got (x := nullE 1 x) HH.out HF7.out (Nat.le_refl _) HR7.out ?_
          refine held_of_blk (P := fun g => w.heap.size ≤ g ∧ g ≠ w.heap.size) (c := 1) ⟨by have := HSZ3.out.1; omega, by have := HSZ3.out.1; omega⟩ [(x, .slice As ms cs)] HS7.out ?_
          intro p hp
          simp only [List.mem_singleton] at hp
          subst hp
          exact held_mono HH7.out (fun g _ hg => ⟨Nat.le_of_lt hg.1, by have := hg.1; omega⟩)
      | false =>
        have HR5 : Asd (RdW w5 R A m c l (j + 1) d) := Asd.mk (by have := HRU.out; unfold tookT at this; rw [hU] at this; exact this)
        have HU := Asd.mk hU
        clear hU
        go_wp2_with fail
        refine (must_calls R A m c l (j + 1) d 1 [110, 117, 108, 108] _ HNE.out (by omega) HR5.out).mono ?_
        rintro e w7 ⟨hf7, hm⟩
        have HF7 := Asd.mk (frR_trans HF5.out hf7)
        have HZ7 := Asd.mk (blk_fr HZ5.out hf7 (by show ¬ w.heap.size = R; have := HRW.out; omega))
        have HS7 := Asd.mk (blk_fr HS5.out hf7 (by show ¬ b6 = R; have := HRW.out; have := HSZ3.out.1; omega))
        have HV7 := Asd.mk (blk_fr HV5.out hf7 (by show ¬ b6 + 1 = R; have := HRW.out; have := HSZ3.out.1; omega))
        have HH7 := Asd.mk (held_frS HH5.out hf7 (fun g hg h => by have h1 := hg.1; have h2 : g = R := h; have := HRW.out; omega))
        clear hf7
        cases hM : mustT l (j + 1) 1 [110, 117, 108, 108] with
        | error er =>
          rw [hM] at hm
          obtain ⟨N, rfl, hN⟩ := hm
          have HE : Asd (testP nm l sub i = .error er) := Asd.mk (by unfold testP; rw [HCI.out]; simp only; rw [if_pos HT.out, HU.out]; simp only [if_true, if_false, Bool.false_eq_true]; rw [hM])
          clear hM
          go_wp2
          refine ⟨rfl, ?_⟩
          rw [HE.out]
          exact got_error HF7.out ⟨N, rfl, hN⟩
        | ok q =>
          rw [hM] at hm
          obtain ⟨rfl, hr7⟩ := hm
          have HE : Asd (testP nm l sub i = .ok (nullE 0 x, q)) := Asd.mk (by unfold testP; rw [HCI.out]; simp only; rw [if_pos HT.out, HU.out]; simp only [if_true, if_false, Bool.false_eq_true]; rw [hM])
          have HR7 := Asd.mk hr7
          clear hM hr7
          have x0 := (blk_cell HV7.out 0).trans rfl
          have x1 := (blk_cell HV7.out 1).trans rfl
          have x2 := (blk_cell HV7.out 2).trans rfl
          have x3 := (blk_cell HV7.out 3).trans rfl
          have x4 := (blk_cell HV7.out 4).trans rfl
          have x5 := (blk_cell HV7.out 5).trans rfl
          have x6 := (blk_cell HV7.out 6).trans rfl
          have x7 := (blk_cell HV7.out 7).trans rfl
          have x8 := (blk_cell HV7.out 8).trans rfl
          have x9 := (blk_cell HV7.out 9).trans rfl
          have y0 := (blk_cell HZ7.out 0).trans rfl
          have y1 := (blk_cell HZ7.out 1).trans rfl
          have y2 := (blk_cell HZ7.out 2).trans rfl
          have y3 := (blk_cell HZ7.out 3).trans rfl
          have y4 := (blk_cell HZ7.out 4).trans rfl
          have y5 := (blk_cell HZ7.out 5).trans rfl
          have y6 := (blk_cell HZ7.out 6).trans rfl
          have y7 := (blk_cell HZ7.out 7).trans rfl
          have y8 := (blk_cell HZ7.out 8).trans rfl
          have y9 := (blk_cell HZ7.out 9).trans rfl
          have z0 := blk_frozen HZ7.out 0
          have z1 := blk_frozen HZ7.out 1
          have z2 := blk_frozen HZ7.out 2
          have z3 := blk_frozen HZ7.out 3
          have z4 := blk_frozen HZ7.out 4
          have z5 := blk_frozen HZ7.out 5
          have z6 := blk_frozen HZ7.out 6
          have z7 := blk_frozen HZ7.out 7
          have z8 := blk_frozen HZ7.out 8
          have z9 := blk_frozen HZ7.out 9
          go_wp2
          refine bodyPost_ret (results_cell_row rfl _ _ w.heap.size 58 _ (0, 0) _ rfl (put10_blk HZ7.out _ _ _ _ _ _ _ _ _ _) Tryz.underlying58 rfl (by kernel_rfl)) rfl ?_
          rw [HE.out]
          refine fin_got (x := nullE 0 x) HH.out HF7.out (Nat.le_refl _) HR7.out ?_
          refine held_of_blk (P := fun g => w.heap.size ≤ g ∧ g ≠ w.heap.size) (c := 1) ⟨by have := HSZ3.out.1; omega, by have := HSZ3.out.1; omega⟩ [(x, .slice As ms cs)] HS7.out ?_
          intro p hp
          simp only [List.mem_singleton] at hp
          subst hp
          exact held_mono HH7.out (fun g _ hg => ⟨Nat.le_of_lt hg.1, by have := hg.1; omega⟩)
    | false =>
      have HR3 : Asd (RdW w3 R A m c l j d) := Asd.mk (by have := HRT.out; unfold tookT at this; rw [hT] at this; exact this)
      have HT := Asd.mk hT
      clear hT
      go_wp2_with fail
      refine (tests_calls w3).mono ?_
      rintro e w4 ⟨⟨v, rfl, hv⟩, hb4⟩
      have HV := Asd.mk hv
      have HR4 := Asd.mk (HR3.out.below hb4)
      have HF4 := Asd.mk (below_frR HF3.out hb4)
      have HZ4 := Asd.mk (blk_below hb4 HZ3.out)
      have HX4 := Asd.mk (blk_below hb4 HX3.out)
      have HH4 := Asd.mk (held_below HH3.out hb4)
      clear hb4 hv x0 x1 x2 x3 x4 x5 x6 x7 x8 x9
      go_wp2_with fail
      refine (operator_calls R A m c l j d sgTest v w4 sgTest_ok.pos sgTest_ok.kind sgTest_ok.few HV.out HR4.out).mono ?_
      rintro e w5 ⟨rfl, hf5, hr5⟩
      have HF5 := Asd.mk (frR_trans HF4.out hf5)
      have HZ5 := Asd.mk (blk_fr HZ4.out hf5 (by show ¬ w.heap.size = R; have := HRW.out; omega))
      have HX5 := Asd.mk (blk_fr HX4.out hf5 (by show ¬ b5 = R; have := HRW.out; have := HLX.out; omega))
      have HH5 := Asd.mk (held_frS HH4.out hf5 (fun g hg h => by have h1 := hg.1; have h2 : g = R := h; have := HRW.out; omega))
      have HRO := Asd.mk hr5
      clear hf5 hr5
      cases hO : operT sgTest l j with
      | none =>
        have HR5 : Asd (RdW w5 R A m c l j d) := Asd.mk (by have := HRO.out; unfold tookO at this; rw [hO] at this; exact this)
        have HE : Asd (testP nm l sub i = .ok (x, j)) := Asd.mk (by unfold testP; rw [HCI.out]; simp only; rw [if_neg (by rw [HT.out]; decide), hO])
        rw [show (none : Option Int).getD 0 = 0 from rfl]
        clear hO
        have x0 := (blk_cell HX5.out 0).trans rfl
        have x1 := (blk_cell HX5.out 1).trans rfl
        have x2 := (blk_cell HX5.out 2).trans rfl
        have x3 := (blk_cell HX5.out 3).trans rfl
        have x4 := (blk_cell HX5.out 4).trans rfl
        have x5 := (blk_cell HX5.out 5).trans rfl
        have x6 := (blk_cell HX5.out 6).trans rfl
        have x7 := (blk_cell HX5.out 7).trans rfl
        have x8 := (blk_cell HX5.out 8).trans rfl
        have x9 := (blk_cell HX5.out 9).trans rfl
        have y0 := (blk_cell HZ5.out 0).trans rfl
        have y1 := (blk_cell HZ5.out 1).trans rfl
        have y2 := (blk_cell HZ5.out 2).trans rfl
        have y3 := (blk_cell HZ5.out 3).trans rfl
        have y4 := (blk_cell HZ5.out 4).trans rfl
        have y5 := (blk_cell HZ5.out 5).trans rfl
        have y6 := (blk_cell HZ5.out 6).trans rfl
        have y7 := (blk_cell HZ5.out 7).trans rfl
        have y8 := (blk_cell HZ5.out 8).trans rfl
        have y9 := (blk_cell HZ5.out 9).trans rfl
        have z0 := blk_frozen HZ5.out 0
        have z1 := blk_frozen HZ5.out 1
        have z2 := blk_frozen HZ5.out 2
        have z3 := blk_frozen HZ5.out 3
        have z4 := blk_frozen HZ5.out 4
        have z5 := blk_frozen HZ5.out 5
        have z6 := blk_frozen HZ5.out 6
        have z7 := blk_frozen HZ5.out 7
        have z8 := blk_frozen HZ5.out 8
        have z9 := blk_frozen HZ5.out 9
        go_wp2
        refine bodyPost_ret (results_cell_row rfl _ _ w.heap.size 58 _ (0, 0) _ rfl (put10_blk HZ5.out _ _ _ _ _ _ _ _ _ _) Tryz.underlying58 rfl (by kernel_rfl)) rfl ?_
        rw [HE.out]
        exact fin_got HH.out HF5.out (Nat.le_refl _) HR5.out (held_mono HH5.out fun g _ hg => ⟨Nat.le_of_lt hg.1, by have := hg.1; omega⟩)
      | some o =>
        obtain ⟨xo, hmem, hxo⟩ := operT_mem hO
        have ho : ¬ o = 0 := by rw [← hxo]; exact sgTest_ok.op xo hmem
        have hob : (o != 0) = true := by simp [ho]
        have HO := Asd.mk hO
        have HR5 : Asd (RdW w5 R A m c l (j + 1) d) := Asd.mk (by have := HRO.out; unfold tookO at this; rw [hO] at this; exact this)
        clear hO hmem hxo
        rw [show (some o).getD 0 = o from rfl]
        go_upto_region 10 with fail
        have HFD : Asd (Fr (fun k => k = R) w w5.drew) := Asd.mk HF5.out.drew
        have HXD : Asd (w5.drew.heap[b5]? = some (.cells (exC x (.slice As ms cs)).toArray 58 (0, 0))) := Asd.mk HX5.out
        have HZD : Asd (w5.drew.heap[w.heap.size]? = some (.cells #[.int .i64 0, .int .i64 0, .int .i64 0, .int .i64 0, .string ⟨#[]⟩, .string ⟨#[]⟩, .string ⟨#[]⟩, .int .i64 0, .int .i64 0, .slice none 0 0] 58 (0, 0))) := Asd.mk HZ5.out
        have HHD := Asd.mk (held_below HH5.out (below_drewN' w5 1))
        have HRD := Asd.mk (HR5.out.below (below_drewN' w5 1))
        have HB5D : Asd (b5 < w5.drew.heap.size) := Asd.mk (blk_lt HXD.out)
        have hcf : ∀ (args : Array Value) (w : World), (callFunc 187 args).run Tryz.prog w = .ok (.enter 187 args) w := isGo_chain
        refine wp_region_held_drew (S := fun w' => w'.cell? ⟨b5, 0, none⟩ = some (.int .i64 x.kind) ∧ w'.cell? ⟨b5, 1, none⟩ = some (.int .i64 x.op) ∧ w'.cell? ⟨b5, 2, none⟩ = some (.int .i64 x.v.kind) ∧ w'.cell? ⟨b5, 3, none⟩ = some (.int .i64 x.v.int) ∧ w'.cell? ⟨b5, 4, none⟩ = some (.string ⟨x.v.text.toArray⟩) ∧ w'.cell? ⟨b5, 5, none⟩ = some (.string ⟨x.table.toArray⟩) ∧ w'.cell? ⟨b5, 6, none⟩ = some (.string ⟨x.name.toArray⟩) ∧ w'.cell? ⟨b5, 7, none⟩ = some (.int .i64 x.col) ∧ w'.cell? ⟨b5, 8, none⟩ = some (.int .i64 x.ty) ∧ w'.cell? ⟨b5, 9, none⟩ = some (.slice As ms cs)) (by kernel_rfl) (ex_cells HXD.out) (fun hHeld => ?_)
        refine wpAnyH_take (i := 0) (oi := ({ dst := some 26, op := Op.move (Operand.tmp 7), type := 3, pos := "expr.go:160", after := #[], guard := none } : Oper)) (v := ?va0) rfl (by kernel_rfl) (by kernel_rfl) (by kernel_rfl) (fun _ _ _ h => h) (Or.inl ⟨by rfl, ?ha0⟩) (by assumption) ?ra0
        case ha0 => (intro w hSw; (try dsimp only at hSw); obtain ⟨g0, g1, g2, g3, g4, g5, g6, g7, g8, g9⟩ := hSw; go_simp; try (with_reducible rfl))
        try simp only [Act.put, List.setIfInBounds_toArray, List.set_cons_zero, List.set_cons_succ]
        refine wpAnyH_take (i := 1) (oi := ({ dst := some 27, op := Op.load 58 (Operand.tmp 5), type := 58, pos := "expr.go:160", after := #[], guard := none } : Oper)) (v := ?va1) rfl (by kernel_rfl) (by kernel_rfl) (by kernel_rfl) (fun _ _ _ h => h) (Or.inl ⟨by rfl, ?ha1⟩) (by assumption) ?ra1
        case ha1 => (intro w hSw; (try dsimp only at hSw); obtain ⟨g0, g1, g2, g3, g4, g5, g6, g7, g8, g9⟩ := hSw; go_simp; try (with_reducible rfl))
        try simp only [Act.put, List.setIfInBounds_toArray, List.set_cons_zero, List.set_cons_succ]
        refine wpAnyH_take (i := 2) (oi := ({ dst := some 28, op := Op.move (Operand.tmp 1), type := 110, pos := "expr.go:160", after := #[], guard := none } : Oper)) (v := ?va2) rfl (by kernel_rfl) (by kernel_rfl) (by kernel_rfl) (fun _ _ _ h => h) (Or.inl ⟨by rfl, ?ha2⟩) (by assumption) ?ra2
        case ha2 => (intro w hSw; (try dsimp only at hSw); obtain ⟨g0, g1, g2, g3, g4, g5, g6, g7, g8, g9⟩ := hSw; go_simp; try (with_reducible rfl))
        try simp only [Act.put, List.setIfInBounds_toArray, List.set_cons_zero, List.set_cons_succ]
        refine wpAnyH_ready (rs := [3]) (by kernel_rfl) (by simp) ?_
        refine AllReadyH.cons (o := ({ dst := some 29, op := Op.call { callee := Callee.value (Operand.tmp 28), args := #[], argTypes := #[] }, type := 58, pos := "expr.go:160", after := #[{ on := 2, ground := Ground.data }], guard := none } : Oper)) rfl (fun K0 hK0 => ?_) AllReadyH.nil
        go_simp
        refine (HCAT.out w HK.out _ HFD.out (j + 1) HRD.out).mono ?_
        rintro e w6 ⟨hf6, hm⟩
        have HF6 := Asd.mk (frR_trans HFD.out hf6)
        have HX6 : Asd (w6.heap[b5]? = some (.cells (exC x (.slice As ms cs)).toArray 58 (0, 0))) := Asd.mk (blk_fr HXD.out hf6 (by show ¬ b5 = R; have := HRW.out; have := HLX.out; omega))
        have HZ6 := Asd.mk (blk_fr HZD.out hf6 (by show ¬ w.heap.size = R; have := HRW.out; omega))
        have HH6 := Asd.mk (held_frS HHD.out hf6 (fun g hg h => by have h1 := hg.1; have h2 : g = R := h; have := HRW.out; omega))
        clear hf6
        cases hfy : catP nm l sub (j + 1) with
        | error er =>
          rw [hfy] at hm
          have HE : Asd (testP nm l sub i = .error er) := Asd.mk (by unfold testP; rw [HCI.out]; simp only; rw [if_neg (by rw [HT.out]; decide), HO.out]; simp only; rw [hfy])
          obtain ⟨N, rfl, hN⟩ := hm
          refine ⟨rfl, ?_⟩
          rw [HE.out]
          exact got_error HF6.out ⟨N, rfl, hN⟩
        | ok yy =>
          obtain ⟨y, q⟩ := yy
          rw [hfy] at hm
          have HE : Asd (testP nm l sub i = .ok (pairE o x y, q)) := Asd.mk (by unfold testP; rw [HCI.out]; simp only; rw [if_neg (by rw [HT.out]; decide), HO.out]; simp only; rw [hfy])
          obtain ⟨s6, rfl, hh6, hr6⟩ := hm
          obtain ⟨A6, m6, c6, rfl⟩ := held_slice hh6
          have HR6 := Asd.mk hr6
          have HY6 : Asd (Held (fun g => w.heap.size < g ∧ g ≠ b5) w6 y.args (.slice A6 m6 c6)) := Asd.mk (held_mono hh6 fun g _ hg => by have h1 : w5.drew.heap.size ≤ g := hg; have := HB5D.out; have := HLX.out; exact ⟨by omega, by omega⟩)
          clear hfy hh6 hr6
          unfold exV
          go_wp2_with fail
          refine hK0.out _ _ (ex_cells HX6.out) (fun hHeld => ?_)
          clear hK0 K0
          try simp only [Act.put, List.setIfInBounds_toArray, List.set_cons_zero, List.set_cons_succ]
          refine wpAnyH_ready (rs := [4]) (by kernel_rfl) (by simp) ?_
          refine AllReadyH.cons (o := ({ dst := some 30, op := Op.call { callee := Callee.value (Operand.func 189), args := #[Operand.tmp 26, Operand.tmp 27, Operand.tmp 29], argTypes := #[3, 58, 58] }, type := 58, pos := "expr.go:160", after := #[{ on := 0, ground := Ground.data }, { on := 1, ground := Ground.data }, { on := 3, ground := Ground.data }, { on := 3, ground := Ground.chain }], guard := none } : Oper)) rfl (fun K0 hK0 => ?_) AllReadyH.nil
          go_simp
          refine (pair_calls o x y (.slice As ms cs) (.slice A6 m6 c6) w6 HH6.out HY6.out).mono ?_
          rintro e w7 ⟨⟨s7, rfl, hh7⟩, hb7⟩
          obtain ⟨A7, m7, c7, rfl⟩ := held_slice hh7
          unfold exV
          have HF7 := Asd.mk (below_frR HF6.out hb7)
          have HX7 := Asd.mk (blk_below hb7 HX6.out)
          have HZ7 := Asd.mk (blk_below hb7 HZ6.out)
          have HR7 := Asd.mk (HR6.out.below hb7)
          have HH7 : Asd (Held (fun g => w.heap.size ≤ g ∧ g ≠ w.heap.size) w7 (pairE o x y).args (.slice A7 m7 c7)) := Asd.mk (held_mono hh7 fun g _ hg => by rcases hg with hg | hg; exact ⟨Nat.le_of_lt hg.1, by have := hg.1; omega⟩; have := blk_lt HZ6.out; exact ⟨by omega, by omega⟩)
          clear hb7 hh7
          go_wp2_with fail
          refine hK0.out _ _ (ex_cells HX7.out) (fun hHeld => ?_)
          clear hK0 K0
          try simp only [Act.put, List.setIfInBounds_toArray, List.set_cons_zero, List.set_cons_succ]
          have y0 := (blk_cell HZ7.out 0).trans rfl
          have y1 := (blk_cell HZ7.out 1).trans rfl
          have y2 := (blk_cell HZ7.out 2).trans rfl
          have y3 := (blk_cell HZ7.out 3).trans rfl
          have y4 := (blk_cell HZ7.out 4).trans rfl
          have y5 := (blk_cell HZ7.out 5).trans rfl
          have y6 := (blk_cell HZ7.out 6).trans rfl
          have y7 := (blk_cell HZ7.out 7).trans rfl
          have y8 := (blk_cell HZ7.out 8).trans rfl
          have y9 := (blk_cell HZ7.out 9).trans rfl
          have z0 := blk_frozen HZ7.out 0
          have z1 := blk_frozen HZ7.out 1
          have z2 := blk_frozen HZ7.out 2
          have z3 := blk_frozen HZ7.out 3
          have z4 := blk_frozen HZ7.out 4
          have z5 := blk_frozen HZ7.out 5
          have z6 := blk_frozen HZ7.out 6
          have z7 := blk_frozen HZ7.out 7
          have z8 := blk_frozen HZ7.out 8
          have z9 := blk_frozen HZ7.out 9
          have hx8 := ex_cells (blk_fr HX7.out (put10_fr (W := w7) (b := w.heap.size) (S := fun k => k = w.heap.size) rfl (.int .i64 (pairE o x y).kind) (.int .i64 (pairE o x y).op) (.int .i64 (pairE o x y).v.kind) (.int .i64 (pairE o x y).v.int) (.string ⟨(pairE o x y).v.text.toArray⟩) (.string ⟨(pairE o x y).table.toArray⟩) (.string ⟨(pairE o x y).name.toArray⟩) (.int .i64 (pairE o x y).col) (.int .i64 (pairE o x y).ty) (.slice A7 m7 c7)) (by show ¬ b5 = w.heap.size; have := HLX.out; omega))
          refine wpAnyH_ready (rs := [5]) (by kernel_rfl) (by simp) ?_
          refine AllReadyH.cons (o := ({ dst := none, op := Op.store 58 (Operand.tmp 4) (Operand.tmp 30), type := 0, pos := "expr.go:160", after := #[{ on := 4, ground := Ground.data }, { on := 4, ground := Ground.chain }, { on := 0, ground := Ground.phase }, { on := 1, ground := Ground.phase }, { on := 2, ground := Ground.phase }, { on := 3, ground := Ground.phase }, { on := 4, ground := Ground.phase }], guard := none } : Oper)) rfl (fun K0 hK0 => ?_) AllReadyH.nil
          go_simp
          go_wp2_with fail
          refine hK0.out _ _ hx8 (fun hHeld => ?_)
          clear hK0 K0
          try simp only [Act.put, List.setIfInBounds_toArray, List.set_cons_zero, List.set_cons_succ]
          refine wpAnyH_done (by kernel_rfl) ?_ _
          go_wp2
          refine bodyPost_ret (results_cell_row rfl _ _ w.heap.size 58 _ (0, 0) _ rfl (put10_blk HZ7.out _ _ _ _ _ _ _ _ _ _) Tryz.underlying58 rfl (by kernel_rfl)) rfl ?_
          rw [HE.out]
          exact fin_got HH.out HF7.out (Nat.le_refl _) HR7.out HH7.out
end Go.Proofs.YtcefmhofidoloaaGreatDoor.Exp
