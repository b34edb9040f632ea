/- Package node and its reference: the small functions on bytes. -/
import Derived.Test.YtnohhmopiflboaaProg
import Derived.Test.YtnohhmopiflboaaBytes
import Derived.Test.YtnohhmopiflboaaZeros
import Derived.Test.YtnohhmopiflboaaRead
import Derived.KernelRfl
import Derived.OwnWalk
import Derived.RegionTactic
import Derived.ChangeAlike
import Derived.Deep.QuietTactic
import Derived.BigQuiet
import Derived.Deep.RegionWith
import Derived.Deep.RegionHeld3
import Derived.Deep.AppendLies
import Derived.Deep.DeepCutAuto
import Derived.Laws.AppendOwnNone
import Derived.WalkSpells
import Derived.WalkLawsBesides
import Derived.Outline
set_option linter.unusedVariables false
set_option linter.unusedSimpArgs false
namespace Go.Proofs.Ytnohhmopiflboaa.Nod
open Go.RowKit Go.Proofs.Ytnohhmopiflboaa.Base Go.Proofs.Ytnohhmopiflboaa.Byt Go.Proofs.Ytnohhmopiflboaa.Rd

theorem info5 : (Try.prog.info? 5).map (fun i => (i.zero, i.size, i.bytes)) = some (some (.int .u8 0), 1, 1) := by kernel_rfl

/-- The row v of the call's own holds the bytes xs. -/
def OwnB (w : World) (B : Nat) (v : Value) (xs : List UInt8) : Prop := w.ownsRow B 5 1 v xs.length (bcells xs)
theorem bcells_append (xs ys : List UInt8) : bcells (xs ++ ys) = bcells xs ++ bcells ys := by simp [bcells]
theorem bcells_length (xs : List UInt8) : (bcells xs).length = xs.length := by simp [bcells]
theorem bcells_one (xs : List UInt8) : ∀ u ∈ bcells xs, u.oneCell' = true := by
  intro u hu
  simp [bcells] at hu
  obtain ⟨y, _, rfl⟩ := hu
  rfl
theorem bcells_news {w : World} {A : Addr} {n : Nat} {xs : List UInt8} (h : IsBytes w (some A) n xs) : ∀ j u, (bcells xs)[j]? = some u → w.cell? (A.add j) = some u := by
  intro j u hu
  have hl := h.1
  have hj : j < xs.length := by
    have := (List.getElem?_eq_some_iff.1 hu).1
    simpa [bcells] using this
  obtain ⟨b, o, e, hc⟩ := h.2.2 (by omega)
  cases e
  rw [addr_add, hc j (by omega), ← hu]
  simp [bcells, List.getD, hj]

/-- What hands back a row of its own. -/
def Gives (w : World) (B : Nat) (S : Nat → Prop) (xs : List UInt8) (e : Ending) (w' : World) : Prop :=
  ∃ v, e = .returned v ∧ OwnB w' B v xs ∧ Fr S w w'

/-! ### clone -/
theorem none_zero {w : World} {n : Nat} {xs : List UInt8} (h : IsBytes w none n xs) : n = 0 ∧ xs = [] := by
  have h0 : n = 0 := by
    rcases Nat.eq_zero_or_pos n with h0 | h0
    · exact h0
    · obtain ⟨_, _, h1, _⟩ := h.2.2 h0; cases h1
  exact ⟨h0, List.length_eq_zero_iff.1 (h.1.trans h0)⟩

set_option maxHeartbeats 800000 in
theorem clone_calls (A : Option Addr) (n c : Nat) (xs : List UInt8) (w : World) (h : IsBytes w A n xs) (hc : A = none → c = 0) :
    Calls Try.prog 24 #[.slice A n c] w (Gives w w.heap.size (fun _ => False) xs) := by
  obtain ⟨i0, hi, hz0, hz1, hz2⟩ := info_parts info5
  have HOWN := Asd.mk (World.ownsRow_made (base := w.heap.size) (e := 5) (size := 1) w #[] 0 (Nat.le_refl _) (by decide) rfl)
  cases A with
  | none =>
    obtain ⟨rfl, rfl⟩ := none_zero h
    obtain rfl : c = 0 := hc rfl
    clear h hc
    go_enter Try.func24, Try.ntmps24
    go_wp2_with (at_builtin; refine wpList_append_own_none rfl (.tmp 3) (.tmp 4) 31 rfl w.heap.size 5 i0 1 Try.underlying31 hi _ 0 [] rfl HOWN.out rfl ?_)
    go_ret
    exact ⟨_, rfl, HOWN.out, (Fr.refl _ _).alloc _⟩
  | some a =>
    have hn := h.2.1
    have HNEW := Asd.mk (bcells_news (h.below (show Below w.heap.size w (w.alloc (.cells #[] 5)) from (Below.refl _ _).alloc (Nat.le_refl _) _)))
    have HLEN : Asd ((bcells xs).length = n * 1) := Asd.mk (by rw [bcells_length, h.1]; omega)
    have HL := Asd.mk h.1
    clear h hc
    go_enter Try.func24, Try.ntmps24
    go_wp2_with (at_builtin; refine wpList_append_own _ rfl (.tmp 3) (.tmp 4) 31 rfl w.heap.size 5 i0 (.int .u8 0) 1 1 Try.underlying31 hi hz0 hz1 hz2 rfl (by decide) _ 0 [] rfl HOWN.out a n c (bcells xs) rfl HLEN.out HNEW.out (bcells_one xs) ?c1 ?c2 (by simp) ?_)
    case c1 => unfold maxLen; omega
    case c2 => omega
    · intro v' w1 hown' hgr _
      have HO : Asd (OwnB w1 w.heap.size v' xs) := Asd.mk (by
        unfold OwnB
        rw [HL.out]
        simpa using hown')
      have HF : Asd (Fr (fun _ => False) w w1) := Asd.mk ((((Fr.refl (fun _ => False) w).alloc (.cells #[] 5)).trans (Fr.of_grown (S := fun k => k = w.heap.size) hgr (by simp [Value.ownBlock])) (U := fun k => k = w.heap.size) (by simp) (fun k hk _ => hk)).mono (fun k hk hlt => by subst hk; omega))
      clear hown' hgr hi hz0 hz1 hz2
      go_wp2
      go_ret
      exact ⟨_, rfl, HO.out, HF.out⟩

/-! ### two -/
/-- A number's two bytes, the low one first. -/
def le2 (n : Int) : List UInt8 := [UInt8.ofNat (n % 256).toNat, UInt8.ofNat (n / 256 % 256).toNat]
theorem byte_back (n : Int) : ((UInt8.ofNat (n % 256).toNat).toNat : Int) = n % 256 := by
  have h1 : 0 ≤ n % 256 := Int.emod_nonneg _ (by decide)
  have h2 : n % 256 < 256 := Int.emod_lt_of_pos _ (by decide)
  rw [UInt8.toNat_ofNat']
  omega
theorem le2_cells (n : Int) : bcells (le2 n) = [.int .u8 (n % 256), .int .u8 (n / 256 % 256)] := by
  simp only [bcells, le2, bcell, List.map_cons, List.map_nil, byte_back]

set_option maxHeartbeats 800000 in
theorem two_calls (B : Nat) (v : Value) (xs : List UInt8) (k : Int) (w : World) (h : OwnB w B v xs) (hB : B ≤ w.heap.size) (hl : xs.length ≤ 100000) (hk : 0 ≤ k) :
    Calls Try.prog 35 #[v, .int .i64 k] w (Gives w B (fun j => some j = v.ownBlock) (xs ++ le2 k)) := by
  obtain ⟨i0, hi, hz0, hz1, hz2⟩ := info_parts info5
  have HO := Asd.mk (h.alloc (.cells #[.int .u8 (k % 256), .int .u8 (k / 256 % 256)] 5))
  clear h
  go_enter Try.func35, Try.ntmps35
  go_wp2_with (at_builtin; refine wpList_append_own _ rfl (.tmp 5) (.tmp 11) 31 rfl B 5 i0 (.int .u8 0) 1 1 Try.underlying31 hi hz0 hz1 hz2 rfl (by decide) _ _ _ rfl HO.out ⟨w.heap.size, 0, none⟩ 2 2 [.int .u8 (k % 256), .int .u8 (k / 256 % 256)] rfl rfl ?c0 ?c00 ?c1 ?c2 ?c3 ?_)
  case c0 =>
    intro j u hj
    match j, hj with
    | 0, hj => simp at hj; subst hj; simp [Addr.add]
    | 1, hj => simp at hj; subst hj; simp [Addr.add]
  case c00 => intro u hu; simp at hu; rcases hu with rfl | rfl <;> rfl
  case c1 => unfold maxLen; omega
  case c2 => omega
  case c3 => simp; omega
  · intro v' w1 hown' hgr _
    have HO1 : Asd (OwnB w1 B v' (xs ++ le2 k)) := Asd.mk (by
      unfold OwnB
      rw [bcells_append, le2_cells]
      simpa [le2] using hown')
    have HF : Asd (Fr (fun j => some j = v.ownBlock) w w1) := Asd.mk (((Fr.refl (fun _ => False) w).alloc (.cells #[.int .u8 (k % 256), .int .u8 (k / 256 % 256)] 5)).trans (Fr.of_grown (S := fun j => some j = v.ownBlock) hgr (fun j hj => hj.symm)) (by simp) (fun j hj _ => hj))
    clear hown' hgr hi hz0 hz1 hz2
    go_wp2
    go_ret
    exact ⟨_, rfl, HO1.out, HF.out⟩

/-! ### padded -/
def noughts (k : Nat) : List UInt8 := List.replicate k 0
theorem noughts_cells (k : Nat) : bcells (noughts k) = List.replicate k (.int .u8 0) := by simp [bcells, noughts, bcell]

set_option maxRecDepth 100000 in
set_option maxHeartbeats 800000 in
theorem padded_calls (B : Nat) (v : Value) (xs : List UInt8) (w : World) (h : OwnB w B v xs) (hB : B ≤ w.heap.size) (h0 : 0 < xs.length) (hl : xs.length ≤ 508) :
    Calls Try.prog 36 #[v] w (Gives w B (fun j => some j = v.ownBlock) (xs ++ noughts (508 - xs.length))) := by
  obtain ⟨i0, hi, hz0, hz1, hz2⟩ := info_parts info5
  obtain ⟨v', w', hr, ho, hg⟩ := Zer.run_own_zeros (P := Try.prog) w B 31 3 31 5 i0 (.int .u8 0) 1 .i64 .i64 Try.underlying31 Try.underlying3 hi hz0 hz1 hz2 rfl rfl v xs.length (bcells xs) h h0 (508 - xs.length) (by unfold maxLen; omega) (by omega) hB
  have HO1 : Asd (OwnB w' B v' (xs ++ noughts (508 - xs.length))) := Asd.mk (by
    unfold OwnB
    rw [bcells_append, noughts_cells]
    simpa [noughts] using ho)
  have HF : Asd (Fr (fun j => some j = v.ownBlock) w w') := Asd.mk (Fr.of_grown hg (fun j hj => hj.symm))
  have e : (((508 - xs.length : Nat) : Int)) = 508 - (xs.length : Int) := by omega
  rw [e] at hr
  obtain ⟨A, c, rfl, _, _⟩ := of_own h (by omega)
  have HR := Asd.mk hr
  clear h ho hg hi hz0 hz1 hz2 e hr
  go_enter Try.func36, Try.ntmps36
  go_wp2_with (at_builtin; refine Zer.wpList_append_run _ rfl (.tmp 3) (.tmp 6) 31 3 rfl _ _ rfl rfl v' w' HR.out ?_)
  go_ret
  exact ⟨_, rfl, HO1.out, HF.out⟩

/-! ### page -/
/-- Is n a page of a tree? -/
def isPage (n : Int) : Bool := decide (2 ≤ n) && decide (n < 4096)
theorem page_calls (n : Int) (w : World) : Calls Try.prog 48 #[.int .i64 n] w fun e w' => e = .returned (.bool (isPage n)) ∧ w = w' := by
  by_cases h : 2 ≤ n
  · go_enter Try.func48, Try.ntmps48
    go_wp2
    go_ret
    exact ⟨ret_eq (by simp [isPage, h]), rfl⟩
  · go_enter Try.func48, Try.ntmps48
    go_wp2
    go_ret
    exact ⟨ret_eq (by simp [isPage]; omega), rfl⟩
theorem rpage_calls (n : Int) (w : World) : Calls Try.prog 51 #[.int .i64 n] w fun e w' => e = .returned (.bool (isPage n)) ∧ w = w' := by
  by_cases h : 2 ≤ n
  · go_enter Try.func51, Try.ntmps51
    go_wp2
    go_ret
    exact ⟨ret_eq (by simp [isPage, h]), rfl⟩
  · go_enter Try.func51, Try.ntmps51
    go_wp2
    go_ret
    exact ⟨ret_eq (by simp [isPage]; omega), rfl⟩

/-! ### the reference's two, pad -/
theorem rtwo_calls (k : Int) (w : World) (hk : 0 ≤ k) (hk2 : k ≤ 1000000000) :
    Calls Try.prog 37 #[.int .i64 k] w fun e w' => e = .returned (.slice (some ⟨w.heap.size, 0, none⟩) 2 2) ∧ w' = w.alloc (.cells (bcells (le2 k)).toArray 5) := by
  have E := Asd.mk (le2_cells k)
  go_enter Try.func37, Try.ntmps37
  go_wp2
  go_ret
  exact ⟨rfl, by rw [E.out]⟩

set_option maxRecDepth 100000 in
set_option maxHeartbeats 800000 in
theorem pad_calls (B : Nat) (v : Value) (xs : List UInt8) (w : World) (h : OwnB w B v xs) (hB : B ≤ w.heap.size) (hl : xs.length ≤ 508) :
    Calls Try.prog 38 #[v] w fun e w' => ∃ v', e = .returned v' ∧ OwnB w' B v' (xs ++ noughts (508 - xs.length)) ∧ Below B w w' := by
  obtain ⟨i0, hi, hz0, hz1, hz2⟩ := info_parts info5
  have HO := Asd.mk h
  clear h
  go_enter Try.func38, Try.ntmps38
  go_wp2
  go_loopw [0] (fun u wr => ∃ k : Nat, xs.length + k ≤ 508 ∧ OwnB wr B u (xs ++ noughts k) ∧ Below B w wr) (fun u _ => 508 - (match u with | .slice _ n _ => n | _ => 0))
  case atStart => exact ⟨0, by omega, by simpa [noughts] using HO.out, Below.refl _ _⟩
  case round =>
    obtain ⟨k, hk, ho, hb⟩ := hrel
    have hlk : (xs ++ noughts k).length = xs.length + k := by simp [noughts]
    obtain ⟨A, c, rfl, _, _⟩ := of_own ho (by omega)
    rw [hlk]
    have HOK := Asd.mk (ho.alloc (.cells #[.int .u8 0] 5))
    have HO2 := Asd.mk ho
    have HB := Asd.mk hb
    have HLK := Asd.mk hlk
    rw [hlk] at HOK
    have HO3 : Asd (wr.ownsRow B 5 1 (.slice A (xs.length + k) c) (xs.length + k) (bcells (xs ++ noughts k))) := Asd.mk (by
      have := HO2.out
      unfold OwnB at this
      rw [hlk] at this
      exact this)
    clear ho hb hlk
    by_cases hlt : xs.length + k < 508
    · go_wp2_with (at_builtin; refine wpList_append_own _ rfl (.tmp 6) (.tmp 7) 31 rfl B 5 i0 (.int .u8 0) 1 1 Try.underlying31 hi hz0 hz1 hz2 rfl (by decide) _ _ _ rfl HOK.out ⟨wr.heap.size, 0, none⟩ 1 1 [.int .u8 0] rfl rfl ?c0 ?c00 ?c1 ?c2 ?c3 ?_)
      case c0 =>
        intro j u hj
        match j, hj with
        | 0, hj => simp at hj; subst hj; simp [Addr.add]
      case c00 => intro u hu; simp at hu; subst hu; rfl
      case c1 => unfold maxLen; omega
      case c2 => omega
      case c3 => have := HB.out.size; simp; omega
      · intro v' w1 hown' hgr _
        have HO1 : Asd (OwnB w1 B v' (xs ++ noughts (k + 1))) := Asd.mk (by
          unfold OwnB
          have e : noughts (k + 1) = noughts k ++ [0] := by simp [noughts, List.replicate_succ']
          rw [e, ← List.append_assoc, bcells_append]
          have hl2 : (xs ++ noughts k ++ [0]).length = xs.length + k + 1 := by rw [List.length_append, HLK.out]; rfl
          rw [hl2]
          exact hown')
        have HB1 : Asd (Below B w w1) := Asd.mk ((HB.out.alloc (by have := HB.out.size; omega) _).grown hgr (by have := HB.out.size; simp; omega) (fun j hj => (HO3.out.lt j hj).1))
        have hl3 : (xs ++ noughts (k + 1)).length = xs.length + k + 1 := by simp [noughts]; omega
        obtain ⟨A', c', rfl, _, _⟩ := of_own HO1.out (by omega)
        have HL3 := Asd.mk hl3
        clear hown' hgr hl3
        go_wp2
        go_roundw
        case rel => exact ⟨k + 1, by omega, HO1.out, HB1.out⟩
        case measure => rw [HL3.out]; simp; omega
    · obtain rfl : k = 508 - xs.length := by omega
      go_wp2
      go_ret
      exact ⟨_, rfl, by have := HO2.out; unfold OwnB at this ⊢; rw [HLK.out] at this ⊢; exact this, HB.out⟩
end Go.Proofs.Ytnohhmopiflboaa.Nod
