/- Texts put together: Lx13, Seen, TokSl, Hd0, Rd0, Rd1, Rd2, Rd3, Hld, Rd4, Rd5, Rd6, Rd7, CName, Rd8, Rd10, Rd11, Rd12, Rd13. -/
import Derived.Test.YtbeeaikilcnpgaaGreatDoorQc1
import Derived.WalkMore
import Derived.ChangeAgain
import Derived.Deep.QuietTactic
import Derived.BigQuiet
import Derived.StillTailTactics
import Derived.Deep.RegionHeld
import Derived.Deep.RegionHeld3
import Derived.Test.YtbeeaikilcnpgaaGreatDoorProg
import Derived.KernelRfl
import Derived.OwnWalk
import Derived.RegionTactic
import Derived.ChangeAlike
import Derived.Deep.RegionWith
import Derived.WalkSpells
import Derived.WalkLawsBesides
import Derived.Outline
set_option linter.unusedVariables false
set_option linter.unusedSimpArgs false
set_option maxHeartbeats 25600000
namespace Go.Proofs.YtbeeaikilcnpgaaGreatDoor.Lex
open Go.RowKit Go.Proofs.YtbeeaikilcnpgaaGreatDoor.Base Go.Proofs.YtbeeaikilcnpgaaGreatDoor.App Go.Proofs.YtbeeaikilcnpgaaGreatDoor.Byt
theorem infoT : (Tryz.prog.info? 88).map (fun i => (i.zero, i.size, i.bytes)) = some (some (.agg #[.int .i64 0, .string ⟨#[]⟩, .int .i64 0, .int .i64 0]), 4, 40) := by kernel_rfl
theorem rowT : RowT Tryz.prog 60 88 4 40 := ⟨Tryz.underlying60, by obtain ⟨i, h1, h2, h3, h4⟩ := info_parts infoT; exact ⟨i, _, h1, h2, h3, h4, rfl⟩, by decide⟩
def tcells (x : Tk × Nat) : List Value := [.int .i64 (x.1.kind : Int), .string ⟨x.1.text.toArray⟩, .int .i64 (x.2 : Nat), .int .i64 x.1.num]
def tkCells (l : List (Tk × Nat)) : List Value := l.flatMap tcells
theorem tkCells_snoc (l : List (Tk × Nat)) (x : Tk × Nat) : tkCells (l ++ [x]) = tkCells l ++ tcells x := by simp [tkCells]
def FaultE (w : World) (e : Ending) (w' : World) (k : Nat) (n : Int) : Prop :=
  ∃ N, e = .returned (.tuple #[.slice none 0 0, .iface 82 (.pointer (some ⟨N, 0, none⟩))]) ∧ w.heap.size ≤ N ∧ w'.heap[N]? = some (.cells #[.int .i64 (k : Int), .iface 32 (.int .i64 n)] 84 (0, 0))
def LexEnd (l : List UInt8) (w : World) (e : Ending) (w' : World) : Prop :=
  Below w.heap.size w w' ∧ if 16384 < l.length then FaultE w e w' 0 8 else match lexT l with
  | .ok ts => ∃ A m c, e = .returned (.tuple #[.slice A m c, .nilIface]) ∧ m = ts.length ∧ w'.ownsRow w.heap.size 88 4 (.slice A m c) m (tkCells ts)
  | .error k => FaultE w e w' k 20
theorem lex_ok {l : List UInt8} {w w' : World} {e : Ending} {ts : List (Tk × Nat)} {A : Option Addr} {m c : Nat} (h : ¬ 16384 < l.length) (hl : lexT l = .ok ts) (hb : Below w.heap.size w w') (he : e = .returned (.tuple #[.slice A m c, .nilIface])) (hm : m = ts.length) (ho : w'.ownsRow w.heap.size 88 4 (.slice A m c) m (tkCells ts)) : LexEnd l w e w' :=
  ⟨hb, by rw [if_neg h, hl]; exact ⟨A, m, c, he, hm, ho⟩⟩
theorem lex_bad {l : List UInt8} {w w' : World} {e : Ending} {k : Nat} (h : ¬ 16384 < l.length) (hl : lexT l = .error k) (hb : Below w.heap.size w w') (he : FaultE w e w' k 20) : LexEnd l w e w' :=
  ⟨hb, by rw [if_neg h, hl]; exact he⟩
theorem lex_long {l : List UInt8} {w w' : World} {e : Ending} (h : 16384 < l.length) (hb : Below w.heap.size w w') (he : FaultE w e w' 0 8) : LexEnd l w e w' :=
  ⟨hb, by rw [if_pos h]; exact he⟩

set_option maxRecDepth 100000 in
theorem tokens_long (s : ByteArray) (w : World) (hs : 16384 < s.size) :
    Calls Tryz.prog 31 #[.string s] w fun e w' => LexEnd s.data.toList w e w' := by
  have HL := Asd.mk (show 16384 < s.data.toList.length from hs)
  have HB := Asd.mk (below_alloc (Below.refl w.heap.size w) (.cells #[.int .i64 0, .iface 32 (.int .i64 8)] 84))
  have HN := Asd.mk (blk_new w (.cells #[.int .i64 0, .iface 32 (.int .i64 8)] 84))
  go_enter Tryz.func31, Tryz.ntmps31
  go_wp2
  go_step3
  go_wp2
  (try rw [Exit.noGoto_ret])
  refine bodyPost_ret (results_tmp2 rfl _ _ _) rfl ?_
  exact lex_long HL.out HB.out ⟨_, rfl, Nat.le_refl _, HN.out⟩

set_option maxRecDepth 100000 in
theorem tokens_short (s : ByteArray) (w : World) (hs : ¬ 16384 < s.size) (hw : LexW w) :
    Calls Tryz.prog 31 #[.string s] w fun e w' => LexEnd s.data.toList w e w' := by
  have HW := Asd.mk hw
  clear hw
  have HNL := Asd.mk (show ¬ 16384 < s.data.toList.length from hs)
  have HLN : Asd (s.data.toList.length = s.size) := Asd.mk rfl
  go_enter Tryz.func31, Tryz.ntmps31
  go_wp2
  go_step3
  go_wp2
  go_step3
  go_wp2
  go_loopw [4, 5] (fun v4 v5 wr => ∃ (k : Nat) (done : List (Tk × Nat)) (A : Option Addr) (m c : Nat), k ≤ s.size ∧ v4 = .slice A m c ∧ v5 = .int .i64 (k : Int) ∧ Asd (m = done.length) ∧ Asd (done.length ≤ k) ∧ Asd (LexSt s.data.toList done k) ∧ Asd (wr.ownsRow w.heap.size 88 4 (.slice A m c) m (tkCells done)) ∧ Asd (Below w.heap.size w wr)) (fun _ v5 _ => s.size - (intOf v5).toNat)
  case atStart => exact ⟨0, [], none, 0, 0, by omega, rfl, rfl, ⟨rfl⟩, ⟨Nat.le_refl _⟩, ⟨LexSt.start _⟩, ⟨World.ownsRow_nil _ _ _ _⟩, ⟨Below.refl _ _⟩⟩
  case round =>
    obtain ⟨k, done, A, m, c, hk, rfl, rfl, HM, HDK, HS, HO, HB⟩ := hrel
    by_cases hlt : k < s.size
    · have HD := Asd.mk (drop_cons s k hlt)
      have hc8 := s[k].toNat_lt
      have HXL : Asd ((s.extract k s.size).data.toList = s.data.toList.drop k) := Asd.mk (by
        rw [ext_list, List.take_of_length_le (Nat.le_of_eq (show s.data.toList.length = s.size from rfl))])
      have HX1 : Asd (1 ≤ (s.extract k s.size).size) := Asd.mk (by rw [ext_size]; omega)
      have HXS : Asd ((s.extract k s.size).size ≤ 1048576) := Asd.mk (by rw [ext_size]; omega)
      have HWR := Asd.mk (HW.out.below HB.out)
      by_cases hb32 : s[k].toNat = 32
      · have HS2 := Asd.mk (HS.out.blank HD.out (by unfold isBl; rw [show s[k] = 32 from UInt8.toNat_inj.mp hb32]; decide))
        clear HWR HX1 HXS HXL
        go_wp2
        go_roundw
        case rel => exact ⟨k + 1, done, A, m, c, by omega, rfl, by go_num, HM, ⟨by have := HDK.out; omega⟩, HS2, HO, HB⟩
        case measure => simp [intOf]; omega
      · by_cases hb9 : s[k].toNat = 9
        · have HS2 := Asd.mk (HS.out.blank HD.out (by unfold isBl; rw [show s[k] = 9 from UInt8.toNat_inj.mp hb9]; decide))
          clear HWR HX1 HXS HXL
          go_wp2
          go_roundw
          case rel => exact ⟨k + 1, done, A, m, c, by omega, rfl, by go_num, HM, ⟨by have := HDK.out; omega⟩, HS2, HO, HB⟩
          case measure => simp [intOf]; omega
        · by_cases hb10 : s[k].toNat = 10
          · have HS2 := Asd.mk (HS.out.blank HD.out (by unfold isBl; rw [show s[k] = 10 from UInt8.toNat_inj.mp hb10]; decide))
            clear HWR HX1 HXS HXL
            go_wp2
            go_roundw
            case rel => exact ⟨k + 1, done, A, m, c, by omega, rfl, by go_num, HM, ⟨by have := HDK.out; omega⟩, HS2, HO, HB⟩
            case measure => simp [intOf]; omega
          · by_cases hb13 : s[k].toNat = 13
            · have HS2 := Asd.mk (HS.out.blank HD.out (by unfold isBl; rw [show s[k] = 13 from UInt8.toNat_inj.mp hb13]; decide))
              clear HWR HX1 HXS HXL
              go_wp2
              go_roundw
              case rel => exact ⟨k + 1, done, A, m, c, by omega, rfl, by go_num, HM, ⟨by have := HDK.out; omega⟩, HS2, HO, HB⟩
              case measure => simp [intOf]; omega
            · by_cases hb45 : s[k].toNat = 45
              · have h45 : s[k] = 45 := UInt8.toNat_inj.mp hb45
                by_cases hp : (s.data.toList.drop (k + 1)).head? = some 45
                · have HP : Asd (Lib.hasPrefix (s.data.toList.drop k) [45, 45] = true) := Asd.mk (by
                    rw [HD.out, h45, pre2]
                    cases hh : s.data.toList.drop (k + 1) with
                    | nil => rw [hh] at hp; cases hp
                    | cons a b => rw [hh] at hp; injection hp with hp; exact ⟨b, by rw [hp]⟩)
                  by_cases hm : (10 : UInt8) ∈ s.data.toList.drop k
                  · have HS2 := Asd.mk (HS.out.note HD.out h45 hp hm)
                    have HIX := Asd.mk (index_take _ _ hm)
                    have HJL : Asd (k + ((s.data.toList.drop k).takeWhile (· != 10)).length ≤ s.size ∧ 1 ≤ ((s.data.toList.drop k).takeWhile (· != 10)).length) := Asd.mk (by
                      have h := takeW_le (· != (10 : UInt8)) (s.data.toList.drop k)
                      rw [List.length_drop, HLN.out] at h
                      refine ⟨by omega, ?_⟩
                      rw [HD.out, h45, List.takeWhile_cons]
                      simp)
                    generalize ((s.data.toList.drop k).takeWhile (· != 10)).length = j at HS2 HIX HJL
                    obtain ⟨hj, hj1⟩ := HJL.out
                    clear hm hp h45
                    go_wp2_with fail
                    refine (Tryz.strings_HasPrefix (s.extract k s.size) ⟨#[45, 45]⟩ _).mono ?_
                    rintro e w' ⟨rfl, rfl⟩
                    rw [HXL.out, show (⟨#[45, 45]⟩ : ByteArray).data.toList = [45, 45] from rfl, HP.out]
                    go_wp2_with fail
                    refine (Tryz.strings_IndexByte (s.extract k s.size) 10 _).mono ?_
                    rintro e w' ⟨rfl, rfl⟩
                    rw [HXL.out, show ((10 : Int).toNat.toUInt8) = 10 by decide, HIX.out]
                    have hj0 : (0 : Int) ≤ (j : Int) := by omega
                    go_wp2
                    go_roundw
                    case rel => exact ⟨k + j, done, A, m, c, hj, rfl, by go_num, HM, ⟨by have := HDK.out; omega⟩, HS2, HO, HB⟩
                    case measure => simp [intOf]; omega
                  · have HR := Asd.mk (HS.out.last HD.out h45 hp hm)
                    have HIX := Asd.mk (index_not _ _ hm)
                    clear hm hp h45
                    go_wp2_with fail
                    refine (Tryz.strings_HasPrefix (s.extract k s.size) ⟨#[45, 45]⟩ _).mono ?_
                    rintro e w' ⟨rfl, rfl⟩
                    rw [HXL.out, show (⟨#[45, 45]⟩ : ByteArray).data.toList = [45, 45] from rfl, HP.out]
                    go_wp2_with fail
                    refine (Tryz.strings_IndexByte (s.extract k s.size) 10 _).mono ?_
                    rintro e w' ⟨rfl, rfl⟩
                    rw [HXL.out, show ((10 : Int).toNat.toUInt8) = 10 by decide, HIX.out]
                    go_wp2
                    (try rw [Exit.noGoto_ret])
                    refine bodyPost_ret (results_tmp2 rfl _ _ _) rfl ?_
                    exact lex_ok HNL.out HR.out HB.out rfl HM.out HO.out
                · have HP : Asd (Lib.hasPrefix (s.data.toList.drop k) [45, 45] = false) := Asd.mk (by
                    cases hh : Lib.hasPrefix (s.data.toList.drop k) [45, 45] with
                    | false => rfl
                    | true =>
                      obtain ⟨r, hr⟩ := (pre2 _ _ _).mp hh
                      rw [HD.out] at hr
                      injection hr with _ hr
                      exact absurd (by rw [hr]; rfl) hp)
                  have HNB : Asd (¬ isBl s[k]) := Asd.mk (by intro h; unfold isBl at h; rcases h with h | h | h | h; exact hb32 (by rw [h]; rfl); exact hb9 (by rw [h]; rfl); exact hb10 (by rw [h]; rfl); exact hb13 (by rw [h]; rfl))
                  have HNN : Asd (¬ (s[k] = 45 ∧ (s.data.toList.drop (k + 1)).head? = some 45)) := Asd.mk (by intro h; exact hp h.2)
                  clear hp h45
                  go_wp2_with fail
                  refine (Tryz.strings_HasPrefix (s.extract k s.size) ⟨#[45, 45]⟩ _).mono ?_
                  rintro e w' ⟨rfl, rfl⟩
                  rw [HXL.out, show (⟨#[45, 45]⟩ : ByteArray).data.toList = [45, 45] from rfl, HP.out]
                  go_wp2_with fail
                  refine (token_calls (s.extract k s.size) _ HX1.out HXS.out HWR.out).mono ?_
                  rintro e w1 ⟨hb1, he⟩
                  rw [HXL.out] at he
                  have HB1 : Asd (Below w.heap.size w w1) := Asd.mk (HB.out.trans (hb1.mono HB.out.size))
                  have HO1 := Asd.mk (own_below HO.out hb1)
                  clear hb1
                  cases hx : tokP (s.data.toList.drop k) with
                  | none =>
                    rw [hx] at he
                    obtain ⟨kd, tx, nm, rfl⟩ := he
                    have HR := Asd.mk (HS.out.bad HD.out HNB.out HNN.out hx)
                    clear hx
                    have HB2 := Asd.mk (below_alloc (below_alloc HB1.out (.cells #[.int .i64 kd, .string tx, .int .i64 0, .int .i64 nm] 88)) (.cells #[.int .i64 (k : Int), .iface 32 (.int .i64 20)] 84))
                    have HN2 := Asd.mk (blk_new (w1.alloc (.cells #[.int .i64 kd, .string tx, .int .i64 0, .int .i64 nm] 88)) (.cells #[.int .i64 (k : Int), .iface 32 (.int .i64 20)] 84))
                    have HNW : Asd (w.heap.size ≤ (w1.alloc (.cells #[.int .i64 kd, .string tx, .int .i64 0, .int .i64 nm] 88)).heap.size) := Asd.mk (by have := HB1.out.size; simp; omega)
                    rw [show (w1.alloc (.cells #[.int .i64 kd, .string tx, .int .i64 0, .int .i64 nm] 88)).heap.size = w1.heap.size + 1 by simp] at HN2 HNW
                    go_wp2
                    (try rw [Exit.noGoto_ret])
                    refine bodyPost_ret (results_tmp2 rfl _ _ _) rfl ?_
                    exact lex_bad HNL.out HR.out HB2.out ⟨_, rfl, HNW.out, HN2.out⟩
                  | some x =>
                    rw [hx] at he
                    obtain ⟨t, n⟩ := x
                    obtain rfl := he
                    have HS2 := Asd.mk (HS.out.word HD.out HNB.out HNN.out hx)
                    have hn := tokP_le hx
                    rw [List.length_drop, HLN.out] at hn
                    obtain ⟨hn1, hn2⟩ := hn
                    simp only at hn1 hn2
                    have hn0 : 0 < n := hn1
                    have hnk : k + n ≤ s.size := by omega
                    clear hx
                    have HB2 := Asd.mk (below_alloc HB1.out (.cells #[.int .i64 (t.kind : Int), .string ⟨t.text.toArray⟩, .int .i64 0, .int .i64 t.num] 88))
                    have HB12 := Asd.mk (below_alloc (Below.refl w1.heap.size w1) (.cells #[.int .i64 (t.kind : Int), .string ⟨t.text.toArray⟩, .int .i64 0, .int .i64 t.num] 88))
                    have HN2 := Asd.mk (blk_new w1 (.cells #[.int .i64 (t.kind : Int), .string ⟨t.text.toArray⟩, .int .i64 0, .int .i64 t.num] 88))
                    have HNW : Asd (w.heap.size ≤ w1.heap.size) := Asd.mk HB1.out.size
                    go_upto_region 18 with fail
                    generalize w1.alloc (.cells #[.int .i64 (t.kind : Int), .string ⟨t.text.toArray⟩, .int .i64 0, .int .i64 t.num] 88) = W2 at HB2 HB12 HN2 ⊢
                    have x2 := (blk_cell HN2.out 2).trans rfl
                    have z2 := blk_frozen HN2.out 2
                    go_upto_region 21 with fail
                    have HB13 := Asd.mk (HB12.out.setCell (p := ⟨w1.heap.size, 2, none⟩) (Nat.le_refl _) (.int .i64 (k : Int)))
                    have HB3 := Asd.mk (HB2.out.setCell (p := ⟨w1.heap.size, 2, none⟩) HNW.out (.int .i64 (k : Int)))
                    have HN3 := Asd.mk ((blk_set HN2.out 2 (.int .i64 (k : Int))).trans rfl)
                    have HO3 := Asd.mk (own_below HO1.out HB13.out)
                    generalize W2.setCell ⟨w1.heap.size, 2, none⟩ (.int .i64 (k : Int)) = W3 at HB3 HN3 HO3 ⊢
                    have y0 := (blk_cell HN3.out 0).trans rfl
                    have y1 := (blk_cell HN3.out 1).trans rfl
                    have y2 := (blk_cell HN3.out 2).trans rfl
                    have y3 := (blk_cell HN3.out 3).trans rfl
                    have HO4 := Asd.mk (HO3.out.alloc (.cells #[.int .i64 (t.kind : Int), .string ⟨t.text.toArray⟩, .int .i64 (k : Int), .int .i64 t.num] 88))
                    have HF := Asd.mk (Feeds.of_block (size := 4) (m := 1) (c := 1) (blk_new W3 (.cells #[.int .i64 (t.kind : Int), .string ⟨t.text.toArray⟩, .int .i64 (k : Int), .int .i64 t.num] 88)) rfl (by simp [Value.oneCell']))
                    have hmm : m ≤ 16384 := by have := HM.out; have := HDK.out; omega
                    have HWS : Asd (w.heap.size ≤ (W3.alloc (.cells #[.int .i64 (t.kind : Int), .string ⟨t.text.toArray⟩, .int .i64 (k : Int), .int .i64 t.num] 88)).heap.size) := Asd.mk (by have := HB3.out.size; simp; omega)
                    clear HB13 HB12 HB2 HN2
                    go_wp2_with (at_builtin; refine wpList_src rfl (.tmp 61) (.tmp 63) _ rfl rowT _ rfl HO4.out (some ⟨W3.heap.size, 0, none⟩) 1 1 rfl HF.out (by unfold maxLen; omega) (by omega) HWS.out ?_)
                    intro A9 c9 w9 ho9 hg9
                    have HB9 : Asd (Below w.heap.size w w9) := Asd.mk (below_own (below_alloc HB3.out _) HO4.out hg9 (Nat.le_refl _))
                    have HO9 : Asd (w9.ownsRow w.heap.size 88 4 (.slice A9 (m + 1) c9) (m + 1) (tkCells (done ++ [(t, k)]))) := Asd.mk (by rw [tkCells_snoc]; exact ho9)
                    clear ho9 hg9
                    go_wp2
                    go_roundw
                    case rel => exact ⟨k + n, done ++ [(t, k)], A9, m + 1, c9, hnk, rfl, by go_num, ⟨by have := HM.out; simp; omega⟩, ⟨by have := HDK.out; simp; omega⟩, HS2, HO9, HB9⟩
                    case measure => simp [intOf]; omega
              · have HNB : Asd (¬ isBl s[k]) := Asd.mk (by intro h; unfold isBl at h; rcases h with h | h | h | h; exact hb32 (by rw [h]; rfl); exact hb9 (by rw [h]; rfl); exact hb10 (by rw [h]; rfl); exact hb13 (by rw [h]; rfl))
                have HNN : Asd (¬ (s[k] = 45 ∧ (s.data.toList.drop (k + 1)).head? = some 45)) := Asd.mk (by intro h; exact hb45 (by rw [h.1]; rfl))
                go_wp2_with fail
                refine (token_calls (s.extract k s.size) _ HX1.out HXS.out HWR.out).mono ?_
                rintro e w1 ⟨hb1, he⟩
                rw [HXL.out] at he
                have HB1 : Asd (Below w.heap.size w w1) := Asd.mk (HB.out.trans (hb1.mono HB.out.size))
                have HO1 := Asd.mk (own_below HO.out hb1)
                clear hb1
                cases hx : tokP (s.data.toList.drop k) with
                | none =>
                  rw [hx] at he
                  obtain ⟨kd, tx, nm, rfl⟩ := he
                  have HR := Asd.mk (HS.out.bad HD.out HNB.out HNN.out hx)
                  clear hx
                  have HB2 := Asd.mk (below_alloc (below_alloc HB1.out (.cells #[.int .i64 kd, .string tx, .int .i64 0, .int .i64 nm] 88)) (.cells #[.int .i64 (k : Int), .iface 32 (.int .i64 20)] 84))
                  have HN2 := Asd.mk (blk_new (w1.alloc (.cells #[.int .i64 kd, .string tx, .int .i64 0, .int .i64 nm] 88)) (.cells #[.int .i64 (k : Int), .iface 32 (.int .i64 20)] 84))
                  have HNW : Asd (w.heap.size ≤ (w1.alloc (.cells #[.int .i64 kd, .string tx, .int .i64 0, .int .i64 nm] 88)).heap.size) := Asd.mk (by have := HB1.out.size; simp; omega)
                  rw [show (w1.alloc (.cells #[.int .i64 kd, .string tx, .int .i64 0, .int .i64 nm] 88)).heap.size = w1.heap.size + 1 by simp] at HN2 HNW
                  go_wp2
                  (try rw [Exit.noGoto_ret])
                  refine bodyPost_ret (results_tmp2 rfl _ _ _) rfl ?_
                  exact lex_bad HNL.out HR.out HB2.out ⟨_, rfl, HNW.out, HN2.out⟩
                | some x =>
                  rw [hx] at he
                  obtain ⟨t, n⟩ := x
                  obtain rfl := he
                  have HS2 := Asd.mk (HS.out.word HD.out HNB.out HNN.out hx)
                  have hn := tokP_le hx
                  rw [List.length_drop, HLN.out] at hn
                  obtain ⟨hn1, hn2⟩ := hn
                  simp only at hn1 hn2
                  have hn0 : 0 < n := hn1
                  have hnk : k + n ≤ s.size := by omega
                  clear hx
                  have HB2 := Asd.mk (below_alloc HB1.out (.cells #[.int .i64 (t.kind : Int), .string ⟨t.text.toArray⟩, .int .i64 0, .int .i64 t.num] 88))
                  have HB12 := Asd.mk (below_alloc (Below.refl w1.heap.size w1) (.cells #[.int .i64 (t.kind : Int), .string ⟨t.text.toArray⟩, .int .i64 0, .int .i64 t.num] 88))
                  have HN2 := Asd.mk (blk_new w1 (.cells #[.int .i64 (t.kind : Int), .string ⟨t.text.toArray⟩, .int .i64 0, .int .i64 t.num] 88))
                  have HNW : Asd (w.heap.size ≤ w1.heap.size) := Asd.mk HB1.out.size
                  go_upto_region 18 with fail
                  generalize w1.alloc (.cells #[.int .i64 (t.kind : Int), .string ⟨t.text.toArray⟩, .int .i64 0, .int .i64 t.num] 88) = W2 at HB2 HB12 HN2 ⊢
                  have x2 := (blk_cell HN2.out 2).trans rfl
                  have z2 := blk_frozen HN2.out 2
                  go_upto_region 21 with fail
                  have HB13 := Asd.mk (HB12.out.setCell (p := ⟨w1.heap.size, 2, none⟩) (Nat.le_refl _) (.int .i64 (k : Int)))
                  have HB3 := Asd.mk (HB2.out.setCell (p := ⟨w1.heap.size, 2, none⟩) HNW.out (.int .i64 (k : Int)))
                  have HN3 := Asd.mk ((blk_set HN2.out 2 (.int .i64 (k : Int))).trans rfl)
                  have HO3 := Asd.mk (own_below HO1.out HB13.out)
                  generalize W2.setCell ⟨w1.heap.size, 2, none⟩ (.int .i64 (k : Int)) = W3 at HB3 HN3 HO3 ⊢
                  have y0 := (blk_cell HN3.out 0).trans rfl
                  have y1 := (blk_cell HN3.out 1).trans rfl
                  have y2 := (blk_cell HN3.out 2).trans rfl
                  have y3 := (blk_cell HN3.out 3).trans rfl
                  have HO4 := Asd.mk (HO3.out.alloc (.cells #[.int .i64 (t.kind : Int), .string ⟨t.text.toArray⟩, .int .i64 (k : Int), .int .i64 t.num] 88))
                  have HF := Asd.mk (Feeds.of_block (size := 4) (m := 1) (c := 1) (blk_new W3 (.cells #[.int .i64 (t.kind : Int), .string ⟨t.text.toArray⟩, .int .i64 (k : Int), .int .i64 t.num] 88)) rfl (by simp [Value.oneCell']))
                  have hmm : m ≤ 16384 := by have := HM.out; have := HDK.out; omega
                  have HWS : Asd (w.heap.size ≤ (W3.alloc (.cells #[.int .i64 (t.kind : Int), .string ⟨t.text.toArray⟩, .int .i64 (k : Int), .int .i64 t.num] 88)).heap.size) := Asd.mk (by have := HB3.out.size; simp; omega)
                  clear HB13 HB12 HB2 HN2
                  go_wp2_with (at_builtin; refine wpList_src rfl (.tmp 61) (.tmp 63) _ rfl rowT _ rfl HO4.out (some ⟨W3.heap.size, 0, none⟩) 1 1 rfl HF.out (by unfold maxLen; omega) (by omega) HWS.out ?_)
                  intro A9 c9 w9 ho9 hg9
                  have HB9 : Asd (Below w.heap.size w w9) := Asd.mk (below_own (below_alloc HB3.out _) HO4.out hg9 (Nat.le_refl _))
                  have HO9 : Asd (w9.ownsRow w.heap.size 88 4 (.slice A9 (m + 1) c9) (m + 1) (tkCells (done ++ [(t, k)]))) := Asd.mk (by rw [tkCells_snoc]; exact ho9)
                  clear ho9 hg9
                  go_wp2
                  go_roundw
                  case rel => exact ⟨k + n, done ++ [(t, k)], A9, m + 1, c9, hnk, rfl, by go_num, ⟨by have := HM.out; simp; omega⟩, ⟨by have := HDK.out; simp; omega⟩, HS2, HO9, HB9⟩
                  case measure => simp [intOf]; omega
    · obtain rfl : k = s.size := by omega
      have HR := Asd.mk (HS.out.fin (by rw [List.drop_of_length_le (Nat.le_of_eq HLN.out)]))
      clear hlt
      go_wp2
      (try rw [Exit.noGoto_ret])
      refine bodyPost_ret (results_tmp2 rfl _ _ _) rfl ?_
      exact lex_ok HNL.out HR.out HB.out rfl HM.out HO.out
theorem tokens_calls (s : ByteArray) (w : World) (hw : LexW w) :
    Calls Tryz.prog 31 #[.string s] w fun e w' => LexEnd s.data.toList w e w' := by
  by_cases h : 16384 < s.size
  · exact tokens_long s w h
  · exact tokens_short s w h hw
end Go.Proofs.YtbeeaikilcnpgaaGreatDoor.Lex


namespace Go.Proofs.YtbeeaikilcnpgaaGreatDoor.Lex
open Go.RowKit Go.Proofs.YtbeeaikilcnpgaaGreatDoor.Base Go.Proofs.YtbeeaikilcnpgaaGreatDoor.App Go.Proofs.YtbeeaikilcnpgaaGreatDoor.Byt
def TokSl (W : World) (A : Option Addr) (m : Nat) (ts : List (Tk × Nat)) : Prop :=
  m = ts.length ∧ m ≤ 16384 ∧ (0 < m → ∃ g, A = some ⟨g, 0, none⟩ ∧ ∀ i (hi : i < ts.length), W.cell? ⟨g, i * 4, none⟩ = some (.int .i64 (ts[i].1.kind : Int)) ∧ W.cell? ⟨g, i * 4 + 1, none⟩ = some (.string ⟨ts[i].1.text.toArray⟩) ∧ W.cell? ⟨g, i * 4 + 2, none⟩ = some (.int .i64 (ts[i].2 : Nat)) ∧ W.cell? ⟨g, i * 4 + 3, none⟩ = some (.int .i64 ts[i].1.num))
theorem TokSl.below {W W' : World} {A : Option Addr} {m : Nat} {ts : List (Tk × Nat)} (h : TokSl W A m ts) (hb : Below W.heap.size W W') : TokSl W' A m ts := by
  refine ⟨h.1, h.2.1, fun h0 => ?_⟩
  obtain ⟨g, rfl, hc⟩ := h.2.2 h0
  refine ⟨g, rfl, fun i hi => ?_⟩
  obtain ⟨a, b, c, d⟩ := hc i hi
  exact ⟨(hb.cell (World.block_lt_of_cell? W _ a)).trans a, (hb.cell (World.block_lt_of_cell? W _ b)).trans b, (hb.cell (World.block_lt_of_cell? W _ c)).trans c, (hb.cell (World.block_lt_of_cell? W _ d)).trans d⟩
theorem tkCells_at : ∀ (ts : List (Tk × Nat)) (i : Nat) (hi : i < ts.length) (j : Nat), j < 4 → (tkCells ts)[i * 4 + j]? = (tcells ts[i])[j]?
  | x :: r, 0, hi, j, hj => by
    simp only [tkCells, List.flatMap_cons, Nat.zero_mul, Nat.zero_add, List.getElem_cons_zero]
    rw [List.getElem?_append_left (by simpa [tcells] using hj)]
  | x :: r, i + 1, hi, j, hj => by
    have ih := tkCells_at r i (by simpa using hi) j hj
    simp only [tkCells, List.flatMap_cons, List.getElem_cons_succ] at ih ⊢
    rw [List.getElem?_append_right (by simp [tcells]; omega)]
    rw [← ih]
    congr 1
    simp [tcells]
    omega
theorem TokSl.of_own {W : World} {B : Nat} {A : Option Addr} {m c : Nat} {ts : List (Tk × Nat)} (hm : m = ts.length) (hle : m ≤ 16384) (h : W.ownsRow B 88 4 (.slice A m c) m (tkCells ts)) : TokSl W A m ts := by
  refine ⟨hm, hle, fun h0 => ?_⟩
  have hc := fun g => h.cells (g := g)
  rcases h.2 with ⟨he, h00⟩ | ⟨g, cap, cur, he, hb, hh, _⟩
  · omega
  · injection he with h1 h2 h3
    subst h1
    refine ⟨g, rfl, fun i hi => ?_⟩
    have hg := hc g (by simp [Value.ownBlock])
    have hat : ∀ j, j < 4 → W.cell? ⟨g, i * 4 + j, none⟩ = (tcells ts[i])[j]? := fun j hj => by
      have h1 := tkCells_at ts i hi j hj
      have h2 : (tcells ts[i])[j]? = some ((tcells ts[i])[j]'(by simpa [tcells] using hj)) := List.getElem?_eq_getElem _
      rw [h2] at h1 ⊢
      have := hg _ _ h1
      rw [addr_add, Nat.zero_add] at this
      exact this
    exact ⟨(hat 0 (by omega)).trans rfl, (hat 1 (by omega)).trans rfl, (hat 2 (by omega)).trans rfl, (hat 3 (by omega)).trans rfl⟩

def LexR (l : List UInt8) (w : World) (e : Ending) (w' : World) : Prop :=
  Below w.heap.size w w' ∧ if 16384 < l.length then FaultE w e w' 0 8 else match lexT l with
  | .ok ts => ∃ A m c, e = .returned (.tuple #[.slice A m c, .nilIface]) ∧ TokSl w' A m ts
  | .error k => FaultE w e w' k 20

theorem lexT_len_aux : ∀ (f k : Nat) (s : List UInt8) (ts : List (Tk × Nat)), toksP f k s = .ok ts → ts.length ≤ s.length
  | 0, k, s, ts, h => by simp [toksP] at h; subst h; simp
  | f + 1, k, [], ts, h => by simp [toksP] at h; subst h; simp
  | f + 1, k, c :: r, ts, h => by
    rw [toksP] at h
    try simp only at h
    split at h
    · have := lexT_len_aux f _ _ _ h
      simp only [List.length_cons]; omega
    · split at h
      · split at h
        · have h1 := lexT_len_aux f _ _ _ h
          have h2 : ((c :: r).dropWhile (· != 10)).length ≤ (c :: r).length := by
            have e : (c :: r).takeWhile (· != 10) ++ (c :: r).dropWhile (· != 10) = c :: r := List.takeWhile_append_dropWhile
            have := congrArg List.length e
            rw [List.length_append] at this
            omega
          omega
        · simp at h; subst h; simp
      · cases ht : tokP (c :: r) with
        | none => rw [ht] at h; simp at h
        | some x =>
          obtain ⟨t, n⟩ := x
          rw [ht] at h
          simp only at h
          have hn := tokP_le ht
          simp only at hn
          cases hr : toksP f (k + n) ((c :: r).drop n) with
          | error j => rw [hr] at h; simp [Except.map] at h
          | ok ts' =>
            rw [hr] at h
            simp [Except.map] at h
            subst h
            have := lexT_len_aux f _ _ _ hr
            rw [List.length_drop] at this
            simp only [List.length_cons] at this hn ⊢
            omega
theorem lexT_len {l : List UInt8} {ts : List (Tk × Nat)} (h : lexT l = .ok ts) : ts.length ≤ l.length := lexT_len_aux _ _ _ _ h

theorem tokens_reads (s : ByteArray) (w : World) (hw : LexW w) :
    Calls Tryz.prog 31 #[.string s] w fun e w' => LexR s.data.toList w e w' := by
  refine (tokens_calls s w hw).mono ?_
  rintro e w' ⟨hb, he⟩
  refine ⟨hb, ?_⟩
  by_cases h : 16384 < s.data.toList.length
  · rw [if_pos h] at he ⊢
    exact he
  · rw [if_neg h] at he ⊢
    cases hl : lexT s.data.toList with
    | ok ts =>
      rw [hl] at he
      obtain ⟨A, m, c, rfl, hm, ho⟩ := he
      have := lexT_len hl
      exact ⟨A, m, c, rfl, TokSl.of_own hm (by omega) ho⟩
    | error k =>
      rw [hl] at he
      exact he
end Go.Proofs.YtbeeaikilcnpgaaGreatDoor.Lex

namespace Go.Proofs.YtbeeaikilcnpgaaGreatDoor.Exp
open Go.RowKit Go.Proofs.YtbeeaikilcnpgaaGreatDoor.Base Go.Proofs.YtbeeaikilcnpgaaGreatDoor.App Go.Proofs.YtbeeaikilcnpgaaGreatDoor.Byt
def IsGo (F : FuncId) : Prop := ∀ (args : Array Value) (w : World), (callFunc F args).run Tryz.prog w = .ok (.enter F args) w
theorem isGo_of {F : FuncId} {fn : Func} {c : Code} (hf : Tryz.prog.funcs[F]? = some fn) (hname : (fn.name == "runtime.NumGoroutine") = false) (hb : fn.body = some c) : IsGo F := by
  intro args w
  have h1 : ¬ fn.name = "runtime.NumGoroutine" := by simpa using hname
  simp [callFunc, hf, h1, hb]

theorem mk_func (fn : Fn) (first cap : Array Value) (w : World) : (Instr.makeFunc fn first cap).run Tryz.prog w = .ok (.func fn first cap) w := rfl
theorem st_func (a : Addr) (fn : Fn) (first cap : Array Value) (w : World) : (store a (.func fn first cap)).run Tryz.prog w = stored Tryz.prog w a (.func fn first cap) .plain := run_store _ _ _ _ _ rfl
theorem blk_below {W W' : World} {g : Nat} {o : Obj} (hb : Below W.heap.size W W') (h : W.heap[g]? = some o) : W'.heap[g]? = some o := (hb.block g (blk_lt h)).trans h
def exC (x : Ex) (s : Value) : List Value := [.int .i64 x.kind, .int .i64 x.op, .int .i64 x.v.kind, .int .i64 x.v.int, .string ⟨x.v.text.toArray⟩, .string ⟨x.table.toArray⟩, .string ⟨x.name.toArray⟩, .int .i64 x.col, .int .i64 x.ty, s]
def exV (x : Ex) (s : Value) : Value := .agg #[.int .i64 x.kind, .int .i64 x.op, .int .i64 x.v.kind, .int .i64 x.v.int, .string ⟨x.v.text.toArray⟩, .string ⟨x.table.toArray⟩, .string ⟨x.name.toArray⟩, .int .i64 x.col, .int .i64 x.ty, s]
def RowC (W : World) (g o : Nat) (x : Ex) (s : Value) : Prop := ∀ j (hj : j < 10), W.cell? ⟨g, o + j, none⟩ = some ((exC x s)[j]'hj)
inductive Held (P : Nat → Prop) (W : World) : List Ex → Value → Prop
  | nil (A : Option Addr) (c : Nat) : Held P W [] (.slice A 0 c)
  | cons (g o c : Nat) (xs : List Ex) (ss : List Value) (hg : P g) (hl : ss.length = xs.length) (hu : ∀ j, j < xs.length * 10 → W.frozen? ⟨g, o + j, none⟩ = false) (hrow : ∀ i (h : i < xs.length), RowC W g (o + i * 10) xs[i] (ss[i]'(by omega))) (hsub : ∀ i (h : i < xs.length), Held P W xs[i].args (ss[i]'(by omega))) : Held P W xs (.slice (some ⟨g, o, none⟩) xs.length c)
theorem RowC.below {W W' : World} {g o : Nat} {x : Ex} {s : Value} (h : RowC W g o x s) (hb : Below W.heap.size W W') : RowC W' g o x s := fun j hj =>
  (hb.cell (World.block_lt_of_cell? W _ (h j hj))).trans (h j hj)
theorem frozen_blk {W W' : World} {g : Nat} (h : W'.heap[g]? = W.heap[g]?) (j : Nat) : W'.frozen? ⟨g, j, none⟩ = W.frozen? ⟨g, j, none⟩ := by
  unfold World.frozen?
  rw [h]
theorem held_below {P : Nat → Prop} {W W' : World} {xs : List Ex} {s : Value} (h : Held P W xs s) (hb : Below W.heap.size W W') : Held P W' xs s := by
  induction h with
  | nil A c => exact .nil A c
  | cons g o c xs ss hg hl hu hrow hsub ih =>
    refine .cons g o c xs ss hg hl (fun j hj => ?_) (fun i h => (hrow i h).below hb) ih
    have hlt : g < W.heap.size := World.block_lt_of_cell? W _ (hrow 0 (by omega) 0 (by omega))
    rw [frozen_blk (hb.block g hlt)]
    exact hu j hj
theorem held_mono {P Q : Nat → Prop} {W : World} {xs : List Ex} {s : Value} (h : Held P W xs s) (hPQ : ∀ g, g < W.heap.size → P g → Q g) : Held Q W xs s := by
  induction h with
  | nil A c => exact .nil A c
  | cons g o c xs ss hg hl hu hrow hsub ih =>
    by_cases h0 : 0 < xs.length
    · exact .cons g o c xs ss (hPQ g (World.block_lt_of_cell? W _ (hrow 0 h0 0 (by omega))) hg) hl hu hrow ih
    · obtain rfl : xs = [] := List.length_eq_zero_iff.mp (by omega)
      exact .nil _ _
theorem cell_frS {S : Nat → Prop} {W W' : World} (hf : Fr S W W') {g j : Nat} {v : Value} (hg : ¬ S g) (h : W.cell? ⟨g, j, none⟩ = some v) : W'.cell? ⟨g, j, none⟩ = some v := by
  have hlt := World.block_lt_of_cell? W _ h
  rw [← h]
  unfold World.cell?
  rw [hf.block g hlt hg]
theorem RowC.frS {S : Nat → Prop} {W W' : World} {g o : Nat} {x : Ex} {s : Value} (h : RowC W g o x s) (hf : Fr S W W') (hg : ¬ S g) : RowC W' g o x s := fun j hj => cell_frS hf hg (h j hj)
theorem held_frS {P S : Nat → Prop} {W W' : World} {xs : List Ex} {s : Value} (h : Held P W xs s) (hf : Fr S W W') (hS : ∀ g, P g → ¬ S g) : Held P W' xs s := by
  induction h with
  | nil A c => exact .nil A c
  | cons g o c xs ss hg hl hu hrow hsub ih =>
    refine .cons g o c xs ss hg hl (fun j hj => ?_) (fun i h => (hrow i h).frS hf (hS g hg)) ih
    have hlt : g < W.heap.size := World.block_lt_of_cell? W _ (hrow 0 (by omega) 0 (by omega))
    rw [frozen_blk (hf.block g hlt (hS g hg))]
    exact hu j hj
theorem cell_ne {W : World} {R g j : Nat} {cs : Array Value} {t : TypeId} {fr : Nat × Nat} {v : Value} (hR : W.heap[R]? = some (.cells cs t fr)) (hj : cs.size ≤ j) (h : W.cell? ⟨g, j, none⟩ = some v) : g ≠ R := by
  rintro rfl
  rw [blk_cell hR, Array.getElem?_eq_none hj] at h
  cases h
theorem fr_cell {R : Nat} {W W' : World} (hf : Fr (fun k => k = R) W W') {g j : Nat} {v : Value} (hg : g ≠ R) (h : W.cell? ⟨g, j, none⟩ = some v) : W'.cell? ⟨g, j, none⟩ = some v := by
  have hlt := World.block_lt_of_cell? W _ h
  rw [← h]
  unfold World.cell?
  rw [hf.block g hlt hg]
end Go.Proofs.YtbeeaikilcnpgaaGreatDoor.Exp

namespace Go.Proofs.YtbeeaikilcnpgaaGreatDoor.Exp
open Go.RowKit Go.Proofs.YtbeeaikilcnpgaaGreatDoor.Base Go.Proofs.YtbeeaikilcnpgaaGreatDoor.App Go.Proofs.YtbeeaikilcnpgaaGreatDoor.Byt Go.Proofs.YtbeeaikilcnpgaaGreatDoor.Lex
abbrev rdO (A : Option Addr) (m c i d : Nat) : Obj := .cells #[.slice A m c, .int .i64 (i : Nat), .int .i64 (d : Nat)] 93 (0, 0)
theorem RowC.fr {R : Nat} {W W' : World} {g o : Nat} {x : Ex} {s : Value} (h : RowC W g o x s) (hf : Fr (fun k => k = R) W W') {A : Option Addr} {m c i d : Nat} (hR : W.heap[R]? = some (rdO A m c i d)) : RowC W' g o x s := fun j hj =>
  fr_cell hf (cell_ne hR (show (3 : Nat) ≤ o + 9 by omega) (h 9 (by omega))) (h j hj)
theorem toksl_fr {R : Nat} {W W' : World} {A : Option Addr} {m : Nat} {l : Toks} (h : TokSl W A m l) (hf : Fr (fun k => k = R) W W') {A2 : Option Addr} {m2 c i d : Nat} (hR : W.heap[R]? = some (rdO A2 m2 c i d)) : TokSl W' A m l := by
  refine ⟨h.1, h.2.1, fun h0 => ?_⟩
  obtain ⟨g, rfl, hc⟩ := h.2.2 h0
  refine ⟨g, rfl, fun i hi => ?_⟩
  obtain ⟨a, b, c, e⟩ := hc i hi
  have hg := cell_ne hR (show (3 : Nat) ≤ i * 4 + 3 by omega) e
  exact ⟨fr_cell hf hg a, fr_cell hf hg b, fr_cell hf hg c, fr_cell hf hg e⟩
structure RdW (W : World) (R : Nat) (A : Option Addr) (m c : Nat) (l : Toks) (i d : Nat) : Prop where
  blk : W.heap[R]? = some (rdO A m c i d)
  tok : TokSl W A m l
  le : i ≤ l.length
  sh : W.ShapedOpen Tryz.prog
  low : Tryz.prog.low ≤ R
theorem RdW.below {W W' : World} {R : Nat} {A : Option Addr} {m c : Nat} {l : Toks} {i d : Nat} (h : RdW W R A m c l i d) (hb : Below W.heap.size W W') : RdW W' R A m c l i d :=
  ⟨blk_below hb h.blk, h.tok.below hb, h.le, shaped_below h.sh hb, h.low⟩
theorem shaped_fr {W W' : World} {R : Nat} {A A' : Option Addr} {m c i d m' c' i' d' : Nat} (h : W.ShapedOpen Tryz.prog) (hl : Tryz.prog.low ≤ R) (hf : Fr (fun k => k = R) W W') (h1 : W.heap[R]? = some (rdO A m c i d)) (h2 : W'.heap[R]? = some (rdO A' m' c' i' d')) : W'.ShapedOpen Tryz.prog := by
  refine h.keptBut (may := fun p => p.block = R) ⟨hf.os, hf.output, fun k hk => ?_⟩ (fun p hp => by rw [hp]; exact hl)
  by_cases hkR : k = R
  · subst hkR
    rw [h1, h2]
    exact ⟨rfl, rfl, rfl, fun j hj => absurd rfl hj⟩
  · rw [hf.block k hk hkR]
    cases hx : W.heap[k]? with
    | none => rfl
    | some o => cases o <;> simp
theorem RdW.move {W W' : World} {R : Nat} {A : Option Addr} {m c : Nat} {l : Toks} {i d : Nat} (h : RdW W R A m c l i d) (hf : Fr (fun k => k = R) W W') {j e : Nat} (hj : j ≤ l.length) (hb : W'.heap[R]? = some (rdO A m c j e)) : RdW W' R A m c l j e :=
  ⟨hb, toksl_fr h.tok hf h.blk, hj, shaped_fr h.sh h.low hf h.blk hb, h.low⟩
def Thrown (e : Ending) (w' : World) (p : Nat) (n : Int) : Prop :=
  ∃ N, e = .panicked [{ v := .iface 82 (.pointer (some ⟨N, 0, none⟩)), recovered := false }] ∧ w'.heap[N]? = some (.cells #[.int .i64 (p : Nat), .iface 32 (.int .i64 n)] 84 (0, 0))
def Got (R : Nat) (A : Option Addr) (m c : Nat) (l : Toks) (d : Nat) (w : World) (r : Res Ex) (e : Ending) (w' : World) : Prop :=
  Fr (fun k => k = R) w w' ∧ match r with
  | .ok x => ∃ s, e = .returned (exV x.1 s) ∧ Held (fun g => w.heap.size ≤ g) w' x.1.args s ∧ RdW w' R A m c l x.2 d
  | .error x => Thrown e w' x.1 x.2
def Went (R : Nat) (A : Option Addr) (m c : Nat) (l : Toks) (d : Nat) (w : World) (r : Except (Nat × Int) Nat) (e : Ending) (w' : World) : Prop :=
  Fr (fun k => k = R) w w' ∧ match r with
  | .ok j => e = .returned (.tuple #[]) ∧ RdW w' R A m c l j d
  | .error x => Thrown e w' x.1 x.2

def tkV (l : Toks) (i : Nat) : Value := match l[i]? with
  | some x => .agg #[.int .i64 (x.1.kind : Nat), .string ⟨x.1.text.toArray⟩, .int .i64 (x.2 : Nat), .int .i64 x.1.num]
  | none => .agg #[.int .i64 0, .string ⟨#[]⟩, .int .i64 0, .int .i64 0]
theorem tkV_some {l : Toks} {i : Nat} (h : i < l.length) : tkV l i = .agg #[.int .i64 ((l[i].1.kind : Nat) : Int), .string ⟨l[i].1.text.toArray⟩, .int .i64 ((l[i].2 : Nat) : Int), .int .i64 l[i].1.num] := by
  unfold tkV
  rw [List.getElem?_eq_getElem h]
theorem tkV_none {l : Toks} {i : Nat} (h : l.length ≤ i) : tkV l i = .agg #[.int .i64 0, .string ⟨#[]⟩, .int .i64 0, .int .i64 0] := by
  unfold tkV
  rw [List.getElem?_eq_none h]

set_option maxRecDepth 100000 in
theorem token_calls (R : Nat) (A : Option Addr) (m c : Nat) (l : Toks) (i d : Nat) (w : World) (h : RdW w R A m c l i d) :
    Calls Tryz.prog 118 #[.pointer (some ⟨R, 0, none⟩)] w fun e w' => e = .returned (tkV l i) ∧ Below w.heap.size w w' := by
  have hm := h.tok.1
  have hmb := h.tok.2.1
  have hi := h.le
  have HH := Asd.mk h
  have HB := Asd.mk (below_alloc (Below.refl w.heap.size w) (.cells #[.int .i64 0, .string ⟨#[]⟩, .int .i64 0, .int .i64 0] 88))
  have HN := Asd.mk (blk_new w (.cells #[.int .i64 0, .string ⟨#[]⟩, .int .i64 0, .int .i64 0] 88))
  have HR := Asd.mk (blk_below HB.out h.blk)
  clear h
  go_enter Tryz.func118, Tryz.ntmps118
  go_upto_region 1 with fail
  generalize w.alloc (.cells #[.int .i64 0, .string ⟨#[]⟩, .int .i64 0, .int .i64 0] 88) = W at HB HN HR ⊢
  have r0 := (blk_cell HR.out 0).trans rfl
  have r1 := (blk_cell HR.out 1).trans rfl
  by_cases hlt : i < l.length
  · have HT := Asd.mk (HH.out.tok.below HB.out)
    obtain ⟨g, rfl, hc⟩ := HT.out.2.2 (by omega)
    obtain ⟨c0, c1, c2, c3⟩ := hc i hlt
    have HV := Asd.mk (tkV_some hlt)
    generalize l[i] = x at c0 c1 c2 c3 HV
    have hlt2 : i < m := by omega
    clear hc hm
    go_quiet (fail)
    have HB2 : Asd (∀ n, Below w.heap.size w (W.drewN n)) := Asd.mk fun n => HB.out.trans ((below_drewN' W n).mono HB.out.size)
    have HN2 : Asd (∀ n, (W.drewN n).heap[w.heap.size]? = some (.cells #[.int .i64 0, .string ⟨#[]⟩, .int .i64 0, .int .i64 0] 88)) := Asd.mk fun n => HN.out
    have HC0 : Asd (∀ n, (W.drewN n).cell? ⟨R, 0, none⟩ = some (.slice (some ⟨g, 0, none⟩) m c) ∧ (W.drewN n).cell? ⟨R, 1, none⟩ = some (.int .i64 (i : Nat)) ∧ (W.drewN n).cell? ⟨g, i * 4, none⟩ = some (.int .i64 (x.1.kind : Nat)) ∧ (W.drewN n).cell? ⟨g, i * 4 + 1, none⟩ = some (.string ⟨x.1.text.toArray⟩) ∧ (W.drewN n).cell? ⟨g, i * 4 + 2, none⟩ = some (.int .i64 (x.2 : Nat)) ∧ (W.drewN n).cell? ⟨g, i * 4 + 3, none⟩ = some (.int .i64 x.1.num)) := Asd.mk fun n => ⟨r0, r1, c0, c1, c2, c3⟩
    go_upto_region 3 with fail
    have hb2 := HB2.out nq
    have hn2 := HN2.out nq
    have hc0 := HC0.out nq
    have HB3 := Asd.mk hb2
    have HN3 := Asd.mk hn2
    clear r0 r1 c0 c1 c2 c3 HC0 HB2 HN2
    generalize W.drewN nq = W2 at hc0 HB3 HN3 ⊢
    clear hb2 hn2
    obtain ⟨r0, r1, c0, c1, c2, c3⟩ := hc0
    go_still_tail 10, (by kernel_rfl)
    change wpList _ _ _ _ _ W2.drew
    have HB4 : Asd (Below w.heap.size w W2.drew) := Asd.mk HB3.out.drew
    have HN4 : Asd (W2.drew.heap[w.heap.size]? = some (.cells #[.int .i64 0, .string ⟨#[]⟩, .int .i64 0, .int .i64 0] 88 (0, 0))) := Asd.mk HN3.out
    clear r0 r1 c0 c1 c2 c3
    generalize W2.drew = W3 at HB4 HN4 ⊢
    have y0 := (blk_cell HN4.out 0).trans rfl
    have y1 := (blk_cell HN4.out 1).trans rfl
    have y2 := (blk_cell HN4.out 2).trans rfl
    have y3 := (blk_cell HN4.out 3).trans rfl
    have z0 := blk_frozen HN4.out 0
    have z1 := blk_frozen HN4.out 1
    have z2 := blk_frozen HN4.out 2
    have z3 := blk_frozen HN4.out 3
    have HFIN : Asd (∀ a b c d, ((((W3.setCell ⟨w.heap.size, 0, none⟩ a).setCell ⟨w.heap.size, 1, none⟩ b).setCell ⟨w.heap.size, 2, none⟩ c).setCell ⟨w.heap.size, 3, none⟩ d).heap[w.heap.size]? = some (.cells #[a, b, c, d] 88 (0, 0)) ∧ Below w.heap.size w ((((W3.setCell ⟨w.heap.size, 0, none⟩ a).setCell ⟨w.heap.size, 1, none⟩ b).setCell ⟨w.heap.size, 2, none⟩ c).setCell ⟨w.heap.size, 3, none⟩ d)) := Asd.mk fun a b c d =>
      ⟨(blk_set (blk_set (blk_set (blk_set HN4.out 0 a) 1 b) 2 c) 3 d).trans rfl, (((HB4.out.setCell (Nat.le_refl _) a).setCell (Nat.le_refl _) b).setCell (Nat.le_refl _) c).setCell (Nat.le_refl _) d⟩
    go_wp2
    refine bodyPost_ret (results_cell_row rfl _ _ w.heap.size 88 _ (0, 0) _ rfl (HFIN.out _ _ _ _).1 Tryz.underlying88 rfl (by kernel_rfl)) rfl ?_
    exact ⟨by rw [HV.out], (HFIN.out _ _ _ _).2⟩
  · have HV := Asd.mk (tkV_none (l := l) (i := i) (by omega))
    have hge : ¬ i < m := by omega
    go_quiet (fail)
    have HB2 : Asd (∀ n, Below w.heap.size w (W.drewN n)) := Asd.mk fun n => HB.out.trans ((below_drewN' W n).mono HB.out.size)
    have HN2 : Asd (∀ n, (W.drewN n).heap[w.heap.size]? = some (.cells #[.int .i64 0, .string ⟨#[]⟩, .int .i64 0, .int .i64 0] 88 (0, 0))) := Asd.mk fun n => HN.out
    go_upto_region 2 with fail
    have HB3 := Asd.mk (HB2.out nq)
    have HN4 := Asd.mk (HN2.out nq)
    clear r0 r1 HB2 HN2
    generalize W.drewN nq = W3 at HB3 HN4 ⊢
    have HB4 := HB3
    have y0 := (blk_cell HN4.out 0).trans rfl
    have y1 := (blk_cell HN4.out 1).trans rfl
    have y2 := (blk_cell HN4.out 2).trans rfl
    have y3 := (blk_cell HN4.out 3).trans rfl
    have z0 := blk_frozen HN4.out 0
    have z1 := blk_frozen HN4.out 1
    have z2 := blk_frozen HN4.out 2
    have z3 := blk_frozen HN4.out 3
    have HFIN : Asd (∀ a b c d, ((((W3.setCell ⟨w.heap.size, 0, none⟩ a).setCell ⟨w.heap.size, 1, none⟩ b).setCell ⟨w.heap.size, 2, none⟩ c).setCell ⟨w.heap.size, 3, none⟩ d).heap[w.heap.size]? = some (.cells #[a, b, c, d] 88 (0, 0)) ∧ Below w.heap.size w ((((W3.setCell ⟨w.heap.size, 0, none⟩ a).setCell ⟨w.heap.size, 1, none⟩ b).setCell ⟨w.heap.size, 2, none⟩ c).setCell ⟨w.heap.size, 3, none⟩ d)) := Asd.mk fun a b c d =>
      ⟨(blk_set (blk_set (blk_set (blk_set HN4.out 0 a) 1 b) 2 c) 3 d).trans rfl, (((HB4.out.setCell (Nat.le_refl _) a).setCell (Nat.le_refl _) b).setCell (Nat.le_refl _) c).setCell (Nat.le_refl _) d⟩
    go_wp2
    refine bodyPost_ret (results_cell_row rfl _ _ w.heap.size 88 _ (0, 0) _ rfl (HFIN.out _ _ _ _).1 Tryz.underlying88 rfl (by kernel_rfl)) rfl ?_
    exact ⟨by rw [HV.out], (HFIN.out _ _ _ _).2⟩

theorem toList_mk (s : List UInt8) : (⟨s.toArray⟩ : ByteArray).toList = s := by rw [Lib.toList_data]
theorem isT_some {l : Toks} {i k : Nat} {s : List UInt8} (h : i < l.length) : isT l i k s = (l[i].1.kind == k && l[i].1.text == s) := by
  unfold isT
  rw [List.getElem?_eq_getElem h]
theorem isT_none {l : Toks} {i k : Nat} {s : List UInt8} (h : l.length ≤ i) : isT l i k s = false := by
  unfold isT
  rw [List.getElem?_eq_none h]

set_option maxRecDepth 100000 in
theorem is_calls (R : Nat) (A : Option Addr) (m c : Nat) (l : Toks) (i d k : Nat) (s : List UInt8) (w : World) (hk : 1 ≤ k) (h : RdW w R A m c l i d) :
    Calls Tryz.prog 102 #[.pointer (some ⟨R, 0, none⟩), .int .i64 (k : Nat), .string ⟨s.toArray⟩] w fun e w' => e = .returned (.bool (isT l i k s)) ∧ Below w.heap.size w w' := by
  have HH := Asd.mk h
  clear h
  go_enter Tryz.func102, Tryz.ntmps102
  go_wp2_with fail
  refine (token_calls R A m c l i d w HH.out).mono ?_
  rintro e w1 ⟨rfl, hb1⟩
  have HB1 : Asd (∀ o, Below w.heap.size w (w1.alloc o)) := Asd.mk fun o => below_alloc hb1 o
  clear hb1
  by_cases hlt : i < l.length
  · rw [tkV_some hlt]
    have HI := Asd.mk (isT_some (k := k) (s := s) hlt)
    generalize l[i] = x at HI ⊢
    by_cases h1 : x.1.kind = k
    · have h1' : ((x.1.kind : Nat) : Int) = (k : Int) := by omega
      by_cases h2 : x.1.text = s
      · have h2' : (⟨x.1.text.toArray⟩ : ByteArray).toList = (⟨s.toArray⟩ : ByteArray).toList := by rw [h2]
        have HO : Asd (isT l i k s = true) := Asd.mk (by rw [HI.out]; simp [h1, h2])
        clear h1 h2
        go_wp2
        go_ret
        exact ⟨ret_eq (by rw [HO.out]; first | rfl | (show Value.bool (x.1.text == s) = Value.bool false; rw [HX2.out])), HB1.out _⟩
      · have h2' : ¬ (⟨x.1.text.toArray⟩ : ByteArray).toList = (⟨s.toArray⟩ : ByteArray).toList := by rw [toList_mk, toList_mk]; exact h2
        have HO : Asd (isT l i k s = false) := Asd.mk (by rw [HI.out]; simp [h2])
        have HX2 : Asd ((x.1.text == s) = false) := Asd.mk (by simp [h2])
        clear h1 h2
        go_wp2
        go_ret
        exact ⟨ret_eq (by rw [HO.out]; first | rfl | (show Value.bool (x.1.text == s) = Value.bool false; rw [HX2.out])), HB1.out _⟩
    · have h1' : ¬ ((x.1.kind : Nat) : Int) = (k : Int) := by omega
      have HO : Asd (isT l i k s = false) := Asd.mk (by rw [HI.out]; simp [h1])
      clear h1
      go_wp2
      go_ret
      exact ⟨ret_eq (by rw [HO.out]; first | rfl | (show Value.bool (x.1.text == s) = Value.bool false; rw [HX2.out])), HB1.out _⟩
  · rw [tkV_none (by omega)]
    have HO : Asd (isT l i k s = false) := Asd.mk (isT_none (by omega))
    have h1' : ¬ (0 : Int) = (k : Int) := by omega
    go_wp2
    go_ret
    exact ⟨ret_eq (by rw [HO.out]; rfl), HB1.out _⟩

def tookT (l : Toks) (i k : Nat) (s : List UInt8) : Nat := if isT l i k s then i + 1 else i
theorem RdW.set {W : World} {R : Nat} {A : Option Addr} {m c : Nat} {l : Toks} {i d : Nat} (h : RdW W R A m c l i d) {j : Nat} (hj : j ≤ l.length) : Fr (fun k => k = R) W (W.setCell ⟨R, 1, none⟩ (.int .i64 (j : Nat))) ∧ RdW (W.setCell ⟨R, 1, none⟩ (.int .i64 (j : Nat))) R A m c l j d := by
  have hf : Fr (fun k => k = R) W (W.setCell ⟨R, 1, none⟩ (.int .i64 (j : Nat))) := Fr.setCell (S := fun k => k = R) (Fr.refl _ W) (p := ⟨R, 1, none⟩) rfl _
  exact ⟨hf, h.move hf hj ((blk_set h.blk 1 _).trans rfl)⟩
theorem RdW.setD {W : World} {R : Nat} {A : Option Addr} {m c : Nat} {l : Toks} {i d : Nat} (h : RdW W R A m c l i d) (e : Nat) : Fr (fun k => k = R) W (W.setCell ⟨R, 2, none⟩ (.int .i64 (e : Nat))) ∧ RdW (W.setCell ⟨R, 2, none⟩ (.int .i64 (e : Nat))) R A m c l i e := by
  have hf : Fr (fun k => k = R) W (W.setCell ⟨R, 2, none⟩ (.int .i64 (e : Nat))) := Fr.setCell (S := fun k => k = R) (Fr.refl _ W) (p := ⟨R, 2, none⟩) rfl _
  exact ⟨hf, h.move hf h.le ((blk_set h.blk 2 _).trans rfl)⟩
theorem frR_below {R : Nat} {a b c : World} (h : Below a.heap.size a b) (k : Fr (fun k => k = R) b c) : Fr (fun k => k = R) a c := (Fr.of_below (S := fun k => k = R) h).trans k (fun _ h _ => h) (fun _ h _ => h)
theorem frR_trans {R : Nat} {a b c : World} (h : Fr (fun k => k = R) a b) (k : Fr (fun k => k = R) b c) : Fr (fun k => k = R) a c := h.trans k (fun _ h _ => h) (fun _ h _ => h)
theorem below_frR {R : Nat} {a b c : World} (h : Fr (fun k => k = R) a b) (k : Below b.heap.size b c) : Fr (fun k => k = R) a c := h.trans (Fr.of_below (S := fun k => k = R) k) (fun _ h _ => h) (fun _ h _ => h)

set_option maxRecDepth 100000 in
theorem take_calls (R : Nat) (A : Option Addr) (m c : Nat) (l : Toks) (i d k : Nat) (s : List UInt8) (w : World) (hk : 1 ≤ k) (h : RdW w R A m c l i d) :
    Calls Tryz.prog 117 #[.pointer (some ⟨R, 0, none⟩), .int .i64 (k : Nat), .string ⟨s.toArray⟩] w fun e w' => e = .returned (.bool (isT l i k s)) ∧ Fr (fun k => k = R) w w' ∧ RdW w' R A m c l (tookT l i k s) d := by
  have HH := Asd.mk h
  clear h
  go_enter Tryz.func117, Tryz.ntmps117
  go_wp2_with fail
  refine (is_calls R A m c l i d k s w hk HH.out).mono ?_
  rintro e w1 ⟨rfl, hb1⟩
  have H1 := HH.out.below hb1
  have r1 := (blk_cell H1.blk 1).trans rfl
  have z1 := blk_frozen H1.blk 1
  have hmb := H1.tok.2.1
  have hml := H1.tok.1
  have HR1 := Asd.mk H1
  have HB1 := Asd.mk hb1
  clear H1 hb1
  cases hT : isT l i k s with
  | true =>
    have HT := Asd.mk hT
    have hlt := isT_lt hT
    clear hT
    go_wp2
    go_ret
    have hs := HR1.out.set (j := i + 1) (by omega)
    refine ⟨ret_eq (by rw [HT.out]; rfl), frR_below HB1.out hs.1, ?_⟩
    unfold tookT
    rw [HT.out]
    exact hs.2
  | false =>
    have HT := Asd.mk hT
    clear hT
    go_wp2
    go_ret
    refine ⟨ret_eq (by rw [HT.out]; rfl), Fr.of_below HB1.out, ?_⟩
    unfold tookT
    rw [HT.out]
    exact HR1.out

theorem stopAt_in {l : Toks} {i : Nat} (h : i < l.length) : stopAt l i = l[i].2 := by
  unfold stopAt
  rw [List.getElem?_eq_getElem h]
theorem stopAt_end {l : Toks} {i : Nat} (h : l.length ≤ i) (h0 : 0 < l.length) : stopAt l i = (l[l.length - 1]'(by omega)).2 + 1 := by
  unfold stopAt
  rw [List.getElem?_eq_none h, List.getLast?_eq_getElem?, List.getElem?_eq_getElem (by omega)]
theorem stopAt_no {l : Toks} {i : Nat} (h0 : l.length = 0) : stopAt l i = 0 := by
  obtain rfl : l = [] := List.length_eq_zero_iff.mp h0
  rfl
def Near (l : Toks) : Prop := ∀ x ∈ l, x.2 ≤ 1048576 ∧ x.1.text.length ≤ 1048576

set_option maxRecDepth 100000 in
theorem stop_calls (R : Nat) (A : Option Addr) (m c : Nat) (l : Toks) (i d : Nat) (n : Int) (w : World) (hnear : Near l) (h : RdW w R A m c l i d) :
    Calls Tryz.prog 121 #[.pointer (some ⟨R, 0, none⟩), .int .i64 n] w fun e w' => Below w.heap.size w w' ∧ Thrown e w' (stopAt l i) n := by
  have hm := h.tok.1
  have hmb := h.tok.2.1
  have hi := h.le
  have HH := Asd.mk h
  have r0 := (blk_cell h.blk 0).trans rfl
  have r1 := (blk_cell h.blk 1).trans rfl
  clear h
  have hge : ¬ ((i : Int) < 0) := by omega
  go_enter Tryz.func121, Tryz.ntmps121
  by_cases hlt : i < l.length
  · have hltm : i < m := by omega
    clear hm
    go_upto_region 1 with fail
    go_quiet (fail)
    have H2 := Asd.mk (HH.out.below (below_drewN' w nq))
    have HB2 := Asd.mk (below_drewN' w nq)
    go_upto_region 2 with fail
    clear r0 r1
    generalize w.drewN nq = w2 at H2 HB2 ⊢
    have r0 := (blk_cell H2.out.blk 0).trans rfl
    have r1 := (blk_cell H2.out.blk 1).trans rfl
    obtain ⟨g, rfl, hc⟩ := H2.out.tok.2.2 (by omega)
    obtain ⟨_, _, c2, _⟩ := hc i hlt
    have HV := Asd.mk (stopAt_in hlt)
    generalize l[i] = x at c2 HV
    clear hc
    go_quiet (fail)
    have HB3 : Asd (∀ o, Below w.heap.size w ((w2.drewN nq).alloc o)) := Asd.mk fun o => below_alloc (HB2.out.trans ((below_drewN' w2 nq).mono HB2.out.size)) o
    generalize w2.drewN nq = w3 at HB3 ⊢
    go_wp2
    exact ⟨rfl, HB3.out _, ⟨_, rfl, by rw [HV.out]; exact blk_new _ _⟩⟩
  · have hgem : ¬ i < m := by omega
    have HM := Asd.mk hm
    clear hm
    go_upto_region 1 with fail
    go_quiet (fail)
    have H2 := Asd.mk (HH.out.below (below_drewN' w nq))
    have HB2 := Asd.mk (below_drewN' w nq)
    go_upto_region 3 with fail
    clear r0 r1
    generalize w.drewN nq = w2 at H2 HB2 ⊢
    have r0 := (blk_cell H2.out.blk 0).trans rfl
    have r1 := (blk_cell H2.out.blk 1).trans rfl
    by_cases h0 : 0 < l.length
    · have h0m : 0 < m := by have := HM.out; omega
      obtain ⟨g, rfl, hc⟩ := H2.out.tok.2.2 h0m
      obtain ⟨_, _, c2, _⟩ := hc (l.length - 1) (by omega)
      have HV := Asd.mk (stopAt_end (i := i) (by omega) h0)
      have hx : (l[l.length - 1]'(by omega)).2 ≤ 1048576 := (hnear _ (List.getElem_mem _)).1
      generalize (l[l.length - 1]'(by omega)) = x at c2 HV hx
      rw [← HM.out] at c2
      have hsub : ((m : Int) - 1) = ((m - 1 : Nat) : Int) := by omega
      have hm1 : m - 1 < m := by omega
      clear hc
      go_upto_region 4 with fail
      go_quiet (fail)
      have HB3 : Asd (∀ o, Below w.heap.size w ((w2.drewN nq).alloc o)) := Asd.mk fun o => below_alloc (HB2.out.trans ((below_drewN' w2 nq).mono HB2.out.size)) o
      generalize w2.drewN nq = w3 at HB3 ⊢
      go_wp2
      exact ⟨rfl, HB3.out _, ⟨_, rfl, by rw [HV.out]; exact blk_new _ _⟩⟩
    · have h0m : ¬ 0 < m := by have := HM.out; omega
      have HV := Asd.mk (stopAt_no (i := i) (show l.length = 0 by omega))
      have HB3 : Asd (∀ o, Below w.heap.size w (w2.alloc o)) := Asd.mk fun o => below_alloc HB2.out o
      go_wp2
      exact ⟨rfl, HB3.out _, ⟨_, rfl, by rw [HV.out]; exact blk_new _ _⟩⟩

theorem mustT_true {l : Toks} {i k : Nat} {s : List UInt8} (h : isT l i k s = true) : mustT l i k s = .ok (i + 1) := by unfold mustT; rw [if_pos h]
theorem mustT_false {l : Toks} {i k : Nat} {s : List UInt8} (h : isT l i k s = false) : mustT l i k s = .error (stopAt l i, 20) := by unfold mustT; rw [if_neg (by rw [h]; decide)]
set_option maxRecDepth 100000 in
theorem must_calls (R : Nat) (A : Option Addr) (m c : Nat) (l : Toks) (i d k : Nat) (s : List UInt8) (w : World) (hnear : Near l) (hk : 1 ≤ k) (h : RdW w R A m c l i d) :
    Calls Tryz.prog 123 #[.pointer (some ⟨R, 0, none⟩), .int .i64 (k : Nat), .string ⟨s.toArray⟩] w (Went R A m c l d w (mustT l i k s)) := by
  have HH := Asd.mk h
  have HNE := Asd.mk hnear
  clear h hnear
  go_enter Tryz.func123, Tryz.ntmps123
  go_wp2_with fail
  refine (take_calls R A m c l i d k s w hk HH.out).mono ?_
  rintro e w1 ⟨rfl, hf, hr⟩
  have HF := Asd.mk hf
  have HR := Asd.mk hr
  clear hf hr
  cases hT : isT l i k s with
  | true =>
    have HT := Asd.mk hT
    have HM := Asd.mk (mustT_true hT)
    clear hT
    go_wp2
    refine bodyPost_ret (results_none rfl _ _ _) rfl ?_
    refine ⟨HF.out, ?_⟩
    rw [HM.out]
    refine ⟨rfl, ?_⟩
    have := HR.out
    unfold tookT at this
    rw [HT.out] at this
    exact this
  | false =>
    have HT := Asd.mk hT
    have HM := Asd.mk (mustT_false hT)
    have HR2 : Asd (RdW w1 R A m c l i d) := Asd.mk (by
      have := HR.out
      unfold tookT at this
      rw [HT.out] at this
      exact this)
    clear hT
    go_wp2_with fail
    refine (stop_calls R A m c l i d 20 w1 HNE.out HR2.out).mono ?_
    rintro e w2 ⟨hb2, N, rfl, hN⟩
    refine ⟨rfl, below_frR HF.out hb2, ?_⟩
    rw [HM.out]
    exact ⟨N, rfl, hN⟩
end Go.Proofs.YtbeeaikilcnpgaaGreatDoor.Exp

namespace Go.Proofs.YtbeeaikilcnpgaaGreatDoor.Exp
open Go.RowKit Go.Proofs.YtbeeaikilcnpgaaGreatDoor.Base Go.Proofs.YtbeeaikilcnpgaaGreatDoor.App Go.Proofs.YtbeeaikilcnpgaaGreatDoor.Byt
def rowsC (ps : List (Ex × Value)) : List Value := ps.flatMap fun p => exC p.1 p.2
theorem exC_len (x : Ex) (s : Value) : (exC x s).length = 10 := rfl
theorem rowsC_cons (p : Ex × Value) (ps : List (Ex × Value)) : rowsC (p :: ps) = exC p.1 p.2 ++ rowsC ps := by simp [rowsC]
theorem rowsC_snoc (ps : List (Ex × Value)) (p : Ex × Value) : rowsC (ps ++ [p]) = rowsC ps ++ exC p.1 p.2 := by simp [rowsC]
theorem rowsC_at : ∀ (ps : List (Ex × Value)) (i : Nat) (hi : i < ps.length) (j : Nat) (hj : j < 10), (rowsC ps)[i * 10 + j]? = some ((exC ps[i].1 ps[i].2)[j]'(by rw [exC_len]; exact hj))
  | p :: r, 0, hi, j, hj => by
    rw [rowsC_cons, Nat.zero_mul, Nat.zero_add, List.getElem?_append_left (by rw [exC_len]; exact hj), List.getElem?_eq_getElem]
    rfl
  | p :: r, i + 1, hi, j, hj => by
    have ih := rowsC_at r i (by simpa using hi) j hj
    rw [rowsC_cons, List.getElem?_append_right (by rw [exC_len]; omega), exC_len, show (i + 1) * 10 + j - 10 = i * 10 + j by omega, ih]
    rfl
theorem held_of_cells {P : Nat → Prop} {W : World} {g c : Nat} (hP : P g) (ps : List (Ex × Value)) (hu : ∀ j, W.frozen? ⟨g, j, none⟩ = false) (h : ∀ i (hi : i < ps.length), RowC W g (0 + i * 10) ps[i].1 ps[i].2) (hs : ∀ p ∈ ps, Held P W p.1.args p.2) : Held P W (ps.map (·.1)) (.slice (some ⟨g, 0, none⟩) ps.length c) := by
  have := Held.cons (P := P) (W := W) g 0 c (ps.map (·.1)) (ps.map (·.2)) hP (by simp) (fun j _ => hu _) (fun i hi => by
    have hi' : i < ps.length := by simpa using hi
    simpa using h i hi') (fun i hi => by
    have hi' : i < ps.length := by simpa using hi
    simpa using hs _ (List.getElem_mem hi'))
  simpa using this
theorem held_of_blk {P : Nat → Prop} {W : World} {g c : Nat} {T : TypeId} (hP : P g) (ps : List (Ex × Value)) (h : W.heap[g]? = some (.cells (rowsC ps).toArray T (0, 0))) (hs : ∀ p ∈ ps, Held P W p.1.args p.2) : Held P W (ps.map (·.1)) (.slice (some ⟨g, 0, none⟩) ps.length c) := by
  refine held_of_cells hP ps (fun j => blk_frozen h j) (fun i hi j hj => ?_) hs
  rw [blk_cell h, Nat.zero_add, List.getElem?_toArray, rowsC_at ps i hi j hj]
  rfl
theorem held_of_own {P : Nat → Prop} {W : World} {B : Nat} (hP : ∀ g, B ≤ g → P g) {A : Option Addr} {m c : Nat} (ps : List (Ex × Value)) (hm : m = ps.length) (h : W.ownsRow B 26 10 (.slice A m c) m (rowsC ps)) (hs : ∀ p ∈ ps, Held P W p.1.args p.2) : Held P W (ps.map (·.1)) (.slice A m c) := by
  subst hm
  have hc := fun g => h.cells (g := g)
  rcases h.2 with ⟨he, h00⟩ | ⟨g, cap, cur, he, hb, hh, _⟩
  · have : ps = [] := List.length_eq_zero_iff.mp h00
    subst this
    exact .nil _ _
  · injection he with h1 h2 h3
    subst h1
    refine held_of_cells (hP g hb) ps (fun j => blk_frozen hh j) (fun i hi j hj => ?_) hs
    have hg := hc g (by simp [Value.ownBlock])
    have := hg _ _ (rowsC_at ps i hi j hj)
    rw [addr_add, Nat.zero_add] at this
    rw [Nat.zero_add]
    exact this
theorem held_slice {P : Nat → Prop} {W : World} {xs : List Ex} {s : Value} (h : Held P W xs s) : ∃ A n c, s = .slice A n c := by
  cases h with
  | nil A c => exact ⟨_, _, _, rfl⟩
  | cons g o c xs ss hg hl hu hrow hsub => exact ⟨_, _, _, rfl⟩
theorem put10_blk {W : World} {b : Nat} {T : TypeId} {fr : Nat × Nat} {c0 c1 c2 c3 c4 c5 c6 c7 c8 c9 : Value} (h : W.heap[b]? = some (.cells #[c0, c1, c2, c3, c4, c5, c6, c7, c8, c9] T fr)) (v0 v1 v2 v3 v4 v5 v6 v7 v8 v9 : Value) : ((((((((((W.setCell ⟨b, 0, none⟩ v0).setCell ⟨b, 1, none⟩ v1).setCell ⟨b, 2, none⟩ v2).setCell ⟨b, 3, none⟩ v3).setCell ⟨b, 4, none⟩ v4).setCell ⟨b, 5, none⟩ v5).setCell ⟨b, 6, none⟩ v6).setCell ⟨b, 7, none⟩ v7).setCell ⟨b, 8, none⟩ v8).setCell ⟨b, 9, none⟩ v9).heap[b]? = some (.cells #[v0, v1, v2, v3, v4, v5, v6, v7, v8, v9] T fr) := by
  have := setCells_heap [v0, v1, v2, v3, v4, v5, v6, v7, v8, v9] 0 h
  have e : putCells #[c0, c1, c2, c3, c4, c5, c6, c7, c8, c9] 0 [v0, v1, v2, v3, v4, v5, v6, v7, v8, v9] = #[v0, v1, v2, v3, v4, v5, v6, v7, v8, v9] := by simp [putCells]
  rw [e] at this
  exact this
theorem put10_fr {W : World} {b : Nat} {S : Nat → Prop} (hb : S b) (v0 v1 v2 v3 v4 v5 v6 v7 v8 v9 : Value) : Fr S W ((((((((((W.setCell ⟨b, 0, none⟩ v0).setCell ⟨b, 1, none⟩ v1).setCell ⟨b, 2, none⟩ v2).setCell ⟨b, 3, none⟩ v3).setCell ⟨b, 4, none⟩ v4).setCell ⟨b, 5, none⟩ v5).setCell ⟨b, 6, none⟩ v6).setCell ⟨b, 7, none⟩ v7).setCell ⟨b, 8, none⟩ v8).setCell ⟨b, 9, none⟩ v9) :=
  Fr.setCell (p := ⟨b, 9, none⟩) (Fr.setCell (p := ⟨b, 8, none⟩) (Fr.setCell (p := ⟨b, 7, none⟩) (Fr.setCell (p := ⟨b, 6, none⟩) (Fr.setCell (p := ⟨b, 5, none⟩) (Fr.setCell (p := ⟨b, 4, none⟩) (Fr.setCell (p := ⟨b, 3, none⟩) (Fr.setCell (p := ⟨b, 2, none⟩) (Fr.setCell (p := ⟨b, 1, none⟩) (Fr.setCell (p := ⟨b, 0, none⟩) (Fr.refl S W) hb v0) hb v1) hb v2) hb v3) hb v4) hb v5) hb v6) hb v7) hb v8) hb v9
theorem fr_new {R : Nat} {a b c : World} {S : Nat → Prop} (h : Fr (fun k => k = R) a b) (k : Fr S b c) (hs : ∀ k, S k → k = R ∨ a.heap.size ≤ k) : Fr (fun k => k = R) a c :=
  ⟨k.os.trans h.os, k.tape.trans h.tape, k.output.trans h.output, Nat.le_trans h.size k.size, fun i hi hu => (k.block i (Nat.lt_of_lt_of_le hi h.size) (fun h' => by rcases hs i h' with h | h; exact hu h; omega)).trans (h.block i hi hu)⟩
theorem ex_cells {W : World} {b : Nat} {x : Ex} {s : Value} {T : TypeId} {fr : Nat × Nat} (h : W.heap[b]? = some (.cells (exC x s).toArray T fr)) : W.cell? ⟨b, 0, none⟩ = some (.int .i64 x.kind) ∧ W.cell? ⟨b, 1, none⟩ = some (.int .i64 x.op) ∧ W.cell? ⟨b, 2, none⟩ = some (.int .i64 x.v.kind) ∧ W.cell? ⟨b, 3, none⟩ = some (.int .i64 x.v.int) ∧ W.cell? ⟨b, 4, none⟩ = some (.string ⟨x.v.text.toArray⟩) ∧ W.cell? ⟨b, 5, none⟩ = some (.string ⟨x.table.toArray⟩) ∧ W.cell? ⟨b, 6, none⟩ = some (.string ⟨x.name.toArray⟩) ∧ W.cell? ⟨b, 7, none⟩ = some (.int .i64 x.col) ∧ W.cell? ⟨b, 8, none⟩ = some (.int .i64 x.ty) ∧ W.cell? ⟨b, 9, none⟩ = some (s) :=
  ⟨(blk_cell h 0).trans rfl, (blk_cell h 1).trans rfl, (blk_cell h 2).trans rfl, (blk_cell h 3).trans rfl, (blk_cell h 4).trans rfl, (blk_cell h 5).trans rfl, (blk_cell h 6).trans rfl, (blk_cell h 7).trans rfl, (blk_cell h 8).trans rfl, (blk_cell h 9).trans rfl⟩
theorem asize (w : World) (o : Obj) : (w.alloc o).heap.size = w.heap.size + 1 := by simp
theorem nb1 (w : World) (a b : Obj) : ((w.alloc a).alloc b).heap[w.heap.size + 1]? = some b := by
  have := blk_new (w.alloc a) b
  rwa [asize] at this
theorem nb2 (w : World) (a b c : Obj) : (((w.alloc a).alloc b).alloc c).heap[w.heap.size + 1 + 1]? = some c := by
  have := nb1 (w.alloc a) b c
  rwa [asize] at this
theorem nb3 (w : World) (a b c d : Obj) : ((((w.alloc a).alloc b).alloc c).alloc d).heap[w.heap.size + 1 + 1 + 1]? = some d := by
  have := nb2 (w.alloc a) b c d
  rwa [asize] at this
end Go.Proofs.YtbeeaikilcnpgaaGreatDoor.Exp

namespace Go.Proofs.YtbeeaikilcnpgaaGreatDoor.Exp
open Go.RowKit Go.Proofs.YtbeeaikilcnpgaaGreatDoor.Base Go.Proofs.YtbeeaikilcnpgaaGreatDoor.App Go.Proofs.YtbeeaikilcnpgaaGreatDoor.Byt Go.Proofs.YtbeeaikilcnpgaaGreatDoor.Lex
set_option maxRecDepth 100000 in
theorem literal_calls (v : Vl) (w : World) :
    Calls Tryz.prog 119 #[.agg #[.int .i64 v.kind, .int .i64 v.int, .string ⟨v.text.toArray⟩]] w fun e w' => e = .returned (exV (litE v) (.slice none 0 0)) ∧ Below w.heap.size w w' := by
  go_enter Tryz.func119, Tryz.ntmps119
  go_wp2
  refine bodyPost_ret (results_cell_row rfl _ _ (w.heap.size + 1) 26 _ (0, 0) _ rfl (nb1 _ _ _) Tryz.underlying26 rfl (by kernel_rfl)) rfl ?_
  exact ⟨rfl, below_alloc (below_alloc (Below.refl _ w) _) _⟩
set_option maxRecDepth 100000 in
theorem pair_calls (o : Int) (a b : Ex) (sa sb : Value) (w : World) {P : Nat → Prop} (ha : Held P w a.args sa) (hb : Held P w b.args sb) :
    Calls Tryz.prog 101 #[.int .i64 o, exV a sa, exV b sb] w fun e w' => (∃ s, e = .returned (exV (pairE o a b) s) ∧ Held (fun g => P g ∨ w.heap.size ≤ g) w' [a, b] s) ∧ Below w.heap.size w w' := by
  unfold exV
  have HA := Asd.mk ha
  have HB := Asd.mk hb
  clear ha hb
  go_enter Tryz.func101, Tryz.ntmps101
  go_wp2
  refine bodyPost_ret (results_cell_row rfl _ _ (w.heap.size + 1 + 1) 26 _ (0, 0) _ rfl (blk_alloc (nb2 _ _ _ _) _) Tryz.underlying26 rfl (by kernel_rfl)) rfl ?_
  have hbel := below_alloc (below_alloc (below_alloc (below_alloc (Below.refl _ w) (.cells #[.int .i64 a.kind, .int .i64 a.op, .int .i64 a.v.kind, .int .i64 a.v.int, .string ⟨a.v.text.toArray⟩, .string ⟨a.table.toArray⟩, .string ⟨a.name.toArray⟩, .int .i64 a.col, .int .i64 a.ty, sa] 26)) (.cells #[.int .i64 b.kind, .int .i64 b.op, .int .i64 b.v.kind, .int .i64 b.v.int, .string ⟨b.v.text.toArray⟩, .string ⟨b.table.toArray⟩, .string ⟨b.name.toArray⟩, .int .i64 b.col, .int .i64 b.ty, sb] 26)) (.cells #[.int .i64 4, .int .i64 o, .int .i64 0, .int .i64 0, .string ⟨#[]⟩, .string ⟨#[]⟩, .string ⟨#[]⟩, .int .i64 0, .int .i64 0, .slice (some ⟨w.heap.size + 1 + 1 + 1, 0, none⟩) 2 2] 26)) (.cells (rowsC [(a, sa), (b, sb)]).toArray 26)
  refine ⟨⟨.slice (some ⟨w.heap.size + 1 + 1 + 1, 0, none⟩) 2 2, rfl, ?_⟩, hbel⟩
  refine held_of_blk (P := fun g => P g ∨ w.heap.size ≤ g) (c := 2) (.inr (by omega)) [(a, sa), (b, sb)] (nb3 w _ _ _ (.cells (rowsC [(a, sa), (b, sb)]).toArray 26)) ?_
  intro p hp
  simp only [List.mem_cons, List.not_mem_nil, or_false] at hp
  rcases hp with rfl | rfl
  · exact held_below (held_mono HA.out fun g _ h => .inl h) hbel
  · exact held_below (held_mono HB.out fun g _ h => .inl h) hbel

def SgA (W : World) (ops : List Sg) (v : Value) : Prop :=
  ∃ g c, v = .slice (some ⟨g, 0, none⟩) ops.length c ∧ ∀ i (h : i < ops.length), W.cell? ⟨g, i * 3, none⟩ = some (.int .i64 (ops[i].1 : Nat)) ∧ W.cell? ⟨g, i * 3 + 1, none⟩ = some (.string ⟨ops[i].2.1.toArray⟩) ∧ W.cell? ⟨g, i * 3 + 2, none⟩ = some (.int .i64 ops[i].2.2)
theorem SgA.below {W W' : World} {ops : List Sg} {v : Value} (h : SgA W ops v) (hb : Below W.heap.size W W') : SgA W' ops v := by
  obtain ⟨g, c, rfl, hc⟩ := h
  refine ⟨g, c, rfl, fun i hi => ?_⟩
  obtain ⟨a, b, d⟩ := hc i hi
  exact ⟨(hb.cell (World.block_lt_of_cell? W _ a)).trans a, (hb.cell (World.block_lt_of_cell? W _ b)).trans b, (hb.cell (World.block_lt_of_cell? W _ d)).trans d⟩
theorem SgA.fr {R : Nat} {W W' : World} {ops : List Sg} {v : Value} (h : SgA W ops v) (h0 : 0 < ops.length) (hf : Fr (fun k => k = R) W W') {A : Option Addr} {m c i d : Nat} (hR : W.heap[R]? = some (rdO A m c i d)) : SgA W' ops v := by
  obtain ⟨g, c, rfl, hc⟩ := h
  have hg : g ≠ R := by
    rintro rfl
    have := (hc 0 h0).1
    rw [blk_cell hR] at this
    simp at this
  refine ⟨g, c, rfl, fun i hi => ?_⟩
  obtain ⟨a, b, d⟩ := hc i hi
  exact ⟨fr_cell hf hg a, fr_cell hf hg b, fr_cell hf hg d⟩
def tookO (ops : List Sg) (l : Toks) (i : Nat) : Nat := if (operT ops l i).isSome then i + 1 else i
theorem operT_no {x : Sg} {r : List Sg} {l : Toks} {i : Nat} (h : isT l i x.1 x.2.1 = false) : operT (x :: r) l i = operT r l i := by
  rw [operT, if_neg (by rw [h]; decide)]
theorem operT_yes {x : Sg} {r : List Sg} {l : Toks} {i : Nat} (h : isT l i x.1 x.2.1 = true) : operT (x :: r) l i = some x.2.2 := by
  rw [operT, if_pos h]

set_option maxRecDepth 100000 in
theorem operator_calls (R : Nat) (A : Option Addr) (m c : Nat) (l : Toks) (i d : Nat) (ops : List Sg) (v : Value) (w : World) (h0 : 0 < ops.length) (h1 : ∀ x ∈ ops, 1 ≤ x.1) (hl : ops.length ≤ 10) (hv : SgA w ops v) (h : RdW w R A m c l i d) :
    Calls Tryz.prog 100 #[.pointer (some ⟨R, 0, none⟩), v] w fun e w' => e = .returned (.int .i64 ((operT ops l i).getD 0)) ∧ Fr (fun k => k = R) w w' ∧ RdW w' R A m c l (tookO ops l i) d := by
  have HH := Asd.mk h
  have HV := Asd.mk hv
  have H1 := Asd.mk h1
  obtain ⟨g, cc, rfl, _⟩ := hv
  clear h h1
  have hlen := hl
  go_enter Tryz.func100, Tryz.ntmps100
  go_wp2
  generalize hn : ops.length = n at h0 hl hlen ⊢
  have HN := Asd.mk hn
  clear hn
  go_loopw [9] (fun v9 wr => ∃ k : Nat, k ≤ n ∧ v9 = .int .i64 (k : Int) ∧ Asd (operT ops l i = operT (ops.drop k) l i) ∧ Asd (Fr (fun k => k = R) w wr) ∧ Asd (RdW wr R A m c l i d)) (fun v9 _ => n - (intOf v9).toNat)
  case atStart => exact ⟨0, by omega, rfl, ⟨rfl⟩, ⟨Fr.refl _ _⟩, HH⟩
  case round =>
    obtain ⟨k, hk, rfl, HO, HF, HR⟩ := hrel
    by_cases hlt : k < n
    · have hko : k < ops.length := by rw [HN.out]; exact hlt
      have HVR := Asd.mk (HV.out.fr (by rw [HN.out]; exact h0) HF.out HH.out.blk)
      obtain ⟨g2, c2, he, hc⟩ := HVR.out
      injection he with he1 he2 he3
      injection he1 with he1
      injection he1 with he1
      subst he1
      obtain ⟨c0, c1, c2⟩ := hc k hko
      have HDR : Asd (ops.drop k = ops[k] :: ops.drop (k + 1)) := Asd.mk (List.drop_eq_getElem_cons hko)
      have HK1 := Asd.mk (H1.out _ (List.getElem_mem hko))
      generalize ops[k] = x at c0 c1 c2 HDR HK1
      obtain ⟨xk, xs, xo⟩ := x
      simp only at c0 c1 c2 HK1
      clear hc he2 he3 hko
      have HA := Asd.mk (below_alloc (Below.refl _ wr) (.cells #[.int .i64 (xk : Nat), .string ⟨xs.toArray⟩, .int .i64 xo] 134))
      have HNB := Asd.mk (blk_new wr (.cells #[.int .i64 (xk : Nat), .string ⟨xs.toArray⟩, .int .i64 xo] 134))
      go_wp2_with fail
      refine (take_calls R A m c l i d xk xs _ HK1.out (HR.out.below HA.out)).mono ?_
      rintro e w2 ⟨rfl, hf2, hr2⟩
      have HF2 := Asd.mk (frR_trans HF.out (frR_below HA.out hf2))
      have HNR : Asd (wr.heap.size ≠ R) := Asd.mk (by have := blk_lt HR.out.blk; omega)
      have x2 : w2.cell? ⟨wr.heap.size, 2, none⟩ = some (.int .i64 xo) := fr_cell hf2 HNR.out ((blk_cell HNB.out 2).trans rfl)
      have HR2 := Asd.mk hr2
      clear hf2 hr2
      cases hT : isT l i xk xs with
      | true =>
        have HOP : Asd (operT ops l i = some xo) := Asd.mk (by rw [HO.out, HDR.out]; exact operT_yes hT)
        have HT := Asd.mk hT
        clear hT
        go_wp2
        go_ret
        refine ⟨ret_eq (by rw [HOP.out]; rfl), HF2.out, ?_⟩
        have := HR2.out
        unfold tookT at this
        unfold tookO
        rw [HT.out] at this
        rw [HOP.out]
        exact this
      | false =>
        have HOP : Asd (operT ops l i = operT (ops.drop (k + 1)) l i) := Asd.mk (by rw [HO.out, HDR.out]; exact operT_no hT)
        have HT := Asd.mk hT
        have HR3 : Asd (RdW w2 R A m c l i d) := Asd.mk (by
          have := HR2.out
          unfold tookT at this
          rw [HT.out] at this
          exact this)
        clear hT
        go_wp2
        go_roundw
        case rel => exact ⟨k + 1, by omega, by go_num, HOP, HF2, HR3⟩
        case measure => simp [intOf]; omega
    · obtain rfl : k = n := by omega
      have HOP : Asd (operT ops l i = none) := Asd.mk (by rw [HO.out, List.drop_of_length_le (by rw [HN.out]; exact Nat.le_refl _)]; rfl)
      clear hlt
      go_wp2
      go_ret
      refine ⟨ret_eq (by rw [HOP.out]; rfl), HF.out, ?_⟩
      unfold tookO
      rw [HOP.out]
      exact HR.out
def sgC (ops : List Sg) : List Value := ops.flatMap fun x : Sg => [Value.int .i64 (x.1 : Nat), .string ⟨x.2.1.toArray⟩, .int .i64 x.2.2]
theorem sgA_of {W : World} {g c : Nat} {T : TypeId} {fr : Nat × Nat} (ops : List Sg) (h : W.heap[g]? = some (.cells (sgC ops).toArray T fr)) : SgA W ops (.slice (some ⟨g, 0, none⟩) ops.length c) := by
  have key : ∀ (os : List Sg) (i : Nat) (hi : i < os.length) (j : Nat), j < 3 → (os.flatMap fun x => [Value.int .i64 (x.1 : Nat), .string ⟨x.2.1.toArray⟩, .int .i64 x.2.2])[i * 3 + j]? = [Value.int .i64 (os[i].1 : Nat), .string ⟨os[i].2.1.toArray⟩, .int .i64 os[i].2.2][j]? := by
    intro os
    induction os with
    | nil => intro i hi; exact absurd hi (by simp)
    | cons x r ih =>
      intro i hi j hj
      cases i with
      | zero =>
        rw [List.flatMap_cons, Nat.zero_mul, Nat.zero_add, List.getElem?_append_left (by simpa using hj)]
        rfl
      | succ i =>
        have := ih i (by simpa using hi) j hj
        rw [List.flatMap_cons, List.getElem?_append_right (by simp; omega)]
        rw [show (i + 1) * 3 + j - [Value.int .i64 (x.1 : Nat), .string ⟨x.2.1.toArray⟩, .int .i64 x.2.2].length = i * 3 + j by simp; omega]
        exact this
  refine ⟨g, c, rfl, fun i hi => ?_⟩
  rw [blk_cell h, blk_cell h, blk_cell h, List.getElem?_toArray, List.getElem?_toArray, List.getElem?_toArray]
  exact ⟨(key ops i hi 0 (by omega)).trans rfl, (key ops i hi 1 (by omega)).trans rfl, (key ops i hi 2 (by omega)).trans rfl⟩

set_option maxRecDepth 100000 in
theorem tests_calls (w : World) : Calls Tryz.prog 124 #[] w fun e w' => (∃ v, e = .returned v ∧ SgA w' sgTest v) ∧ Below w.heap.size w w' := by
  go_enter Tryz.func124, Tryz.ntmps124
  go_wp2
  go_ret
  exact ⟨⟨.slice (some ⟨w.heap.size, 0, none⟩) 6 6, rfl, sgA_of (c := 6) sgTest (blk_new w (.cells (sgC sgTest).toArray 134))⟩, below_alloc (Below.refl _ w) _⟩

theorem nb4 (w : World) (a b c d e : Obj) : (((((w.alloc a).alloc b).alloc c).alloc d).alloc e).heap[w.heap.size + 1 + 1 + 1 + 1]? = some e := by
  have := nb3 (w.alloc a) b c d e
  rwa [asize] at this
theorem nb5 (w : World) (a b c d e f : Obj) : ((((((w.alloc a).alloc b).alloc c).alloc d).alloc e).alloc f).heap[w.heap.size + 1 + 1 + 1 + 1 + 1]? = some f := by
  have := nb4 (w.alloc a) b c d e f
  rwa [asize] at this
abbrev sgO (ops : List Sg) : Obj := .cells (sgC ops).toArray 134
set_option maxRecDepth 100000 in
theorem lines_calls (w : World) : Calls Tryz.prog 81 #[] w fun e w' => (∃ g c, e = .returned (.slice (some ⟨g, 0, none⟩) 5 c) ∧ w.heap.size ≤ g ∧ ∃ v0 v1 v2 v3 v4, w'.heap[g]? = some (.cells #[v0, v1, v2, v3, v4] 115 (0, 0)) ∧ SgA w' sgOr v0 ∧ SgA w' sgAnd v1 ∧ SgA w' sgCat v2 ∧ SgA w' sgSum v3 ∧ SgA w' sgProd v4) ∧ Below w.heap.size w w' := by
  go_enter Tryz.func81, Tryz.ntmps81
  go_wp2
  go_ret
  refine ⟨⟨w.heap.size + 1 + 1 + 1 + 1 + 1, 5, rfl, by omega, .slice (some ⟨w.heap.size, 0, none⟩) 1 1, .slice (some ⟨w.heap.size + 1, 0, none⟩) 1 1, .slice (some ⟨w.heap.size + 1 + 1, 0, none⟩) 1 1, .slice (some ⟨w.heap.size + 1 + 1 + 1, 0, none⟩) 2 2, .slice (some ⟨w.heap.size + 1 + 1 + 1 + 1, 0, none⟩) 3 3, nb5 w (sgO sgOr) (sgO sgAnd) (sgO sgCat) (sgO sgSum) (sgO sgProd) _, ?_, ?_, ?_, ?_, ?_⟩, ?_⟩
  · exact sgA_of (c := 1) sgOr (blk_alloc (blk_alloc (blk_alloc (blk_alloc (blk_alloc (blk_new w (sgO sgOr)) _) _) _) _) _)
  · exact sgA_of (c := 1) sgAnd (blk_alloc (blk_alloc (blk_alloc (blk_alloc (nb1 w (sgO sgOr) (sgO sgAnd)) _) _) _) _)
  · exact sgA_of (c := 1) sgCat (blk_alloc (blk_alloc (blk_alloc (nb2 w (sgO sgOr) (sgO sgAnd) (sgO sgCat)) _) _) _)
  · exact sgA_of (c := 2) sgSum (blk_alloc (blk_alloc (nb3 w (sgO sgOr) (sgO sgAnd) (sgO sgCat) (sgO sgSum)) _) _)
  · exact sgA_of (c := 3) sgProd (blk_alloc (nb4 w (sgO sgOr) (sgO sgAnd) (sgO sgCat) (sgO sgSum) (sgO sgProd)) _)
  · exact below_alloc (below_alloc (below_alloc (below_alloc (below_alloc (below_alloc (Below.refl _ w) _) _) _) _) _) _

def OpOK (F : FuncId) (args : Array Value) (R : Nat) (A : Option Addr) (m c : Nat) (l : Toks) (f : Nat → Res Ex) (d : Nat) (w : World) : Prop :=
  ∀ w', Fr (fun k => k = R) w w' → ∀ i, RdW w' R A m c l i d → Calls Tryz.prog F args w' (Got R A m c l d w' (f i))
theorem OpOK.fr {F : FuncId} {args : Array Value} {R : Nat} {A : Option Addr} {m c : Nat} {l : Toks} {f : Nat → Res Ex} {d : Nat} {w w' : World} (h : OpOK F args R A m c l f d w) (hf : Fr (fun k => k = R) w w') : OpOK F args R A m c l f d w' := fun w'' h2 => h w'' (frR_trans hf h2)
def toEnd (l : Toks) (R : Nat) (w : World) : Nat := match w.cell? ⟨R, 1, none⟩ with
  | some (.int _ n) => l.length + 1 - n.toNat
  | _ => 0
theorem toEnd_eq {l : Toks} {R : Nat} {w : World} {A : Option Addr} {m c i d : Nat} (h : RdW w R A m c l i d) : toEnd l R w = l.length + 1 - i := by
  unfold toEnd
  rw [blk_cell h.blk 1]
  simp
theorem operT_mem {l : Toks} {i : Nat} : ∀ {ops : List Sg} {o : Int}, operT ops l i = some o → ∃ x ∈ ops, x.2.2 = o
  | [], o, h => by cases h
  | x :: r, o, h => by
    rw [operT] at h
    split at h
    · injection h with h; exact ⟨x, by simp, h⟩
    · obtain ⟨y, hy, e⟩ := operT_mem h
      exact ⟨y, by simp [hy], e⟩
theorem chainL_stop {ops : List Sg} {f : Nat → Res Ex} {l : Toks} {n : Nat} {x : Ex} {i : Nat} (h : operT ops l i = none) : chainL ops f l n x i = .ok (x, i) := by
  cases n with
  | zero => rfl
  | succ n => rw [chainL, h]
theorem chainL_go {ops : List Sg} {f : Nat → Res Ex} {l : Toks} {n : Nat} {x : Ex} {i : Nat} {o : Int} (h : operT ops l i = some o) (hn : l.length - i ≤ n) : ∃ n', l.length - (i + 1) ≤ n' ∧ chainL ops f l n x i = match f (i + 1) with
    | .error e => .error e
    | .ok (y, j) => chainL ops f l n' (pairE o x y) j := by
  have := operT_lt h
  cases n with
  | zero => omega
  | succ n =>
    refine ⟨n, by omega, ?_⟩
    rw [chainL, h] <;> rfl
set_option maxRecDepth 100000 in
theorem chain1_calls (F : FuncId) (first cap : Array Value) (b0 b1 b2 R : Nat) (A : Option Addr) (m c : Nat) (l : Toks) (f : Nat → Res Ex) (i d : Nat) (ops : List Sg) (vops : Value) (w : World) (hnear : Near l) (hf : Ahd f)
    (h0 : 0 < ops.length) (h1 : ∀ x ∈ ops, 1 ≤ x.1) (h2 : ∀ x ∈ ops, x.2.2 ≠ 0) (hl : ops.length ≤ 10)
    (p0 : w.heap[b0]? = some (.cells #[.func (.func F) first cap] 94 (0, 0))) (p1 : w.heap[b1]? = some (.cells #[.pointer (some ⟨R, 0, none⟩)] 91 (0, 0))) (p2 : w.heap[b2]? = some (.cells #[vops] 115 (0, 0)))
    (n0 : b0 ≠ R) (n1 : b1 ≠ R) (n2 : b2 ≠ R) (hv : SgA w ops vops) (hgo : IsGo F) (hop : OpOK F (first ++ cap) R A m c l f d w) (h : RdW w R A m c l i d) :
    Calls Tryz.prog 99 #[.pointer (some ⟨b0, 0, none⟩), .pointer (some ⟨b1, 0, none⟩), .pointer (some ⟨b2, 0, none⟩)] w (Got R A m c l d w (chainP ops f l i)) := by
  have HH := Asd.mk h
  have HP0 := Asd.mk p0
  have HP1 := Asd.mk p1
  have HP2 := Asd.mk p2
  have HN0 := Asd.mk n0
  have HN1 := Asd.mk n1
  have HN2 := Asd.mk n2
  have HV := Asd.mk hv
  have H1 := Asd.mk h1
  have H2 := Asd.mk h2
  have HOP := Asd.mk hop
  have HAH := Asd.mk hf
  have HNE := Asd.mk hnear
  have c0 := (blk_cell p0 0).trans rfl
  have hb0 := blk_lt p0
  clear h p0 p1 p2 n0 n1 n2 hv h1 h2 hop hf hnear
  go_enter Tryz.func99, Tryz.ntmps99
  have hcf : ∀ (args : Array Value) (w : World), (callFunc F args).run Tryz.prog w = .ok (.enter F args) w := hgo
  -- WALK
  have HBA := Asd.mk (below_alloc (Below.refl _ w) (.cells #[.int .i64 0, .int .i64 0, .int .i64 0, .int .i64 0, .string ⟨#[]⟩, .string ⟨#[]⟩, .string ⟨#[]⟩, .int .i64 0, .int .i64 0, .slice none 0 0] 26 (0, 0)))
  have HZ0 := Asd.mk (blk_new w (.cells #[.int .i64 0, .int .i64 0, .int .i64 0, .int .i64 0, .string ⟨#[]⟩, .string ⟨#[]⟩, .string ⟨#[]⟩, .int .i64 0, .int .i64 0, .slice none 0 0] 26 (0, 0)))
  have HSZ : Asd ((w.alloc (.cells #[.int .i64 0, .int .i64 0, .int .i64 0, .int .i64 0, .string ⟨#[]⟩, .string ⟨#[]⟩, .string ⟨#[]⟩, .int .i64 0, .int .i64 0, .slice none 0 0] 26 (0, 0))).heap.size = w.heap.size + 1) := Asd.mk (asize _ _)
  have HN3 : Asd (w.heap.size ≠ R) := Asd.mk (by have := blk_lt HH.out.blk; omega)
  go_wp2_with fail
  generalize w.alloc (.cells #[.int .i64 0, .int .i64 0, .int .i64 0, .int .i64 0, .string ⟨#[]⟩, .string ⟨#[]⟩, .string ⟨#[]⟩, .int .i64 0, .int .i64 0, .slice none 0 0] 26 (0, 0)) = w0 at HBA HZ0 HSZ ⊢
  refine (HOP.out w0 (Fr.of_below HBA.out) i (HH.out.below HBA.out)).mono ?_
  rintro e w1 ⟨hf1, hm⟩
  have HF1 := Asd.mk (frR_below HBA.out hf1)
  have HZ1 : Asd (w1.heap[w.heap.size]? = some (.cells #[.int .i64 0, .int .i64 0, .int .i64 0, .int .i64 0, .string ⟨#[]⟩, .string ⟨#[]⟩, .string ⟨#[]⟩, .int .i64 0, .int .i64 0, .slice none 0 0] 26 (0, 0))) := Asd.mk (blk_fr HZ0.out hf1 HN3.out)
  clear hf1
  cases hfi : f i with
  | error er =>
    rw [hfi] at hm
    have HC : Asd (chainP ops f l i = .error er) := Asd.mk (by unfold chainP; rw [hfi])
    obtain ⟨N, rfl, hN⟩ := hm
    clear hfi
    go_wp2
    refine ⟨rfl, HF1.out, ?_⟩
    rw [HC.out]
    exact ⟨N, rfl, hN⟩
  | ok y0 =>
    obtain ⟨x0, j0⟩ := y0
    rw [hfi] at hm
    obtain ⟨s0, rfl, hh0, hr0⟩ := hm
    obtain ⟨As, ms, cs, rfl⟩ := held_slice hh0
    have HC : Asd (chainP ops f l i = chainL ops f l (l.length - j0) x0 j0) := Asd.mk (by unfold chainP; rw [hfi])
    have HH0 : Asd (Held (fun g => w.heap.size < g ∧ g ≠ w1.heap.size) w1 x0.args (.slice As ms cs)) := Asd.mk (held_mono hh0 fun g h1 h2 => ⟨by have := HSZ.out; have h3 : w0.heap.size ≤ g := h2; omega, by omega⟩)
    have HR0 : Asd (RdW w1 R A m c l j0 d) := Asd.mk hr0
    clear hfi hh0 hr0
    unfold exV
    have HB4 := Asd.mk (below_alloc (Below.refl _ w1) (.cells (exC x0 (.slice As ms cs)).toArray 26 (0, 0)))
    have HE4 := Asd.mk (blk_new w1 (.cells (exC x0 (.slice As ms cs)).toArray 26 (0, 0)))
    have HN4 : Asd (w1.heap.size ≠ R) := Asd.mk (by have := blk_lt HR0.out.blk; omega)
    have HGE : Asd (w.heap.size < w1.heap.size) := Asd.mk (blk_lt HZ1.out)
    have HF2 : Asd (Fr (fun k => k = R) w (w1.alloc (.cells (exC x0 (.slice As ms cs)).toArray 26 (0, 0)))) := Asd.mk (below_frR HF1.out HB4.out)
    have HZ2 : Asd ((w1.alloc (.cells (exC x0 (.slice As ms cs)).toArray 26 (0, 0))).heap[w.heap.size]? = some (.cells #[.int .i64 0, .int .i64 0, .int .i64 0, .int .i64 0, .string ⟨#[]⟩, .string ⟨#[]⟩, .string ⟨#[]⟩, .int .i64 0, .int .i64 0, .slice none 0 0] 26 (0, 0))) := Asd.mk (blk_alloc HZ1.out _)
    have HR2 := Asd.mk (HR0.out.below HB4.out)
    have HH2 := Asd.mk (held_below HH0.out HB4.out)
    go_wp2_with fail
    change Code.wp _ _ _ _ (w1.alloc (.cells (exC x0 (.slice As ms cs)).toArray 26 (0, 0)))
    generalize w1.alloc (.cells (exC x0 (.slice As ms cs)).toArray 26 (0, 0)) = W at HF2 HZ2 HR2 HH2 HE4 ⊢
    clear HB4 HF1 HZ1 HR0 HH0 HBA HZ0 HSZ
    generalize w1.heap.size = b4 at HE4 HN4 HGE HH2 ⊢
    generalize hb3 : w.heap.size = b3 at HZ2 HN3 HGE HH2 ⊢
    have HB3 := Asd.mk hb3
    clear hb3
    go_loopw [5] (fun v5 wr => ∃ (n i' : Nat) (x : Ex) (A' : Option Addr) (m' c' : Nat), Asd (chainP ops f l i = chainL ops f l n x i') ∧ Asd (l.length - i' ≤ n) ∧ Asd (Fr (fun k => k = R) w wr) ∧ Asd (RdW wr R A m c l i' d) ∧ Asd (Held (fun g => b3 < g ∧ g ≠ b4) wr x.args (.slice A' m' c')) ∧ Asd (wr.heap[b4]? = some (.cells (exC x (.slice A' m' c')).toArray 26 (0, 0))) ∧ Asd (wr.heap[b3]? = some (.cells #[.int .i64 0, .int .i64 0, .int .i64 0, .int .i64 0, .string ⟨#[]⟩, .string ⟨#[]⟩, .string ⟨#[]⟩, .int .i64 0, .int .i64 0, .slice none 0 0] 26 (0, 0)))) (fun _ wr => toEnd l R wr)
    case atStart => exact ⟨_, j0, x0, As, ms, cs, HC, ⟨Nat.le_refl _⟩, HF2, HR2, HH2, HE4, HZ2⟩
    case round =>
      obtain ⟨n, i', x, A', m', c', HCH, HLE, HF, HR, HHX, HE, HZ⟩ := hrel
      clear HC HF2 HR2 HH2 HE4 HZ2
      have q1 := (blk_cell (blk_fr HP1.out HF.out HN1.out) 0).trans rfl
      have q2 := (blk_cell (blk_fr HP2.out HF.out HN2.out) 0).trans rfl
      have HTE := Asd.mk (toEnd_eq HR.out)
      go_wp2_with fail
      refine (operator_calls R A m c l i' d ops vops wr h0 H1.out hl (HV.out.fr h0 HF.out HH.out.blk) HR.out).mono ?_
      rintro e w2 ⟨rfl, hf2, hr2⟩
      have HFW := Asd.mk (frR_trans HF.out hf2)
      have HE2 : Asd (w2.heap[b4]? = some (.cells (exC x (.slice A' m' c')).toArray 26 (0, 0))) := Asd.mk (blk_fr HE.out hf2 HN4.out)
      have HZ2 : Asd (w2.heap[b3]? = some (.cells #[.int .i64 0, .int .i64 0, .int .i64 0, .int .i64 0, .string ⟨#[]⟩, .string ⟨#[]⟩, .string ⟨#[]⟩, .int .i64 0, .int .i64 0, .slice none 0 0] 26 (0, 0))) := Asd.mk (blk_fr HZ.out hf2 HN3.out)
      have HNR : Asd (R < b3) := Asd.mk (by rw [← HB3.out]; exact blk_lt HH.out.blk)
      have HHX2 := Asd.mk (held_frS HHX.out hf2 (fun g hg h => by have := HNR.out; have h1 := hg.1; have h2 : g = R := h; omega))
      have HRR := Asd.mk hr2
      clear hf2 hr2 q1 q2
      cases hO : operT ops l i' with
      | none =>
        have HCE : Asd (chainP ops f l i = .ok (x, i')) := Asd.mk (by rw [HCH.out, chainL_stop hO])
        have HR3 : Asd (RdW w2 R A m c l i' d) := Asd.mk (by have := HRR.out; unfold tookO at this; rw [hO] at this; exact this)
        clear hO
        rw [show (none : Option Int).getD 0 = 0 from rfl]
        obtain ⟨e0, e1, e2, e3, e4, e5, e6, e7, e8, e9⟩ := ex_cells HE2.out
        have y0 := (blk_cell HZ2.out 0).trans rfl
        have y1 := (blk_cell HZ2.out 1).trans rfl
        have y2 := (blk_cell HZ2.out 2).trans rfl
        have y3 := (blk_cell HZ2.out 3).trans rfl
        have y4 := (blk_cell HZ2.out 4).trans rfl
        have y5 := (blk_cell HZ2.out 5).trans rfl
        have y6 := (blk_cell HZ2.out 6).trans rfl
        have y7 := (blk_cell HZ2.out 7).trans rfl
        have y8 := (blk_cell HZ2.out 8).trans rfl
        have y9 := (blk_cell HZ2.out 9).trans rfl
        have z0 := blk_frozen HZ2.out 0
        have z1 := blk_frozen HZ2.out 1
        have z2 := blk_frozen HZ2.out 2
        have z3 := blk_frozen HZ2.out 3
        have z4 := blk_frozen HZ2.out 4
        have z5 := blk_frozen HZ2.out 5
        have z6 := blk_frozen HZ2.out 6
        have z7 := blk_frozen HZ2.out 7
        have z8 := blk_frozen HZ2.out 8
        have z9 := blk_frozen HZ2.out 9
        go_wp2
        refine bodyPost_ret (results_cell_row rfl _ _ b3 26 _ (0, 0) _ rfl (put10_blk HZ2.out _ _ _ _ _ _ _ _ _ _) Tryz.underlying26 rfl (by kernel_rfl)) rfl ?_
        have hfb := put10_fr (W := w2) (b := b3) (S := fun k => k = b3) rfl (.int .i64 x.kind) (.int .i64 x.op) (.int .i64 x.v.kind) (.int .i64 x.v.int) (.string ⟨x.v.text.toArray⟩) (.string ⟨x.table.toArray⟩) (.string ⟨x.name.toArray⟩) (.int .i64 x.col) (.int .i64 x.ty) (.slice A' m' c')
        have hff := fr_new HFW.out hfb (fun k hk => .inr (by rw [HB3.out]; exact Nat.le_of_eq hk.symm))
        refine ⟨hff, ?_⟩
        rw [HCE.out]
        refine ⟨.slice A' m' c', rfl, held_mono (held_frS HHX2.out hfb (fun g hg h => by have h1 := hg.1; have h2 : g = b3 := h; omega)) (fun g _ hg => by rw [HB3.out]; exact Nat.le_of_lt hg.1), ?_⟩
        exact HH.out.move hff HR3.out.le (blk_fr HR3.out.blk hfb (fun h => HN3.out h.symm))
      | some o =>
        obtain ⟨xo, hmem, hxo⟩ := operT_mem hO
        have ho : ¬ o = 0 := by rw [← hxo]; exact H2.out xo hmem
        have hob : (o == 0) = false := by simp [ho]
        have HR3 : Asd (RdW w2 R A m c l (i' + 1) d) := Asd.mk (by have := HRR.out; unfold tookO at this; rw [hO] at this; exact this)
        obtain ⟨n', hn', hch⟩ := chainL_go (x := x) (f := f) hO HLE.out
        have HN' := Asd.mk hn'
        have HLT := Asd.mk (operT_lt hO)
        clear hO hmem hxo hn'
        rw [show (some o).getD 0 = o from rfl]
        have HFD : Asd (Fr (fun k => k = R) w w2.drew) := Asd.mk HFW.out.drew
        have HED : Asd (w2.drew.heap[b4]? = some (.cells (exC x (.slice A' m' c')).toArray 26 (0, 0))) := Asd.mk HE2.out
        have HZD : Asd (w2.drew.heap[b3]? = some (.cells #[.int .i64 0, .int .i64 0, .int .i64 0, .int .i64 0, .string ⟨#[]⟩, .string ⟨#[]⟩, .string ⟨#[]⟩, .int .i64 0, .int .i64 0, .slice none 0 0] 26 (0, 0))) := Asd.mk HZ2.out
        have HHXD : Asd (Held (fun g => b3 < g ∧ g ≠ b4) w2.drew x.args (.slice A' m' c')) := Asd.mk (held_below HHX2.out (below_drewN' w2 1))
        have HRD : Asd (RdW w2.drew R A m c l (i' + 1) d) := Asd.mk (HR3.out.below (below_drewN' w2 1))
        have HB4D : Asd (b4 < w2.drew.heap.size) := Asd.mk (blk_lt HED.out)
        obtain ⟨e0, e1, e2, e3, e4, e5, e6, e7, e8, e9⟩ := ex_cells HED.out
        have k0 : w2.drew.cell? ⟨b0, 0, none⟩ = some (.func (.func F) first cap) := (blk_cell (blk_fr HP0.out HFD.out HN0.out) 0).trans rfl
        go_upto_region 5 with fail
        cases hfy : f (i' + 1) with
        | error er =>
          have HCE : Asd (chainP ops f l i = .error er) := Asd.mk (by rw [HCH.out, hch, hfy])
          have HFY := Asd.mk hfy
          clear hfy hch
          refine wp_region_held_drew (S := fun w' => w'.cell? ⟨b0, 0, none⟩ = some (.func (.func F) first cap) ∧ w'.cell? ⟨b4, 0, none⟩ = some (.int .i64 x.kind) ∧ w'.cell? ⟨b4, 1, none⟩ = some (.int .i64 x.op) ∧ w'.cell? ⟨b4, 2, none⟩ = some (.int .i64 x.v.kind) ∧ w'.cell? ⟨b4, 3, none⟩ = some (.int .i64 x.v.int) ∧ w'.cell? ⟨b4, 4, none⟩ = some (.string ⟨x.v.text.toArray⟩) ∧ w'.cell? ⟨b4, 5, none⟩ = some (.string ⟨x.table.toArray⟩) ∧ w'.cell? ⟨b4, 6, none⟩ = some (.string ⟨x.name.toArray⟩) ∧ w'.cell? ⟨b4, 7, none⟩ = some (.int .i64 x.col) ∧ w'.cell? ⟨b4, 8, none⟩ = some (.int .i64 x.ty) ∧ w'.cell? ⟨b4, 9, none⟩ = some (.slice A' m' c')) (by kernel_rfl) ⟨k0, e0, e1, e2, e3, e4, e5, e6, e7, e8, e9⟩ (fun hHeld => ?_)
          refine wpAnyH_take (i := 0) (oi := ({ dst := some 14, op := Op.move (Operand.tmp 5), type := 3, pos := "expr.go:127", after := #[], guard := none } : Oper)) (v := ?va0) rfl (by kernel_rfl) (by kernel_rfl) (by kernel_rfl) (fun _ _ _ h => h) (Or.inl ⟨by rfl, ?ha0⟩) (by assumption) ?ra0
          case ha0 => (intro w hSw; (try dsimp only at hSw); obtain ⟨g0, g1, g2, g3, g4, g5, g6, g7, g8, g9, g10⟩ := hSw; go_simp; try (with_reducible rfl))
          try simp only [Act.put, List.setIfInBounds_toArray, List.set_cons_zero, List.set_cons_succ]
          refine wpAnyH_take (i := 1) (oi := ({ dst := some 15, op := Op.load 26 (Operand.tmp 4), type := 26, pos := "expr.go:127", after := #[], guard := none } : Oper)) (v := ?va1) rfl (by kernel_rfl) (by kernel_rfl) (by kernel_rfl) (fun _ _ _ h => h) (Or.inl ⟨by rfl, ?ha1⟩) (by assumption) ?ra1
          case ha1 => (intro w hSw; (try dsimp only at hSw); obtain ⟨g0, g1, g2, g3, g4, g5, g6, g7, g8, g9, g10⟩ := hSw; go_simp; try (with_reducible rfl))
          try simp only [Act.put, List.setIfInBounds_toArray, List.set_cons_zero, List.set_cons_succ]
          refine wpAnyH_take (i := 2) (oi := ({ dst := some 16, op := Op.load 94 (Operand.tmp 0), type := 94, pos := "expr.go:127", after := #[], guard := none } : Oper)) (v := ?va2) rfl (by kernel_rfl) (by kernel_rfl) (by kernel_rfl) (fun _ _ _ h => h) (Or.inl ⟨by rfl, ?ha2⟩) (by assumption) ?ra2
          case ha2 => (intro w hSw; (try dsimp only at hSw); obtain ⟨g0, g1, g2, g3, g4, g5, g6, g7, g8, g9, g10⟩ := hSw; go_simp; try (with_reducible rfl))
          try simp only [Act.put, List.setIfInBounds_toArray, List.set_cons_zero, List.set_cons_succ]
          refine wpAnyH_ready (rs := [3]) (by kernel_rfl) (by simp) ?_
          refine AllReadyH.cons (o := ({ dst := some 17, op := Op.call { callee := Callee.value (Operand.tmp 16), args := #[], argTypes := #[] }, type := 26, pos := "expr.go:127", after := #[{ on := 2, ground := Ground.data }], guard := none } : Oper)) rfl (fun K hK => ?_) AllReadyH.nil
          go_simp
          refine (HOP.out _ HFD.out (i' + 1) HRD.out).mono ?_
          rintro e w3 ⟨hf3, hm⟩
          rw [HFY.out] at hm
          obtain ⟨N, rfl, hN⟩ := hm
          refine ⟨rfl, frR_trans HFD.out hf3, ?_⟩
          rw [HCE.out]
          exact ⟨N, rfl, hN⟩
        | ok yj =>
          obtain ⟨y, j'⟩ := yj
          have HCE : Asd (chainP ops f l i = chainL ops f l n' (pairE o x y) j') := Asd.mk (by rw [HCH.out, hch, hfy])
          have HFY := Asd.mk hfy
          have HJ := Asd.mk (HAH.out _ _ _ hfy)
          clear hfy hch
          refine wp_region_held_drew (S := fun w' => w'.cell? ⟨b0, 0, none⟩ = some (.func (.func F) first cap)) (by kernel_rfl) k0 (fun hHeld => ?_)
          refine wpAnyH_take (i := 0) (oi := ({ dst := some 14, op := Op.move (Operand.tmp 5), type := 3, pos := "expr.go:127", after := #[], guard := none } : Oper)) (v := ?vb0) rfl (by kernel_rfl) (by kernel_rfl) (by kernel_rfl) (fun _ _ _ h => h) (Or.inl ⟨by rfl, ?hb0⟩) (by assumption) ?rb0
          case hb0 => (intro w hSw; (try dsimp only at hSw); go_simp; try (with_reducible rfl))
          try simp only [Act.put, List.setIfInBounds_toArray, List.set_cons_zero, List.set_cons_succ]
          refine wpAnyH_take (i := 2) (oi := ({ dst := some 16, op := Op.load 94 (Operand.tmp 0), type := 94, pos := "expr.go:127", after := #[], guard := none } : Oper)) (v := ?vb2) rfl (by kernel_rfl) (by kernel_rfl) (by kernel_rfl) (fun _ _ _ h => h) (Or.inl ⟨by rfl, ?hb2⟩) (by assumption) ?rb2
          case hb2 => (intro w hSw; (try dsimp only at hSw); go_simp; try (with_reducible rfl))
          try simp only [Act.put, List.setIfInBounds_toArray, List.set_cons_zero, List.set_cons_succ]
          refine wpAnyH_ready (rs := [1, 3]) (by kernel_rfl) (by simp) ?_
          refine AllReadyH.cons (o := ({ dst := some 15, op := Op.load 26 (Operand.tmp 4), type := 26, pos := "expr.go:127", after := #[], guard := none } : Oper)) rfl ?aq (AllReadyH.cons (o := ({ dst := some 17, op := Op.call { callee := Callee.value (Operand.tmp 16), args := #[], argTypes := #[] }, type := 26, pos := "expr.go:127", after := #[{ on := 2, ground := Ground.data }], guard := none } : Oper)) rfl ?bq AllReadyH.nil)
          case aq =>
            intro K hK
            go_simp
            go_wp2_with fail
            refine hK.out _ _ (k0) (fun hHeld => ?_)
            clear hK K
            try simp only [Act.put, List.setIfInBounds_toArray, List.set_cons_zero, List.set_cons_succ]
            refine wpAnyH_ready (rs := [3]) (by kernel_rfl) (by simp) ?_
            refine AllReadyH.cons (o := ({ dst := some 17, op := Op.call { callee := Callee.value (Operand.tmp 16), args := #[], argTypes := #[] }, type := 26, pos := "expr.go:127", after := #[{ on := 2, ground := Ground.data }], guard := none } : Oper)) rfl (fun K hK => ?_) AllReadyH.nil
            go_simp
            refine (HOP.out _ HFD.out (i' + 1) HRD.out).mono ?_
            rintro e w3 ⟨hf3, hm⟩
            rw [HFY.out] at hm
            obtain ⟨s3, rfl, hh3, hr3⟩ := hm
            obtain ⟨A3, m3, c3, rfl⟩ := held_slice hh3
            unfold exV
            have HF3 := Asd.mk (frR_trans HFD.out hf3)
            have HE3 : Asd (w3.heap[b4]? = some (.cells (exC x (.slice A' m' c')).toArray 26 (0, 0))) := Asd.mk (blk_fr HED.out hf3 HN4.out)
            have HZ3 : Asd (w3.heap[b3]? = some (.cells #[.int .i64 0, .int .i64 0, .int .i64 0, .int .i64 0, .string ⟨#[]⟩, .string ⟨#[]⟩, .string ⟨#[]⟩, .int .i64 0, .int .i64 0, .slice none 0 0] 26 (0, 0))) := Asd.mk (blk_fr HZD.out hf3 HN3.out)
            have HHX3 := Asd.mk (held_frS HHXD.out hf3 (fun g hg h => by have := HNR.out; have h1 := hg.1; have h2 : g = R := h; omega))
            have HHY3 : Asd (Held (fun g => b3 < g ∧ g ≠ b4) w3 y.args (.slice A3 m3 c3)) := Asd.mk (held_mono hh3 fun g _ hg => by have h1 : w2.drew.heap.size ≤ g := hg; have := HB4D.out; have := HGE.out; exact ⟨by omega, by omega⟩)
            have HR4 := Asd.mk hr3
            clear hf3 hh3 hr3
            go_wp2_with fail
            refine hK.out _ _ ((blk_cell (blk_fr HP0.out HF3.out HN0.out) 0).trans rfl) (fun hHeld => ?_)
            clear hK K
            try simp only [Act.put, List.setIfInBounds_toArray, List.set_cons_zero, List.set_cons_succ]
            refine wpAnyH_ready (rs := [4]) (by kernel_rfl) (by simp) ?_
            refine AllReadyH.cons (o := ({ dst := some 18, op := Op.call { callee := Callee.value (Operand.func 101), args := #[Operand.tmp 14, Operand.tmp 15, Operand.tmp 17], argTypes := #[3, 26, 26] }, type := 26, pos := "expr.go:127", after := #[{ on := 0, ground := Ground.data }, { on := 1, ground := Ground.data }, { on := 3, ground := Ground.data }, { on := 3, ground := Ground.chain }], guard := none } : Oper)) rfl (fun K hK => ?_) AllReadyH.nil
            go_simp
            refine (pair_calls o x y (.slice A' m' c') (.slice A3 m3 c3) w3 HHX3.out HHY3.out).mono ?_
            rintro e w4 ⟨⟨s4, rfl, hh4⟩, hb4⟩
            obtain ⟨A4, m4, c4, rfl⟩ := held_slice hh4
            unfold exV
            have HF4 := Asd.mk (below_frR HF3.out hb4)
            have HE4 := Asd.mk (blk_below hb4 HE3.out)
            have HZ4 := Asd.mk (blk_below hb4 HZ3.out)
            have HH4 : Asd (Held (fun g => b3 < g ∧ g ≠ b4) w4 (pairE o x y).args (.slice A4 m4 c4)) := Asd.mk (held_mono hh4 fun g _ hg => by rcases hg with hg | hg; exact hg; have := blk_lt HE3.out; have := HGE.out; exact ⟨by omega, by omega⟩)
            have HR5 := Asd.mk (HR4.out.below hb4)
            clear hb4 hh4
            go_wp2_with fail
            refine hK.out _ _ ((blk_cell (blk_fr HP0.out HF4.out HN0.out) 0).trans rfl) (fun hHeld => ?_)
            clear hK K
            try simp only [Act.put, List.setIfInBounds_toArray, List.set_cons_zero, List.set_cons_succ]
            obtain ⟨e0, e1, e2, e3, e4, e5, e6, e7, e8, e9⟩ := ex_cells HE4.out
            have z0 := blk_frozen HE4.out 0
            have z1 := blk_frozen HE4.out 1
            have z2 := blk_frozen HE4.out 2
            have z3 := blk_frozen HE4.out 3
            have z4 := blk_frozen HE4.out 4
            have z5 := blk_frozen HE4.out 5
            have z6 := blk_frozen HE4.out 6
            have z7 := blk_frozen HE4.out 7
            have z8 := blk_frozen HE4.out 8
            have z9 := blk_frozen HE4.out 9
            have HB0 : Asd (b0 ≠ b4) := Asd.mk (by have := HB3.out; have := HGE.out; omega)
            have HP5 : Asd (Fr (fun k => k = b4) w4 ((((((((((w4.setCell ⟨b4, 0, none⟩ (.int .i64 (pairE o x y).kind)).setCell ⟨b4, 1, none⟩ (.int .i64 (pairE o x y).op)).setCell ⟨b4, 2, none⟩ (.int .i64 (pairE o x y).v.kind)).setCell ⟨b4, 3, none⟩ (.int .i64 (pairE o x y).v.int)).setCell ⟨b4, 4, none⟩ (.string ⟨(pairE o x y).v.text.toArray⟩)).setCell ⟨b4, 5, none⟩ (.string ⟨(pairE o x y).table.toArray⟩)).setCell ⟨b4, 6, none⟩ (.string ⟨(pairE o x y).name.toArray⟩)).setCell ⟨b4, 7, none⟩ (.int .i64 (pairE o x y).col)).setCell ⟨b4, 8, none⟩ (.int .i64 (pairE o x y).ty)).setCell ⟨b4, 9, none⟩ (.slice A4 m4 c4))) := Asd.mk (put10_fr (W := w4) (b := b4) (S := fun k => k = b4) rfl _ _ _ _ _ _ _ _ _ _)
            have HE5 : Asd (((((((((((w4.setCell ⟨b4, 0, none⟩ (.int .i64 (pairE o x y).kind)).setCell ⟨b4, 1, none⟩ (.int .i64 (pairE o x y).op)).setCell ⟨b4, 2, none⟩ (.int .i64 (pairE o x y).v.kind)).setCell ⟨b4, 3, none⟩ (.int .i64 (pairE o x y).v.int)).setCell ⟨b4, 4, none⟩ (.string ⟨(pairE o x y).v.text.toArray⟩)).setCell ⟨b4, 5, none⟩ (.string ⟨(pairE o x y).table.toArray⟩)).setCell ⟨b4, 6, none⟩ (.string ⟨(pairE o x y).name.toArray⟩)).setCell ⟨b4, 7, none⟩ (.int .i64 (pairE o x y).col)).setCell ⟨b4, 8, none⟩ (.int .i64 (pairE o x y).ty)).setCell ⟨b4, 9, none⟩ (.slice A4 m4 c4)).heap[b4]? = some (.cells (exC (pairE o x y) (.slice A4 m4 c4)).toArray 26 (0, 0))) := Asd.mk (put10_blk HE4.out _ _ _ _ _ _ _ _ _ _)
            refine wpAnyH_ready (rs := [5]) (by kernel_rfl) (by simp) ?_
            refine AllReadyH.cons (o := ({ dst := none, op := Op.store 26 (Operand.tmp 4) (Operand.tmp 18), type := 0, pos := "expr.go:127", after := #[{ on := 4, ground := Ground.data }, { on := 4, ground := Ground.chain }, { on := 0, ground := Ground.phase }, { on := 1, ground := Ground.phase }, { on := 2, ground := Ground.phase }, { on := 3, ground := Ground.phase }, { on := 4, ground := Ground.phase }], guard := none } : Oper)) rfl (fun K hK => ?_) AllReadyH.nil
            go_simp
            go_wp2_with fail
            refine hK.out _ _ ((blk_cell (blk_fr (blk_fr HP0.out HF4.out HN0.out) HP5.out HB0.out) 0).trans rfl) (fun hHeld => ?_)
            clear hK K
            try simp only [Act.put, List.setIfInBounds_toArray, List.set_cons_zero, List.set_cons_succ]
            refine wpAnyH_done (by kernel_rfl) ?_ _
            go_wp2
            go_roundw
            case rel =>
              have hff : Fr (fun k => k = R) w _ := fr_new HF4.out HP5.out (fun k hk => .inr (by have h1 : k = b4 := hk; have := HB3.out; have := HGE.out; omega))
              have hrr := HH.out.move hff HR5.out.le (blk_fr HR5.out.blk HP5.out (fun h => HN4.out h.symm))
              exact ⟨n', j', pairE o x y, A4, m4, c4, HCE, ⟨by have := HN'.out; have := HJ.out; omega⟩, ⟨hff⟩, ⟨hrr⟩, ⟨held_frS HH4.out HP5.out (fun g hg h => hg.2 h)⟩, HE5, ⟨blk_fr HZ4.out HP5.out (by have := HGE.out; omega)⟩⟩
            case measure =>
              have hff : Fr (fun k => k = R) w _ := fr_new HF4.out HP5.out (fun k hk => .inr (by have h1 : k = b4 := hk; have := HB3.out; have := HGE.out; omega))
              have hrr := HH.out.move hff HR5.out.le (blk_fr HR5.out.blk HP5.out (fun h => HN4.out h.symm))
              rw [toEnd_eq hrr, HTE.out]
              have := HJ.out; have := HLT.out; omega
          case bq =>
            intro K hK
            go_simp
            refine (HOP.out _ HFD.out (i' + 1) HRD.out).mono ?_
            rintro e w3 ⟨hf3, hm⟩
            rw [HFY.out] at hm
            obtain ⟨s3, rfl, hh3, hr3⟩ := hm
            obtain ⟨A3, m3, c3, rfl⟩ := held_slice hh3
            unfold exV
            have HF3 := Asd.mk (frR_trans HFD.out hf3)
            have HE3 : Asd (w3.heap[b4]? = some (.cells (exC x (.slice A' m' c')).toArray 26 (0, 0))) := Asd.mk (blk_fr HED.out hf3 HN4.out)
            have HZ3 : Asd (w3.heap[b3]? = some (.cells #[.int .i64 0, .int .i64 0, .int .i64 0, .int .i64 0, .string ⟨#[]⟩, .string ⟨#[]⟩, .string ⟨#[]⟩, .int .i64 0, .int .i64 0, .slice none 0 0] 26 (0, 0))) := Asd.mk (blk_fr HZD.out hf3 HN3.out)
            have HHX3 := Asd.mk (held_frS HHXD.out hf3 (fun g hg h => by have := HNR.out; have h1 := hg.1; have h2 : g = R := h; omega))
            have HHY3 : Asd (Held (fun g => b3 < g ∧ g ≠ b4) w3 y.args (.slice A3 m3 c3)) := Asd.mk (held_mono hh3 fun g _ hg => by have h1 : w2.drew.heap.size ≤ g := hg; have := HB4D.out; have := HGE.out; exact ⟨by omega, by omega⟩)
            have HR4 := Asd.mk hr3
            clear hf3 hh3 hr3
            go_wp2_with fail
            refine hK.out _ _ ((blk_cell (blk_fr HP0.out HF3.out HN0.out) 0).trans rfl) (fun hHeld => ?_)
            clear hK K
            try simp only [Act.put, List.setIfInBounds_toArray, List.set_cons_zero, List.set_cons_succ]
            obtain ⟨e0, e1, e2, e3, e4, e5, e6, e7, e8, e9⟩ := ex_cells HE3.out
            refine wpAnyH_ready (rs := [1]) (by kernel_rfl) (by simp) ?_
            refine AllReadyH.cons (o := ({ dst := some 15, op := Op.load 26 (Operand.tmp 4), type := 26, pos := "expr.go:127", after := #[], guard := none } : Oper)) rfl (fun K hK => ?_) AllReadyH.nil
            go_simp
            go_wp2_with fail
            refine hK.out _ _ ((blk_cell (blk_fr HP0.out HF3.out HN0.out) 0).trans rfl) (fun hHeld => ?_)
            clear hK K
            try simp only [Act.put, List.setIfInBounds_toArray, List.set_cons_zero, List.set_cons_succ]
            refine wpAnyH_ready (rs := [4]) (by kernel_rfl) (by simp) ?_
            refine AllReadyH.cons (o := ({ dst := some 18, op := Op.call { callee := Callee.value (Operand.func 101), args := #[Operand.tmp 14, Operand.tmp 15, Operand.tmp 17], argTypes := #[3, 26, 26] }, type := 26, pos := "expr.go:127", after := #[{ on := 0, ground := Ground.data }, { on := 1, ground := Ground.data }, { on := 3, ground := Ground.data }, { on := 3, ground := Ground.chain }], guard := none } : Oper)) rfl (fun K hK => ?_) AllReadyH.nil
            go_simp
            refine (pair_calls o x y (.slice A' m' c') (.slice A3 m3 c3) w3 HHX3.out HHY3.out).mono ?_
            rintro e w4 ⟨⟨s4, rfl, hh4⟩, hb4⟩
            obtain ⟨A4, m4, c4, rfl⟩ := held_slice hh4
            unfold exV
            have HF4 := Asd.mk (below_frR HF3.out hb4)
            have HE4 := Asd.mk (blk_below hb4 HE3.out)
            have HZ4 := Asd.mk (blk_below hb4 HZ3.out)
            have HH4 : Asd (Held (fun g => b3 < g ∧ g ≠ b4) w4 (pairE o x y).args (.slice A4 m4 c4)) := Asd.mk (held_mono hh4 fun g _ hg => by rcases hg with hg | hg; exact hg; have := blk_lt HE3.out; have := HGE.out; exact ⟨by omega, by omega⟩)
            have HR5 := Asd.mk (HR4.out.below hb4)
            clear hb4 hh4
            go_wp2_with fail
            refine hK.out _ _ ((blk_cell (blk_fr HP0.out HF4.out HN0.out) 0).trans rfl) (fun hHeld => ?_)
            clear hK K
            try simp only [Act.put, List.setIfInBounds_toArray, List.set_cons_zero, List.set_cons_succ]
            obtain ⟨e0, e1, e2, e3, e4, e5, e6, e7, e8, e9⟩ := ex_cells HE4.out
            have z0 := blk_frozen HE4.out 0
            have z1 := blk_frozen HE4.out 1
            have z2 := blk_frozen HE4.out 2
            have z3 := blk_frozen HE4.out 3
            have z4 := blk_frozen HE4.out 4
            have z5 := blk_frozen HE4.out 5
            have z6 := blk_frozen HE4.out 6
            have z7 := blk_frozen HE4.out 7
            have z8 := blk_frozen HE4.out 8
            have z9 := blk_frozen HE4.out 9
            have HB0 : Asd (b0 ≠ b4) := Asd.mk (by have := HB3.out; have := HGE.out; omega)
            have HP5 : Asd (Fr (fun k => k = b4) w4 ((((((((((w4.setCell ⟨b4, 0, none⟩ (.int .i64 (pairE o x y).kind)).setCell ⟨b4, 1, none⟩ (.int .i64 (pairE o x y).op)).setCell ⟨b4, 2, none⟩ (.int .i64 (pairE o x y).v.kind)).setCell ⟨b4, 3, none⟩ (.int .i64 (pairE o x y).v.int)).setCell ⟨b4, 4, none⟩ (.string ⟨(pairE o x y).v.text.toArray⟩)).setCell ⟨b4, 5, none⟩ (.string ⟨(pairE o x y).table.toArray⟩)).setCell ⟨b4, 6, none⟩ (.string ⟨(pairE o x y).name.toArray⟩)).setCell ⟨b4, 7, none⟩ (.int .i64 (pairE o x y).col)).setCell ⟨b4, 8, none⟩ (.int .i64 (pairE o x y).ty)).setCell ⟨b4, 9, none⟩ (.slice A4 m4 c4))) := Asd.mk (put10_fr (W := w4) (b := b4) (S := fun k => k = b4) rfl _ _ _ _ _ _ _ _ _ _)
            have HE5 : Asd (((((((((((w4.setCell ⟨b4, 0, none⟩ (.int .i64 (pairE o x y).kind)).setCell ⟨b4, 1, none⟩ (.int .i64 (pairE o x y).op)).setCell ⟨b4, 2, none⟩ (.int .i64 (pairE o x y).v.kind)).setCell ⟨b4, 3, none⟩ (.int .i64 (pairE o x y).v.int)).setCell ⟨b4, 4, none⟩ (.string ⟨(pairE o x y).v.text.toArray⟩)).setCell ⟨b4, 5, none⟩ (.string ⟨(pairE o x y).table.toArray⟩)).setCell ⟨b4, 6, none⟩ (.string ⟨(pairE o x y).name.toArray⟩)).setCell ⟨b4, 7, none⟩ (.int .i64 (pairE o x y).col)).setCell ⟨b4, 8, none⟩ (.int .i64 (pairE o x y).ty)).setCell ⟨b4, 9, none⟩ (.slice A4 m4 c4)).heap[b4]? = some (.cells (exC (pairE o x y) (.slice A4 m4 c4)).toArray 26 (0, 0))) := Asd.mk (put10_blk HE4.out _ _ _ _ _ _ _ _ _ _)
            refine wpAnyH_ready (rs := [5]) (by kernel_rfl) (by simp) ?_
            refine AllReadyH.cons (o := ({ dst := none, op := Op.store 26 (Operand.tmp 4) (Operand.tmp 18), type := 0, pos := "expr.go:127", after := #[{ on := 4, ground := Ground.data }, { on := 4, ground := Ground.chain }, { on := 0, ground := Ground.phase }, { on := 1, ground := Ground.phase }, { on := 2, ground := Ground.phase }, { on := 3, ground := Ground.phase }, { on := 4, ground := Ground.phase }], guard := none } : Oper)) rfl (fun K hK => ?_) AllReadyH.nil
            go_simp
            go_wp2_with fail
            refine hK.out _ _ ((blk_cell (blk_fr (blk_fr HP0.out HF4.out HN0.out) HP5.out HB0.out) 0).trans rfl) (fun hHeld => ?_)
            clear hK K
            try simp only [Act.put, List.setIfInBounds_toArray, List.set_cons_zero, List.set_cons_succ]
            refine wpAnyH_done (by kernel_rfl) ?_ _
            go_wp2
            go_roundw
            case rel =>
              have hff : Fr (fun k => k = R) w _ := fr_new HF4.out HP5.out (fun k hk => .inr (by have h1 : k = b4 := hk; have := HB3.out; have := HGE.out; omega))
              have hrr := HH.out.move hff HR5.out.le (blk_fr HR5.out.blk HP5.out (fun h => HN4.out h.symm))
              exact ⟨n', j', pairE o x y, A4, m4, c4, HCE, ⟨by have := HN'.out; have := HJ.out; omega⟩, ⟨hff⟩, ⟨hrr⟩, ⟨held_frS HH4.out HP5.out (fun g hg h => hg.2 h)⟩, HE5, ⟨blk_fr HZ4.out HP5.out (by have := HGE.out; omega)⟩⟩
            case measure =>
              have hff : Fr (fun k => k = R) w _ := fr_new HF4.out HP5.out (fun k hk => .inr (by have h1 : k = b4 := hk; have := HB3.out; have := HGE.out; omega))
              have hrr := HH.out.move hff HR5.out.le (blk_fr HR5.out.blk HP5.out (fun h => HN4.out h.symm))
              rw [toEnd_eq hrr, HTE.out]
              have := HJ.out; have := HLT.out; omega

structure SgOK (ops : List Sg) : Prop where
  pos : 0 < ops.length
  kind : ∀ x ∈ ops, 1 ≤ x.1
  op : ∀ x ∈ ops, x.2.2 ≠ 0
  few : ops.length ≤ 10
theorem sgOr_ok : SgOK sgOr := ⟨by decide, by decide, by decide, by decide⟩
theorem sgAnd_ok : SgOK sgAnd := ⟨by decide, by decide, by decide, by decide⟩
theorem sgCat_ok : SgOK sgCat := ⟨by decide, by decide, by decide, by decide⟩
theorem sgSum_ok : SgOK sgSum := ⟨by decide, by decide, by decide, by decide⟩
theorem sgProd_ok : SgOK sgProd := ⟨by decide, by decide, by decide, by decide⟩
theorem isGo_chain : IsGo 99 := isGo_of Tryz.func99 (by kernel_rfl) rfl

def SgN (R : Nat) (W : World) (ops : List Sg) (v : Value) : Prop := SgA W ops v ∧ ∀ g A m, v = .slice (some ⟨g, 0, none⟩) A m → g ≠ R
def ChainAt (R : Nat) (F : FuncId) (first cap : Array Value) (ops : List Sg) (cap' : Array Value) (w : World) : Prop :=
  ∃ b0 b1 b2 vops, cap' = #[.pointer (some ⟨b0, 0, none⟩), .pointer (some ⟨b1, 0, none⟩), .pointer (some ⟨b2, 0, none⟩)] ∧ w.heap[b0]? = some (.cells #[.func (.func F) first cap] 94 (0, 0)) ∧ w.heap[b1]? = some (.cells #[.pointer (some ⟨R, 0, none⟩)] 91 (0, 0)) ∧
    w.heap[b2]? = some (.cells #[vops] 115 (0, 0)) ∧ b0 ≠ R ∧ b1 ≠ R ∧ b2 ≠ R ∧ SgN R w ops vops
theorem SgN.frS {R : Nat} {S : Nat → Prop} {w w' : World} {ops : List Sg} {v : Value} (h : SgN R w ops v) (hf : Fr S w w') (hS : ∀ g A m, v = .slice (some ⟨g, 0, none⟩) A m → ¬ S g) : SgN R w' ops v := by
  obtain ⟨⟨g, c, rfl, hc⟩, hg⟩ := h
  have hgS := hS g _ _ rfl
  refine ⟨⟨g, c, rfl, fun i hi => ?_⟩, hg⟩
  obtain ⟨a, b, d⟩ := hc i hi
  exact ⟨cell_frS hf hgS a, cell_frS hf hgS b, cell_frS hf hgS d⟩
theorem ChainAt.fr {R : Nat} {F : FuncId} {first cap : Array Value} {ops : List Sg} {cap' : Array Value} {w w' : World} (h : ChainAt R F first cap ops cap' w) (hf : Fr (fun k => k = R) w w') : ChainAt R F first cap ops cap' w' := by
  obtain ⟨b0, b1, b2, vops, rfl, h0, h1, h2, n0, n1, n2, hs⟩ := h
  exact ⟨b0, b1, b2, vops, rfl, blk_fr h0 hf n0, blk_fr h1 hf n1, blk_fr h2 hf n2, n0, n1, n2, hs.frS hf hs.2⟩
theorem ChainAt.below {R : Nat} {F : FuncId} {first cap : Array Value} {ops : List Sg} {cap' : Array Value} {w w' : World} (h : ChainAt R F first cap ops cap' w) (hb : Below w.heap.size w w') : ChainAt R F first cap ops cap' w' := h.fr (Fr.of_below hb)
theorem ChainAt.store {R : Nat} {F : FuncId} {first cap : Array Value} {ops : List Sg} {cap' : Array Value} {w : World} (h : ChainAt R F first cap ops cap' w) (hp : 0 < ops.length) {b : Nat} (hb : w.heap[b]? = some (.cells #[.nilFunc] 94 (0, 0))) (v : Value) : ChainAt R F first cap ops cap' (w.setCell ⟨b, 0, none⟩ v) := by
  have hf := Fr.setCell (S := fun k => k = b) (Fr.refl _ w) (p := ⟨b, 0, none⟩) rfl v
  obtain ⟨b0, b1, b2, vops, rfl, h0, h1, h2, n0, n1, n2, hs⟩ := h
  have m0 : ¬ b0 = b := by rintro rfl; rw [hb] at h0; simp at h0
  have m1 : ¬ b1 = b := by rintro rfl; rw [hb] at h1; simp at h1
  have m2 : ¬ b2 = b := by
    rintro rfl
    obtain ⟨⟨g, c, rfl, _⟩, _⟩ := hs
    rw [hb] at h2; simp at h2
  refine ⟨b0, b1, b2, vops, rfl, blk_fr h0 hf m0, blk_fr h1 hf m1, blk_fr h2 hf m2, n0, n1, n2, hs.frS hf ?_⟩
  intro g A m e
  rintro rfl
  obtain ⟨⟨g', c, rfl, hc⟩, _⟩ := hs
  injection e with e1
  injection e1 with e1
  injection e1 with e1
  subst e1
  have := (hc 0 hp).1
  rw [blk_cell hb] at this
  simp at this

set_option maxRecDepth 100000 in
theorem chain_calls (F : FuncId) (first cap : Array Value) (R : Nat) (ops : List Sg) (vops : Value) (w : World) {A0 : Option Addr} {m0 c0 i0 d0 : Nat} (hRd : w.heap[R]? = some (rdO A0 m0 c0 i0 d0)) (ho : 0 < ops.length) (hv : SgA w ops vops) :
    Calls Tryz.prog 82 #[.pointer (some ⟨R, 0, none⟩), vops, .func (.func F) first cap] w fun e w' => (∃ cap', e = .returned (.func (.func 99) #[] cap') ∧ ChainAt R F first cap ops cap' w') ∧ Below w.heap.size w w' := by
  have HV := Asd.mk hv
  have hR := blk_lt hRd
  have HRD := Asd.mk hRd
  have HO := Asd.mk ho
  clear hRd ho
  obtain ⟨g, cc, rfl, _⟩ := hv
  have hmf := mk_func
  have hst := st_func
  go_enter Tryz.func82, Tryz.ntmps82
  go_wp2
  go_ret
  have hb := below_alloc (below_alloc (below_alloc (Below.refl _ w) (.cells #[.pointer (some ⟨R, 0, none⟩)] 91)) (.cells #[.slice (some ⟨g, 0, none⟩) ops.length cc] 115)) (.cells #[.func (.func F) first cap] 94)
  refine ⟨⟨#[.pointer (some ⟨w.heap.size + 1 + 1, 0, none⟩), .pointer (some ⟨w.heap.size, 0, none⟩), .pointer (some ⟨w.heap.size + 1, 0, none⟩)], rfl, ?_⟩, hb⟩
  have p0 := nb2 w (.cells #[.pointer (some ⟨R, 0, none⟩)] 91) (.cells #[.slice (some ⟨g, 0, none⟩) ops.length cc] 115) (.cells #[.func (.func F) first cap] 94)
  have p1 := blk_alloc (blk_alloc (blk_new w (.cells #[.pointer (some ⟨R, 0, none⟩)] 91)) (.cells #[.slice (some ⟨g, 0, none⟩) ops.length cc] 115)) (.cells #[.func (.func F) first cap] 94)
  have p2 := blk_alloc (nb1 w (.cells #[.pointer (some ⟨R, 0, none⟩)] 91) (.cells #[.slice (some ⟨g, 0, none⟩) ops.length cc] 115)) (.cells #[.func (.func F) first cap] 94)
  refine ⟨_, _, _, _, rfl, p0, p1, p2, by omega, by omega, by omega, HV.out.below hb, ?_⟩
  intro g' A m e
  rintro rfl
  obtain ⟨g2, c2, he, hc⟩ := HV.out
  rw [e] at he
  injection he with he1
  injection he1 with he1
  injection he1 with he1
  subst he1
  have := (hc 0 HO.out).1
  rw [blk_cell HRD.out] at this
  simp at this
theorem ChainAt.op {R : Nat} {F : FuncId} {first cap : Array Value} {ops : List Sg} {cap' : Array Value} {w : World} (h : ChainAt R F first cap ops cap' w) (ho : SgOK ops) (hgo : IsGo F) {A : Option Addr} {m c : Nat} {l : Toks} {f : Nat → Res Ex} {d : Nat} (hnear : Near l) (hf : Ahd f) (hop : OpOK F (first ++ cap) R A m c l f d w) : OpOK 99 cap' R A m c l (chainP ops f l) d w := by
  intro w' hfw i hrd
  have h' := h.fr hfw
  obtain ⟨b0, b1, b2, vops, rfl, h0, h1, h2, n0, n1, n2, hs⟩ := h'
  exact chain1_calls F first cap b0 b1 b2 R A m c l f i d ops vops w' hnear hf ho.pos ho.kind ho.op ho.few h0 h1 h2 n0 n1 n2 hs.1 hgo (hop.fr hfw) hrd
end Go.Proofs.YtbeeaikilcnpgaaGreatDoor.Exp

namespace Go.Proofs.YtbeeaikilcnpgaaGreatDoor.Cat
open Go.RowKit Go.Proofs.YtbeeaikilcnpgaaGreatDoor.Base
def okAt (i : Nat) (c : Nat) : Bool := (97 ≤ c && c ≤ 122) || c == 95 || (i != 0 && 48 ≤ c && c ≤ 57)
def byteAt (s : ByteArray) (i : Nat) : Nat := (s.data.toList.getD i 0).toNat
theorem byteAt_eq (s : ByteArray) (i : Nat) (h : i < s.size) : s[i].toNat = byteAt s i := by
  unfold byteAt
  have h' : i < s.data.size := h
  simp only [List.getD, Array.getElem?_toList, Array.getElem?_eq_getElem h', Option.getD_some]
  rfl

theorem ok_cases {i c : Nat} (h : okAt i c = true) : (97 ≤ c ∧ c ≤ 122) ∨ c = 95 ∨ (i ≠ 0 ∧ 48 ≤ c ∧ c ≤ 57) := by
  simp [okAt] at h; omega
theorem bad_cases {i c : Nat} (h : okAt i c = false) : (c < 97 ∨ 122 < c) ∧ c ≠ 95 ∧ (i = 0 ∨ c < 48 ∨ 57 < c) := by
  simp [okAt] at h; omega

theorem name_bad (s : ByteArray) (w : World) (q : Nat) (hs : s.size ≤ 140737488351232) (hq : q < s.size) (hb : okAt q (byteAt s q) = false) (hg : ∀ i, i < q → okAt i (byteAt s i) = true) :
    Calls Tryz.prog 146 #[.string s] w fun e w' => e = .returned (.int .i64 3) ∧ w = w' := by
  have HB := Asd.mk hb
  have HG := Asd.mk hg
  clear hb hg
  go_enter Tryz.func146, Tryz.ntmps146
  go_wp2
  go_loop [7] (fun i => ∃ k : Nat, k ≤ q ∧ i = .int .i64 (k : Int)) (fun i => s.size - (intOf i).toNat)
  case atStart => exact ⟨0, by omega, rfl⟩
  case round =>
    obtain ⟨k, hk, rfl⟩ := hrel
    have hbk := byteAt_eq s k (by omega)
    by_cases hlt : k < q
    · have hok := HG.out k hlt
      generalize byteAt s k = c at hok hbk
      rcases ok_cases hok with ⟨h1, h2⟩ | h1 | ⟨h0, h1, h2⟩
      · clear hok
        go_wp2
        go_round
        case rel => exact ⟨k + 1, by omega, by go_num⟩
        case measure => simp [intOf]; omega
      · subst h1
        clear hok
        go_wp2
        go_round
        case rel => exact ⟨k + 1, by omega, by go_num⟩
        case measure => simp [intOf]; omega
      · have h3 : ((c : Int) != 95) = true := by rw [bne_iff_ne]; omega
        have h4 : ((k : Int) == 0) = false := beq_eq_false_iff_ne.2 (by omega)
        clear hok h0
        go_wp2
        go_round
        case rel => exact ⟨k + 1, by omega, by go_num⟩
        case measure => simp [intOf]; omega
    · obtain rfl : k = q := by omega
      have hok := HB.out
      generalize byteAt s k = c at hok hbk
      obtain ⟨h1, h2, h3⟩ := bad_cases hok
      have h4 : ((c : Int) != 95) = true := by rw [bne_iff_ne]; omega
      clear hok h2 HB HG
      rcases h1 with h1 | h1
      all_goals
        by_cases h0 : k = 0
        · subst h0
          go_wp2
          go_ret
          exact ⟨rfl, rfl⟩
        · have h5 : ((k : Int) == 0) = false := beq_eq_false_iff_ne.2 (by omega)
          rcases h3 with h3 | h3 | h3
          · exact absurd h3 h0
          · clear h0
            first
              | (exfalso; omega)
              | (go_wp2
                 go_ret
                 exact ⟨rfl, rfl⟩)
          · clear h0
            go_wp2
            go_ret
            exact ⟨rfl, rfl⟩

def kwText : List UInt8 := [32, 115, 101, 108, 101, 99, 116, 32, 100, 105, 115, 116, 105, 110, 99, 116, 32, 102, 114, 111, 109, 32, 106, 111, 105, 110, 32, 111, 110, 32, 119, 104, 101, 114, 101, 32, 103, 114, 111, 117, 112, 32, 98, 121, 32, 104, 97, 118, 105, 110, 103, 32, 111, 114, 100, 101, 114, 32, 97, 115, 99, 32, 100, 101, 115, 99, 32, 108, 105, 109, 105, 116, 32, 111, 102, 102, 115, 101, 116, 32, 97, 115, 32, 105, 110, 115, 101, 114, 116, 32, 105, 110, 116, 111, 32, 118, 97, 108, 117, 101, 115, 32, 117, 112, 100, 97, 116, 101, 32, 115, 101, 116, 32, 100, 101, 108, 101, 116, 101, 32, 99, 114, 101, 97, 116, 101, 32, 116, 97, 98, 108, 101, 32, 117, 110, 105, 113, 117, 101, 32, 105, 110, 100, 101, 120, 32, 100, 114, 111, 112, 32, 110, 111, 116, 32, 110, 117, 108, 108, 32, 105, 115, 32, 97, 110, 100, 32, 111, 114, 32, 116, 114, 117, 101, 32, 102, 97, 108, 115, 101, 32, 98, 101, 103, 105, 110, 32, 99, 111, 109, 109, 105, 116, 32, 114, 111, 108, 108, 98, 97, 99, 107, 32, 116, 111, 32, 115, 97, 118, 101, 112, 111, 105, 110, 116, 32, 114, 101, 108, 101, 97, 115, 101, 32, 105, 110, 116, 32, 116, 101, 120, 116, 32, 98, 108, 111, 98, 32, 98, 111, 111, 108, 32]
def kwList : List (List UInt8) := [[115, 101, 108, 101, 99, 116], [100, 105, 115, 116, 105, 110, 99, 116], [102, 114, 111, 109], [106, 111, 105, 110], [111, 110], [119, 104, 101, 114, 101], [103, 114, 111, 117, 112], [98, 121], [104, 97, 118, 105, 110, 103], [111, 114, 100, 101, 114], [97, 115, 99], [100, 101, 115, 99], [108, 105, 109, 105, 116], [111, 102, 102, 115, 101, 116], [97, 115], [105, 110, 115, 101, 114, 116], [105, 110, 116, 111], [118, 97, 108, 117, 101, 115], [117, 112, 100, 97, 116, 101], [115, 101, 116], [100, 101, 108, 101, 116, 101], [99, 114, 101, 97, 116, 101], [116, 97, 98, 108, 101], [117, 110, 105, 113, 117, 101], [105, 110, 100, 101, 120], [100, 114, 111, 112], [110, 111, 116], [110, 117, 108, 108], [105, 115], [97, 110, 100], [111, 114], [116, 114, 117, 101], [102, 97, 108, 115, 101], [98, 101, 103, 105, 110], [99, 111, 109, 109, 105, 116], [114, 111, 108, 108, 98, 97, 99, 107], [116, 111], [115, 97, 118, 101, 112, 111, 105, 110, 116], [114, 101, 108, 101, 97, 115, 101], [105, 110, 116], [116, 101, 120, 116], [98, 108, 111, 98], [98, 111, 111, 108]]
def kwc (s : ByteArray) : Bool := Lib.contains kwText ([32] ++ s.data.toList ++ [32])

theorem nonempty (s : ByteArray) (h : 0 < s.size) : ¬ s.toList = [] := by
  intro h2
  have h3 : s.data.toList.length = s.size := rfl
  rw [← Lib.toList_data, h2] at h3
  simp only [List.length_nil] at h3
  omega

def errName (b : Bool) : Int := if b then 3 else 0

set_option maxRecDepth 100000 in
theorem name_good (s : ByteArray) (w : World) (hs : 0 < s.size) (hs24 : s.size ≤ 24) (hg : ∀ i, i < s.size → okAt i (byteAt s i) = true) (hsh : w.ShapedOpen Tryz.prog) :
    Calls Tryz.prog 146 #[.string s] w fun e w' => e = .returned (.int .i64 (errName (kwc s))) ∧ w = w' := by
  have HG := Asd.mk hg
  have hem := nonempty s hs
  have hem2 : s.toList.isEmpty = false := by simpa using hem
  have HSH := Asd.mk hsh
  clear hg hsh
  go_enter Tryz.func146, Tryz.ntmps146
  go_wp2
  go_loop [7] (fun i => ∃ k : Nat, k ≤ s.size ∧ i = .int .i64 (k : Int)) (fun i => s.size - (intOf i).toNat)
  case atStart => exact ⟨0, by omega, rfl⟩
  case round =>
    obtain ⟨k, hk, rfl⟩ := hrel
    by_cases hlt : k < s.size
    · have hbk := byteAt_eq s k (by omega)
      have hok := HG.out k hlt
      generalize byteAt s k = c at hok hbk
      rcases ok_cases hok with ⟨h1, h2⟩ | h1 | ⟨h0, h1, h2⟩
      · clear hok
        go_wp2
        go_round
        case rel => exact ⟨k + 1, by omega, by go_num⟩
        case measure => simp [intOf]; omega
      · subst h1
        clear hok
        go_wp2
        go_round
        case rel => exact ⟨k + 1, by omega, by go_num⟩
        case measure => simp [intOf]; omega
      · have h3 : ((c : Int) != 95) = true := by rw [bne_iff_ne]; omega
        have h4 : ((k : Int) == 0) = false := beq_eq_false_iff_ne.2 (by omega)
        clear hok h0
        go_wp2
        go_round
        case rel => exact ⟨k + 1, by omega, by go_num⟩
        case measure => simp [intOf]; omega
    · obtain rfl : k = s.size := by omega
      clear hlt
      go_wp2_with fail
      refine (Tryz.strings_Contains_shaped _ _ _ HSH.out (by decide)).mono ?_
      rintro e w' ⟨rfl, rfl⟩
      generalize hb : Lib.contains _ _ = bb
      have hbb : Asd (bb = kwc s) := Asd.mk (by rw [← hb]; simp [kwc, kwText])
      clear hb
      cases bb with
      | true =>
        go_wp2
        go_ret
        exact ⟨ret_eq (by rw [← hbb.out]; rfl), rfl⟩
      | false =>
        go_wp2
        go_ret
        exact ⟨ret_eq (by rw [← hbb.out]; rfl), rfl⟩

theorem of_list {s : ByteArray} {l : List UInt8} (h : s.toList = l) : s = ⟨l.toArray⟩ := by
  obtain ⟨⟨d⟩⟩ := s
  rw [Lib.toList_data] at h
  simp only at h
  rw [h]
def tok (i : Nat) : List UInt8 := (kwText.drop (i + 1)).takeWhile (fun c => c != 32)
theorem toks : ∀ i, i ≤ kwText.length → kwText[i]? = some 32 → tok i = [] ∨ kwList.contains (tok i) = true := by decide +kernel
theorem all_in : ∀ l, l ∈ kwList → Lib.contains kwText ([32] ++ l ++ [32]) = true := by decide +kernel

theorem takeWhile_word (w r : List UInt8) (h : ∀ c ∈ w, c ≠ 32) : (w ++ 32 :: r).takeWhile (fun c => c != 32) = w := by
  induction w with
  | nil => simp
  | cons c w ih =>
    have hc := h c (by simp)
    simp only [List.cons_append]
    rw [List.takeWhile_cons_of_pos (by simpa using hc), ih (fun d hd => h d (by simp [hd]))]

theorem kwc_eq (s : ByteArray) (hs : 0 < s.size) (hg : ∀ i, i < s.size → okAt i (byteAt s i) = true) : kwc s = kwList.contains s.toList := by
  rw [Lib.toList_data, Bool.eq_iff_iff]
  constructor
  · intro h
    unfold kwc Lib.contains at h
    rw [decide_eq_true_eq] at h
    rcases Lib.index_spec kwText ([32] ++ s.data.toList ++ [32]) with ⟨h1, _⟩ | ⟨i, h1, hi, hocc, _⟩
    · omega
    · have hno : ∀ c ∈ s.data.toList, c ≠ 32 := by
        rintro c hc rfl
        obtain ⟨j, hj, hjc⟩ := List.getElem_of_mem hc
        have := hg j hj
        have e : byteAt s j = 32 := by unfold byteAt; rw [List.getD_eq_getElem?_getD, List.getElem?_eq_getElem hj, hjc]; rfl
        rw [e] at this
        simp [okAt] at this
      have hne : s.data.toList ≠ [] := by
        intro h2
        have h3 : s.data.toList.length = s.size := rfl
        rw [h2] at h3
        simp only [List.length_nil] at h3
        omega
      unfold Lib.occAt at hocc
      rw [List.isPrefixOf_iff_prefix] at hocc
      obtain ⟨r, hr⟩ := hocc
      have hr2 : kwText.drop i = 32 :: (s.data.toList ++ 32 :: r) := by rw [← hr]; simp
      have h0 : kwText[i]? = some 32 := by
        have := congrArg (fun l => l[0]?) hr2
        simpa using this
      have ht : tok i = s.data.toList := by
        unfold tok
        have : kwText.drop (i + 1) = s.data.toList ++ 32 :: r := by
          have := congrArg (List.drop 1) hr2
          rw [List.drop_drop] at this
          simpa using this
        rw [this]
        exact takeWhile_word _ _ hno
      rcases toks i hi h0 with h2 | h2
      · rw [ht] at h2; exact absurd h2 hne
      · rw [ht] at h2; exact h2
  · intro h
    exact all_in _ (List.contains_iff_mem.1 h)
set_option maxRecDepth 100000 in
theorem name_long (s : ByteArray) (w : World) (hs : 24 < s.size) (hsz : s.size ≤ 140737488351232) (hg : ∀ i, i < s.size → okAt i (byteAt s i) = true) :
    Calls Tryz.prog 146 #[.string s] w fun e w' => e = .returned (.int .i64 3) ∧ w = w' := by
  have HG := Asd.mk hg
  have hem := nonempty s (by omega)
  have hem2 : s.toList.isEmpty = false := by simpa using hem
  clear hg
  go_enter Tryz.func146, Tryz.ntmps146
  go_wp2
  go_loop [7] (fun i => ∃ k : Nat, k ≤ s.size ∧ i = .int .i64 (k : Int)) (fun i => s.size - (intOf i).toNat)
  case atStart => exact ⟨0, by omega, rfl⟩
  case round =>
    obtain ⟨k, hk, rfl⟩ := hrel
    by_cases hlt : k < s.size
    · have hbk := byteAt_eq s k (by omega)
      have hok := HG.out k hlt
      generalize byteAt s k = c at hok hbk
      rcases ok_cases hok with ⟨h1, h2⟩ | h1 | ⟨h0, h1, h2⟩
      · clear hok
        go_wp2
        go_round
        case rel => exact ⟨k + 1, by omega, by go_num⟩
        case measure => simp [intOf]; omega
      · subst h1
        clear hok
        go_wp2
        go_round
        case rel => exact ⟨k + 1, by omega, by go_num⟩
        case measure => simp [intOf]; omega
      · have h3 : ((c : Int) != 95) = true := by rw [bne_iff_ne]; omega
        have h4 : ((k : Int) == 0) = false := beq_eq_false_iff_ne.2 (by omega)
        clear hok h0
        go_wp2
        go_round
        case rel => exact ⟨k + 1, by omega, by go_num⟩
        case measure => simp [intOf]; omega
    · obtain rfl : k = s.size := by omega
      clear hlt
      go_wp2
      go_ret
      exact ⟨rfl, rfl⟩


set_option maxRecDepth 100000 in
theorem name_empty (s : ByteArray) (w : World) (hs : s.size = 0) :
    Calls Tryz.prog 146 #[.string s] w fun e w' => e = .returned (.int .i64 3) ∧ w = w' := by
  have h1 : s.toList = [] := by
    rw [Lib.toList_data]
    exact List.length_eq_zero_iff.1 hs
  have h2 : s = ⟨#[]⟩ := of_list h1
  subst h2
  clear h1 hs
  go_enter Tryz.func146, Tryz.ntmps146
  go_wp2
  go_loop [7] (fun i => i = .int .i64 0) (fun i => 0)
  case atStart => rfl
  case round =>
    subst hrel
    go_wp2
    go_ret
    exact ⟨rfl, rfl⟩
theorem find_bad (s : ByteArray) : (∀ i, i < s.size → okAt i (byteAt s i) = true) ∨ ∃ q, q < s.size ∧ okAt q (byteAt s q) = false ∧ ∀ i, i < q → okAt i (byteAt s i) = true := by
  have main : ∀ n, (∀ i, i < n → okAt i (byteAt s i) = true) ∨ ∃ q, q < n ∧ okAt q (byteAt s q) = false ∧ ∀ i, i < q → okAt i (byteAt s i) = true := by
    intro n
    induction n with
    | zero => exact .inl fun i hi => absurd hi (by omega)
    | succ n ih =>
      rcases ih with h | ⟨q, h1, h2, h3⟩
      · cases hv : okAt n (byteAt s n) with
        | true =>
          refine .inl fun i hi => ?_
          rcases Nat.lt_succ_iff_lt_or_eq.1 hi with h' | rfl
          · exact h i h'
          · exact hv
        | false => exact .inr ⟨n, by omega, hv, h⟩
      · exact .inr ⟨q, by omega, h2, h3⟩
  exact main s.size

def nameNo (s : ByteArray) : Int := errName (!(decide (∀ i, i < s.size → okAt i (byteAt s i) = true) && decide (0 < s.size) && decide (s.size ≤ 24) && !kwList.contains s.toList))

theorem nameNo_bad {s : ByteArray} {q : Nat} (hq : q < s.size) (h : okAt q (byteAt s q) = false) : nameNo s = 3 := by
  have : ¬ ∀ i, i < s.size → okAt i (byteAt s i) = true := by
    intro h2
    rw [h2 q hq] at h; cases h
  simp [nameNo, errName, this]
theorem nameNo_size {s : ByteArray} (h : s.size = 0 ∨ 24 < s.size) : nameNo s = 3 := by
  rcases h with h | h
  · simp [nameNo, errName, h]
  · have : ¬ s.size ≤ 24 := by omega
    simp [nameNo, errName, this]
theorem nameNo_good {s : ByteArray} (h : ∀ i, i < s.size → okAt i (byteAt s i) = true) (h0 : 0 < s.size) (h1 : s.size ≤ 24) : nameNo s = errName (kwList.contains s.toList) := by
  simp [nameNo, h0, h1]
  rw [decide_eq_true h]
  simp

theorem name_calls (s : ByteArray) (w : World) (hs : s.size ≤ 140737488351232) (hsh : w.ShapedOpen Tryz.prog) :
    Calls Tryz.prog 146 #[.string s] w fun e w' => e = .returned (.int .i64 (nameNo s)) ∧ w = w' := by
  rcases find_bad s with h | ⟨q, h1, h2, h3⟩
  · rcases Nat.eq_zero_or_pos s.size with h0 | h0
    · rw [nameNo_size (.inl h0)]; exact name_empty s w h0
    · by_cases h24 : s.size ≤ 24
      · rw [nameNo_good h h0 h24, ← kwc_eq s h0 h]; exact name_good s w h0 h24 h hsh
      · rw [nameNo_size (.inr (by omega))]; exact name_long s w (by omega) hs h
  · rw [nameNo_bad h1 h2]; exact name_bad s w q hs h1 h2 h3
end Go.Proofs.YtbeeaikilcnpgaaGreatDoor.Cat

namespace Go.Proofs.YtbeeaikilcnpgaaGreatDoor.Exp
open Go.RowKit Go.Proofs.YtbeeaikilcnpgaaGreatDoor.Base Go.Proofs.YtbeeaikilcnpgaaGreatDoor.App Go.Proofs.YtbeeaikilcnpgaaGreatDoor.Byt Go.Proofs.YtbeeaikilcnpgaaGreatDoor.Lex
def Ins (R : Nat) (A : Option Addr) (m c : Nat) (l : Toks) (d : Nat) (r : Except (Nat × Int) Nat) (Q : World → Prop) (e : Ending) (w' : World) : Prop := match r with
  | .ok j => e = .returned (.tuple #[]) ∧ RdW w' R A m c l j d ∧ Q w'
  | .error x => Thrown e w' x.1 x.2

set_option maxRecDepth 100000 in
theorem within_calls (G : FuncId) (cap : Array Value) (S : Nat → Prop) (R : Nat) (A : Option Addr) (m c : Nat) (l : Toks) (i d : Nat) (r : Except (Nat × Int) Nat) (Q : World → Prop) (w : World) (hnear : Near l) (hS : S R) (hgo : IsGo G) (hi : i < l.length) (hd : d ≤ 32)
    (hQ : ∀ W v, Q W → Q (W.setCell ⟨R, 2, none⟩ v)) (h : RdW w R A m c l i d)
    (hin : d < 32 → ∀ w', Fr (fun k => k = R) w w' → RdW w' R A m c l (i + 1) (d + 1) → Calls Tryz.prog G cap w' fun e w'' => Fr S w' w'' ∧ Ins R A m c l (d + 1) r Q e w'') :
    Calls Tryz.prog 104 #[.pointer (some ⟨R, 0, none⟩), .func (.func G) #[] cap] w fun e w' => Fr S w w' ∧ Ins R A m c l d (if d < 32 then r else .error (stopAt l i, 21)) Q e w' := by
  have HH := Asd.mk h
  have HIN := Asd.mk hin
  have HQ := Asd.mk hQ
  have HNE := Asd.mk hnear
  have HS := Asd.mk hS
  have hcf : ∀ (args : Array Value) (w : World), (callFunc G args).run Tryz.prog w = .ok (.enter G args) w := hgo
  have r1 := (blk_cell h.blk 1).trans rfl
  have r2 := (blk_cell h.blk 2).trans rfl
  have z1 := blk_frozen h.blk 1
  have z2 := blk_frozen h.blk 2
  have hmb := h.tok.2.1
  have hml := h.tok.1
  have hib : i ≤ 16384 := by omega
  clear h hin hQ hnear hS hgo
  go_enter Tryz.func104, Tryz.ntmps104
  by_cases hlt : d < 32
  · rw [if_pos hlt]
    have hge : ¬ (32 : Int) ≤ (d : Int) := by omega
    have hs1 := HH.out.setD (d + 1)
    have hs2 := hs1.2.set (j := i + 1) (by omega)
    have HW2 := Asd.mk hs2.2
    have HF2 := Asd.mk (frR_trans hs1.1 hs2.1)
    have HLT := Asd.mk hlt
    clear hml hs1 hs2
    go_wp2_with fail
    change Calls _ _ _ ((w.setCell ⟨R, 2, none⟩ (.int .i64 ((d + 1 : Nat) : Int))).setCell ⟨R, 1, none⟩ (.int .i64 ((i + 1 : Nat) : Int))) _
    generalize ((w.setCell ⟨R, 2, none⟩ (.int .i64 ((d + 1 : Nat) : Int))).setCell ⟨R, 1, none⟩ (.int .i64 ((i + 1 : Nat) : Int))) = w2 at HW2 HF2 ⊢
    refine (HIN.out HLT.out w2 HF2.out HW2.out).mono ?_
    rintro e w3 ⟨hf3, hm⟩
    have HF3 : Asd (Fr S w w3) := Asd.mk ((HF2.out.mono (fun k hk _ => by rw [hk]; exact HS.out)).trans hf3 (fun _ h _ => h) (fun _ h _ => h))
    cases r with
    | error x =>
      obtain ⟨N, rfl, hN⟩ := hm
      go_wp2
      exact ⟨rfl, HF3.out, N, rfl, hN⟩
    | ok j =>
      obtain ⟨rfl, hr3, hq3⟩ := hm
      have HR3 := Asd.mk hr3
      have HQ3 := Asd.mk hq3
      have r1 := (blk_cell hr3.blk 1).trans rfl
      have r2 := (blk_cell hr3.blk 2).trans rfl
      have z2 := blk_frozen hr3.blk 2
      have hs3 := hr3.setD d
      have HS3 := Asd.mk hs3.2
      have HSF := Asd.mk hs3.1
      have hdd : ((d + 1 : Nat) : Int) - 1 = (d : Int) := by omega
      clear hr3 hq3 hf3 hs3
      go_wp2
      refine bodyPost_end (results_none rfl _ _ _) rfl ?_
      exact ⟨HF3.out.setCell HS.out _, rfl, HS3.out, HQ.out _ _ HQ3.out⟩
  · rw [if_neg hlt]
    have hge : (32 : Int) ≤ (d : Int) := by omega
    clear hml
    go_wp2_with fail
    refine (stop_calls R A m c l i d 21 w HNE.out HH.out).mono ?_
    rintro e w2 ⟨hb2, N, rfl, hN⟩
    exact ⟨rfl, Fr.of_below hb2, N, rfl, hN⟩

def Nmd (R : Nat) (A : Option Addr) (m c : Nat) (l : Toks) (d : Nat) (r : Res (List UInt8)) (e : Ending) (w' : World) : Prop := match r with
  | .ok x => e = .returned (.string ⟨x.1.toArray⟩) ∧ RdW w' R A m c l x.2 d
  | .error x => Thrown e w' x.1 x.2
def nmOk (s : List UInt8) : Bool := Cat.nameNo ⟨s.toArray⟩ == 0
set_option maxRecDepth 100000 in
theorem name_calls (R : Nat) (A : Option Addr) (m c : Nat) (l : Toks) (i d : Nat) (w : World) (hnear : Near l) (h : RdW w R A m c l i d) :
    Calls Tryz.prog 138 #[.pointer (some ⟨R, 0, none⟩)] w fun e w' => Fr (fun k => k = R) w w' ∧ Nmd R A m c l d (nameT nmOk l i) e w' := by
  have hle := h.le
  have HH := Asd.mk h
  have HNE := Asd.mk hnear
  have HSZ := Asd.mk fun x hx => (hnear x hx).2
  have HSH := Asd.mk h.sh
  have hml := Asd.mk h.tok.1
  have hib : i ≤ 16384 := by have h1 := h.tok.1; have h2 := h.tok.2.1; omega
  clear h hnear
  go_enter Tryz.func138, Tryz.ntmps138
  go_wp2_with fail
  refine (token_calls R A m c l i d w HH.out).mono ?_
  rintro e w1 ⟨rfl, hb1⟩
  have HB1 := Asd.mk hb1
  clear hb1
  by_cases hlt : i < l.length
  · rw [tkV_some hlt]
    have HL := Asd.mk (List.getElem?_eq_getElem hlt)
    have HX := Asd.mk (HSZ.out _ (List.getElem_mem hlt))
    generalize l[i] = x at HL HX ⊢
    obtain ⟨⟨kd, tx, nu⟩, pl⟩ := x
    simp only at HX ⊢
    have HTX : Asd ((⟨tx.toArray⟩ : ByteArray).size ≤ 140737488351232) := Asd.mk (by
      have h1 : (⟨tx.toArray⟩ : ByteArray).size = tx.length := by show tx.toArray.size = _; simp
      have := HX.out; rw [h1]; omega)
    by_cases h1 : kd = 1
    · subst h1
      have HB2 : Asd (Below w.heap.size w (w1.alloc (.cells #[.int .i64 1, .string ⟨tx.toArray⟩, .int .i64 ((pl : Nat) : Int), .int .i64 nu] 88 (0, 0)))) := Asd.mk (below_alloc HB1.out _)
      have HT2 := Asd.mk (blk_new w1 (.cells #[.int .i64 1, .string ⟨tx.toArray⟩, .int .i64 ((pl : Nat) : Int), .int .i64 nu] 88 (0, 0)))
      go_wp2_with fail
      change Calls _ _ _ (w1.alloc (.cells #[.int .i64 1, .string ⟨tx.toArray⟩, .int .i64 ((pl : Nat) : Int), .int .i64 nu] 88 (0, 0))) _
      generalize (w1.alloc (.cells #[.int .i64 1, .string ⟨tx.toArray⟩, .int .i64 ((pl : Nat) : Int), .int .i64 nu] 88 (0, 0))) = w2 at HB2 HT2 ⊢
      refine (Cat.name_calls ⟨tx.toArray⟩ w2 HTX.out (shaped_below HSH.out HB2.out)).mono ?_
      rintro e w' ⟨rfl, rfl⟩
      have HH2 := Asd.mk (HH.out.below HB2.out)
      cases hn : nmOk tx with
      | true =>
        have hz : Cat.nameNo ⟨tx.toArray⟩ = 0 := by simpa [nmOk] using hn
        have HN : Asd (nameT nmOk l i = .ok (tx, i + 1)) := Asd.mk (by unfold nameT; rw [HL.out]; simp only; rw [if_pos ⟨trivial, hn⟩])
        rw [hz]
        have t1 := (blk_cell HT2.out 1).trans rfl
        have r1 := (blk_cell HH2.out.blk 1).trans rfl
        have z1 := blk_frozen HH2.out.blk 1
        have hs := HH2.out.set (j := i + 1) (by omega)
        have HSS := Asd.mk hs.2
        have HSF := Asd.mk (frR_below HB2.out hs.1)
        have HNE1 : Asd (w1.heap.size ≠ R) := Asd.mk (by have := blk_lt HH.out.blk; have := HB1.out.size; omega)
        have t2 : (w2.setCell ⟨R, 1, none⟩ (.int .i64 ((i : Int) + 1))).cell? ⟨w1.heap.size, 1, none⟩ = some (.string ⟨tx.toArray⟩) := cell_frS hs.1 (fun h => HNE1.out h) t1
        clear hn hz hs
        go_wp2
        go_ret
        refine ⟨HSF.out, ?_⟩
        rw [HN.out]
        exact ⟨rfl, HSS.out⟩
      | false =>
        have hz : ¬ Cat.nameNo ⟨tx.toArray⟩ = 0 := by simpa [nmOk] using hn
        have HN : Asd (nameT nmOk l i = .error (stopAt l i, 20)) := Asd.mk (by unfold nameT; rw [HL.out]; simp only; rw [if_neg (by rintro ⟨_, h⟩; rw [hn] at h; cases h)])
        have hzb : (Cat.nameNo ⟨tx.toArray⟩ != 0) = true := by simpa using hz
        generalize Cat.nameNo ⟨tx.toArray⟩ = nn at hz hzb ⊢
        clear hn
        go_wp2_with fail
        refine (stop_calls R A m c l i d 20 w2 HNE.out HH2.out).mono ?_
        rintro e w3 ⟨hb3, N, rfl, hN⟩
        refine ⟨rfl, Fr.of_below (HB2.out.trans (hb3.mono HB2.out.size)), ?_⟩
        rw [HN.out]
        exact ⟨N, rfl, hN⟩
    · have h1' : ¬ ((kd : Nat) : Int) = 1 := by omega
      have HB2 : Asd (Below w.heap.size w (w1.alloc (.cells #[.int .i64 ((kd : Nat) : Int), .string ⟨tx.toArray⟩, .int .i64 ((pl : Nat) : Int), .int .i64 nu] 88 (0, 0)))) := Asd.mk (below_alloc HB1.out _)
      have HN : Asd (nameT nmOk l i = .error (stopAt l i, 20)) := Asd.mk (by unfold nameT; rw [HL.out]; simp only; rw [if_neg (by rintro ⟨h, _⟩; exact h1 h)])
      clear h1
      go_wp2_with fail
      generalize (w1.alloc (.cells #[.int .i64 ((kd : Nat) : Int), .string ⟨tx.toArray⟩, .int .i64 ((pl : Nat) : Int), .int .i64 nu] 88 (0, 0))) = w2 at HB2 ⊢
      refine (stop_calls R A m c l i d 20 w2 HNE.out (HH.out.below HB2.out)).mono ?_
      rintro e w3 ⟨hb3, N, rfl, hN⟩
      refine ⟨rfl, Fr.of_below (HB2.out.trans (hb3.mono HB2.out.size)), ?_⟩
      rw [HN.out]
      exact ⟨N, rfl, hN⟩
  · rw [tkV_none (by omega)]
    have HB2 : Asd (Below w.heap.size w (w1.alloc (.cells #[.int .i64 0, .string ⟨#[]⟩, .int .i64 0, .int .i64 0] 88 (0, 0)))) := Asd.mk (below_alloc HB1.out _)
    have HN : Asd (nameT nmOk l i = .error (stopAt l i, 20)) := Asd.mk (by unfold nameT; rw [List.getElem?_eq_none (by omega)])
    go_wp2_with fail
    generalize (w1.alloc (.cells #[.int .i64 0, .string ⟨#[]⟩, .int .i64 0, .int .i64 0] 88 (0, 0))) = w2 at HB2 ⊢
    refine (stop_calls R A m c l i d 20 w2 HNE.out (HH.out.below HB2.out)).mono ?_
    rintro e w3 ⟨hb3, N, rfl, hN⟩
    refine ⟨rfl, Fr.of_below (HB2.out.trans (hb3.mono HB2.out.size)), ?_⟩
    rw [HN.out]
    exact ⟨N, rfl, hN⟩

def PartOK (F : FuncId) (R : Nat) (A : Option Addr) (m c : Nat) (l : Toks) (f : Nat → Res Ex) (d : Nat) : Prop := ∀ w i, RdW w R A m c l i d → Calls Tryz.prog F #[.pointer (some ⟨R, 0, none⟩)] w (Got R A m c l d w (f i))
def resJ (r : Res Ex) : Except (Nat × Int) Nat := match r with
  | .ok x => .ok x.2
  | .error x => .error x
def ArgAt (b base : Nat) (o : Int) (r : Res Ex) (W : World) : Prop := match r with
  | .ok x => ∃ A n c, W.heap[b]? = some (.cells (exC (unE o x.1) (.slice A n c)).toArray 26 (0, 0)) ∧ Held (fun g => base ≤ g ∧ g ≠ b) W [x.1] (.slice A n c)
  | .error _ => True
theorem ArgAt.set {b base : Nat} {o : Int} {r : Res Ex} {W : World} (h : ArgAt b base o r W) {R : Nat} (hb : b ≠ R) (hR : R < base) (j : Nat) (v : Value) : ArgAt b base o r (W.setCell ⟨R, j, none⟩ v) := by
  cases r with
  | error x => exact h
  | ok x =>
    obtain ⟨A, n, c, h1, h2⟩ := h
    exact ⟨A, n, c, blk_far h1 hb _, held_frS h2 (Fr.setCell (S := fun k => k = R) (Fr.refl _ W) (p := ⟨R, j, none⟩) rfl v) (fun g hg h => by have h1 := hg.1; have h2 : g = R := h; omega)⟩
theorem RdW.var {W W' : World} {R b : Nat} {A : Option Addr} {m c : Nat} {l : Toks} {i d : Nat} (h : RdW W R A m c l i d) (hf : Fr (fun k => k = b) W W') (hn : b ≠ R) (hR : R < b) {x y : Ex} {s s' : Value} (h1 : W.heap[b]? = some (.cells (exC x s).toArray 26 (0, 0))) (h2 : W'.heap[b]? = some (.cells (exC y s').toArray 26 (0, 0))) : RdW W' R A m c l i d := by
  refine ⟨blk_fr h.blk hf (fun e => hn e.symm), ⟨h.tok.1, h.tok.2.1, fun h0 => ?_⟩, h.le, ?_, h.low⟩
  · obtain ⟨g, rfl, hc⟩ := h.tok.2.2 h0
    have hg : ¬ g = b := by
      rintro rfl
      have := (hc 0 (by have := h.tok.1; omega)).2.1
      rw [blk_cell h1] at this
      simp [exC] at this
    refine ⟨g, rfl, fun i hi => ?_⟩
    obtain ⟨a, b, c, e⟩ := hc i hi
    exact ⟨cell_frS hf hg a, cell_frS hf hg b, cell_frS hf hg c, cell_frS hf hg e⟩
  · refine h.sh.keptBut (may := fun p => p.block = b) ⟨hf.os, hf.output, fun k hk => ?_⟩ (fun p hp => by rw [hp]; have := h.low; omega)
    by_cases hkb : k = b
    · subst hkb
      rw [h1, h2]
      exact ⟨rfl, rfl, rfl, fun j hj => absurd rfl hj⟩
    · rw [hf.block k hk hkb]
      cases hx : W.heap[k]? with
      | none => rfl
      | some o => cases o <;> simp
theorem blk_set9 {W : World} {b : Nat} {T : TypeId} {x y : Ex} {s : Value} (h : W.heap[b]? = some (.cells (exC x s).toArray T (0, 0))) (v : Value) (hxy : exC y v = (exC x s).set 9 v) : (W.setCell ⟨b, 9, none⟩ v).heap[b]? = some (.cells (exC y v).toArray T (0, 0)) := by
  rw [blk_set h 9 v, hxy]
  simp

set_option maxRecDepth 100000 in
theorem sign1_calls (b1 b3 R : Nat) (A : Option Addr) (m c : Nat) (l : Toks) (f : Nat → Res Ex) (i d : Nat) (w : World)
    (p1 : w.heap[b1]? = some (.cells #[.pointer (some ⟨R, 0, none⟩)] 91 (0, 0))) (p3 : w.heap[b3]? = some (.cells (exC (.mk 3 1 vNull [] [] 0 0 []) (.slice none 0 0)).toArray 26 (0, 0)))
    (n3 : b3 ≠ R) (hrb : R < b3) (hf : PartOK 83 R A m c l f d) (h : RdW w R A m c l i d) :
    Calls Tryz.prog 105 #[.pointer (some ⟨b1, 0, none⟩), .pointer (some ⟨b3, 0, none⟩)] w fun e w' => Fr (fun k => k = R ∨ k = b3) w w' ∧ Ins R A m c l d (resJ (f i)) (ArgAt b3 w.heap.size 1 (f i)) e w' := by
  have HH := Asd.mk h
  have HP3 := Asd.mk p3
  have HN3 := Asd.mk n3
  have HRB := Asd.mk hrb
  have HF := Asd.mk hf
  have c1 := (blk_cell p1 0).trans rfl
  have HB3 := Asd.mk (blk_lt p3)
  clear h p1 p3 n3 hrb hf
  go_enter Tryz.func105, Tryz.ntmps105
  go_wp2_with fail
  refine (HF.out w i HH.out).mono ?_
  rintro e w1 ⟨hf1, hm⟩
  have HF1 := Asd.mk hf1
  have HQ1 : Asd (w1.heap[b3]? = some (.cells (exC (.mk 3 1 vNull [] [] 0 0 []) (.slice none 0 0)).toArray 26 (0, 0))) := Asd.mk (blk_fr HP3.out hf1 HN3.out)
  clear hf1
  cases hfi : f i with
  | error er =>
    rw [hfi] at hm
    obtain ⟨N, rfl, hN⟩ := hm
    have HR0 : Asd (Fr (fun k => k = R ∨ k = b3) w w1) := Asd.mk (HF1.out.mono fun k h _ => .inl h)
    have HFI := Asd.mk hfi
    clear hfi
    go_wp2
    refine ⟨rfl, HR0.out, ?_⟩
    rw [HFI.out]
    exact ⟨N, rfl, hN⟩
  | ok y =>
    obtain ⟨x, j⟩ := y
    rw [hfi] at hm
    obtain ⟨s, rfl, hh, hr⟩ := hm
    obtain ⟨As, ms, cs, rfl⟩ := held_slice hh
    have HHX := Asd.mk hh
    have HRX := Asd.mk hr
    have HFI := Asd.mk hfi
    clear hfi hh hr
    unfold exV
    have HBA := Asd.mk (below_alloc (Below.refl _ w1) (.cells #[.int .i64 x.kind, .int .i64 x.op, .int .i64 x.v.kind, .int .i64 x.v.int, .string ⟨x.v.text.toArray⟩, .string ⟨x.table.toArray⟩, .string ⟨x.name.toArray⟩, .int .i64 x.col, .int .i64 x.ty, .slice As ms cs] 26 (0, 0)))
    have HNB := Asd.mk (blk_new w1 (.cells #[.int .i64 x.kind, .int .i64 x.op, .int .i64 x.v.kind, .int .i64 x.v.int, .string ⟨x.v.text.toArray⟩, .string ⟨x.table.toArray⟩, .string ⟨x.name.toArray⟩, .int .i64 x.col, .int .i64 x.ty, .slice As ms cs] 26 (0, 0)))
    have HQ2 := Asd.mk (blk_below HBA.out HQ1.out)
    have HR2 := Asd.mk (HRX.out.below HBA.out)
    have HH2 := Asd.mk (held_below HHX.out HBA.out)
    have HL3 : Asd (b3 < w1.heap.size) := Asd.mk (blk_lt HQ1.out)
    have HS3 : Asd (w.heap.size ≤ w1.heap.size) := Asd.mk HF1.out.size
    have z9 := blk_frozen HQ2.out 9
    have y9 := (ex_cells HQ2.out).2.2.2.2.2.2.2.2.2
    go_wp2
    refine bodyPost_end (results_none rfl _ _ _) rfl ?_
    have hst := Fr.setCell (S := fun k => k = b3) (Fr.refl _ (w1.alloc (.cells #[.int .i64 x.kind, .int .i64 x.op, .int .i64 x.v.kind, .int .i64 x.v.int, .string ⟨x.v.text.toArray⟩, .string ⟨x.table.toArray⟩, .string ⟨x.name.toArray⟩, .int .i64 x.col, .int .i64 x.ty, .slice As ms cs] 26 (0, 0)))) (p := ⟨b3, 9, none⟩) rfl (.slice (some ⟨w1.heap.size, 0, none⟩) 1 1)
    have hfr : Fr (fun k => k = R ∨ k = b3) w _ := (below_frR HF1.out HBA.out).trans hst (fun k h _ => .inl h) (fun k h _ => .inr h)
    have hb9 := blk_set9 (y := unE 1 x) HQ2.out (.slice (some ⟨w1.heap.size, 0, none⟩) 1 1) rfl
    have hld : Held (fun g => w.heap.size ≤ g ∧ g ≠ b3) (w1.alloc (.cells #[.int .i64 x.kind, .int .i64 x.op, .int .i64 x.v.kind, .int .i64 x.v.int, .string ⟨x.v.text.toArray⟩, .string ⟨x.table.toArray⟩, .string ⟨x.name.toArray⟩, .int .i64 x.col, .int .i64 x.ty, .slice As ms cs] 26 (0, 0))) [x] (.slice (some ⟨w1.heap.size, 0, none⟩) 1 1) := by
      refine held_of_blk (P := fun g => w.heap.size ≤ g ∧ g ≠ b3) (c := 1) ⟨HS3.out, by have := HL3.out; omega⟩ [(x, .slice As ms cs)] HNB.out ?_
      intro p hp
      simp only [List.mem_singleton] at hp
      subst hp
      exact held_mono HH2.out (fun g _ hg => ⟨hg, by have := HB3.out; have h1 : w.heap.size ≤ g := hg; omega⟩)
    refine ⟨hfr, ?_⟩
    rw [HFI.out]
    exact ⟨rfl, HR2.out.var hst HN3.out HRB.out HQ2.out hb9, _, _, _, hb9, held_frS hld hst (fun g hg h => hg.2 h)⟩

theorem fin_got {R : Nat} {A : Option Addr} {m c : Nat} {l : Toks} {i0 d : Nat} {w w2 : World} {b2 : Nat} {x : Ex} {j : Nat} {A' : Option Addr} {n' c' : Nat} (h0 : RdW w R A m c l i0 d) (hF : Fr (fun k => k = R) w w2) (hb2 : w.heap.size ≤ b2) (hr : RdW w2 R A m c l j d) (hh : Held (fun g => w.heap.size ≤ g ∧ g ≠ b2) w2 x.args (.slice A' n' c')) :
    Got R A m c l d w (.ok (x, j)) (.returned (exV x (.slice A' n' c'))) ((((((((((w2.setCell ⟨b2, 0, none⟩ (.int .i64 x.kind)).setCell ⟨b2, 1, none⟩ (.int .i64 x.op)).setCell ⟨b2, 2, none⟩ (.int .i64 x.v.kind)).setCell ⟨b2, 3, none⟩ (.int .i64 x.v.int)).setCell ⟨b2, 4, none⟩ (.string ⟨x.v.text.toArray⟩)).setCell ⟨b2, 5, none⟩ (.string ⟨x.table.toArray⟩)).setCell ⟨b2, 6, none⟩ (.string ⟨x.name.toArray⟩)).setCell ⟨b2, 7, none⟩ (.int .i64 x.col)).setCell ⟨b2, 8, none⟩ (.int .i64 x.ty)).setCell ⟨b2, 9, none⟩ (.slice A' n' c')) := by
  have hfb := put10_fr (W := w2) (b := b2) (S := fun k => k = b2) rfl (.int .i64 x.kind) (.int .i64 x.op) (.int .i64 x.v.kind) (.int .i64 x.v.int) (.string ⟨x.v.text.toArray⟩) (.string ⟨x.table.toArray⟩) (.string ⟨x.name.toArray⟩) (.int .i64 x.col) (.int .i64 x.ty) (.slice A' n' c')
  have hR := blk_lt h0.blk
  have hff := fr_new hF hfb (fun k hk => .inr (by have h1 : k = b2 := hk; omega))
  exact ⟨hff, _, rfl, held_mono (held_frS hh hfb (fun g hg h => hg.2 h)) (fun g _ hg => hg.1), h0.move hff hr.le (blk_fr hr.blk hfb (by show ¬ R = b2; omega))⟩
theorem ArgAt.mono {b base base' : Nat} {o : Int} {r : Res Ex} {W : World} (h : ArgAt b base o r W) (hb : base' ≤ base) : ArgAt b base' o r W := by
  cases r with
  | error x => exact h
  | ok x =>
    obtain ⟨A, n, c, h1, h2⟩ := h
    exact ⟨A, n, c, h1, held_mono h2 (fun g _ hg => ⟨by have := hg.1; omega, hg.2⟩)⟩
theorem ins_mono {R : Nat} {A : Option Addr} {m c : Nat} {l : Toks} {d : Nat} {r : Except (Nat × Int) Nat} {Q Q' : World → Prop} {e : Ending} {w : World} (h : Ins R A m c l d r Q e w) (hq : ∀ w, Q w → Q' w) : Ins R A m c l d r Q' e w := by
  cases r with
  | error x => exact h
  | ok j => exact ⟨h.1, h.2.1, hq _ h.2.2⟩
theorem got_error {R : Nat} {A : Option Addr} {m c : Nat} {l : Toks} {d : Nat} {w w' : World} {x : Nat × Int} {e : Ending} (hF : Fr (fun k => k = R) w w') (h : Thrown e w' x.1 x.2) : Got R A m c l d w (.error x) e w' := ⟨hF, h⟩

set_option maxRecDepth 100000 in
theorem sign_calls (nm : List UInt8 → Bool) (R : Nat) (A : Option Addr) (m c : Nat) (l : Toks) (sub : Option PF) (i d : Nat) (w : World) (hnear : Near l) (hd : d ≤ 32)
    (hitem : PartOK 103 R A m c l (itemP nm l sub) d) (hsome : ∀ p, sub = some p → d < 32 ∧ PartOK 83 R A m c l p.sign (d + 1)) (hnone : sub = none → ¬ d < 32) (h : RdW w R A m c l i d) :
    Calls Tryz.prog 83 #[.pointer (some ⟨R, 0, none⟩)] w (Got R A m c l d w (signP nm l sub i)) := by
  have HH := Asd.mk h
  have HIT := Asd.mk hitem
  have HSO := Asd.mk hsome
  have HNO := Asd.mk hnone
  have HNE := Asd.mk hnear
  have HD := Asd.mk hd
  clear h hitem hsome hnone hnear hd
  have hmf := mk_func
  have HBA := Asd.mk (below_alloc (below_alloc (Below.refl _ w) (.cells #[.pointer (some ⟨R, 0, none⟩)] 91 (0, 0))) (.cells #[.int .i64 0, .int .i64 0, .int .i64 0, .int .i64 0, .string ⟨#[]⟩, .string ⟨#[]⟩, .string ⟨#[]⟩, .int .i64 0, .int .i64 0, .slice none 0 0] 26 (0, 0)))
  have HP1 := Asd.mk (blk_alloc (blk_new w (.cells #[.pointer (some ⟨R, 0, none⟩)] 91 (0, 0))) (.cells #[.int .i64 0, .int .i64 0, .int .i64 0, .int .i64 0, .string ⟨#[]⟩, .string ⟨#[]⟩, .string ⟨#[]⟩, .int .i64 0, .int .i64 0, .slice none 0 0] 26 (0, 0)))
  have HZ0 := Asd.mk (nb1 w (.cells #[.pointer (some ⟨R, 0, none⟩)] 91 (0, 0)) (.cells #[.int .i64 0, .int .i64 0, .int .i64 0, .int .i64 0, .string ⟨#[]⟩, .string ⟨#[]⟩, .string ⟨#[]⟩, .int .i64 0, .int .i64 0, .slice none 0 0] 26 (0, 0)))
  have HRW : Asd (R < w.heap.size) := Asd.mk (blk_lt HH.out.blk)
  go_enter Tryz.func83, Tryz.ntmps83
  go_wp2_with fail
  generalize (w.alloc (.cells #[.pointer (some ⟨R, 0, none⟩)] 91 (0, 0))).alloc (.cells #[.int .i64 0, .int .i64 0, .int .i64 0, .int .i64 0, .string ⟨#[]⟩, .string ⟨#[]⟩, .string ⟨#[]⟩, .int .i64 0, .int .i64 0, .slice none 0 0] 26 (0, 0)) = w0 at HBA HP1 HZ0 ⊢
  refine (is_calls R A m c l i d 5 [45] w0 (by omega) (HH.out.below HBA.out)).mono ?_
  rintro e w1 ⟨rfl, hb1⟩
  have HB1 : Asd (Below w.heap.size w w1) := Asd.mk (HBA.out.trans (hb1.mono HBA.out.size))
  have HP2 := Asd.mk (blk_below hb1 HP1.out)
  have HZ1 := Asd.mk (blk_below hb1 HZ0.out)
  have c1 := (blk_cell HP2.out 0).trans rfl
  clear hb1 HBA HP1 HZ0
  cases hT : isT l i 5 [45] with
  | false =>
    have HC : Asd (signP nm l sub i = itemP nm l sub i) := Asd.mk (by unfold signP; rw [if_neg (by rw [hT]; decide)])
    clear hT
    go_wp2_with fail
    refine (HIT.out w1 i (HH.out.below HB1.out)).mono ?_
    rintro e w2 ⟨hf2, hm⟩
    have HF2 := Asd.mk (frR_below HB1.out hf2)
    have HZ2 := Asd.mk (blk_fr HZ1.out hf2 (by show ¬ w.heap.size + 1 = R; have := HRW.out; omega))
    clear hf2
    cases hfi : itemP nm l sub i with
    | error er =>
      rw [hfi] at hm
      have HE : Asd (signP nm l sub i = .error er) := Asd.mk (by rw [HC.out, hfi])
      obtain ⟨N, rfl, hN⟩ := hm
      clear hfi
      go_wp2
      refine ⟨rfl, ?_⟩
      rw [HE.out]
      exact got_error HF2.out ⟨N, rfl, hN⟩
    | ok y =>
      obtain ⟨x, j⟩ := y
      rw [hfi] at hm
      have HE : Asd (signP nm l sub i = .ok (x, j)) := Asd.mk (by rw [HC.out, hfi])
      obtain ⟨s, rfl, hh, hr⟩ := hm
      obtain ⟨As, ms, cs, rfl⟩ := held_slice hh
      have HHX := Asd.mk hh
      have HRX := Asd.mk hr
      have HSZ : Asd (w.heap.size + 1 < w1.heap.size) := Asd.mk (blk_lt HZ1.out)
      clear hfi hh hr
      unfold exV
      have y0 := (blk_cell HZ2.out 0).trans rfl
      have y1 := (blk_cell HZ2.out 1).trans rfl
      have y2 := (blk_cell HZ2.out 2).trans rfl
      have y3 := (blk_cell HZ2.out 3).trans rfl
      have y4 := (blk_cell HZ2.out 4).trans rfl
      have y5 := (blk_cell HZ2.out 5).trans rfl
      have y6 := (blk_cell HZ2.out 6).trans rfl
      have y7 := (blk_cell HZ2.out 7).trans rfl
      have y8 := (blk_cell HZ2.out 8).trans rfl
      have y9 := (blk_cell HZ2.out 9).trans rfl
      have z0 := blk_frozen HZ2.out 0
      have z1 := blk_frozen HZ2.out 1
      have z2 := blk_frozen HZ2.out 2
      have z3 := blk_frozen HZ2.out 3
      have z4 := blk_frozen HZ2.out 4
      have z5 := blk_frozen HZ2.out 5
      have z6 := blk_frozen HZ2.out 6
      have z7 := blk_frozen HZ2.out 7
      have z8 := blk_frozen HZ2.out 8
      have z9 := blk_frozen HZ2.out 9
      go_wp2
      refine bodyPost_ret (results_cell_row rfl _ _ (w.heap.size + 1) 26 _ (0, 0) _ rfl (put10_blk HZ2.out _ _ _ _ _ _ _ _ _ _) Tryz.underlying26 rfl (by kernel_rfl)) rfl ?_
      rw [HE.out]
      exact fin_got HH.out HF2.out (by omega) HRX.out (held_mono HHX.out fun g _ hg => by have h1 : w1.heap.size ≤ g := hg; have := HSZ.out; exact ⟨by omega, by omega⟩)
  | true =>
    have HLT := Asd.mk (isT_lt hT)
    have HT := Asd.mk hT
    clear hT
    have HBB := Asd.mk (below_alloc HB1.out (.cells #[.int .i64 3, .int .i64 1, .int .i64 0, .int .i64 0, .string ⟨#[]⟩, .string ⟨#[]⟩, .string ⟨#[]⟩, .int .i64 0, .int .i64 0, .slice none 0 0] 26 (0, 0)))
    have HU0 := Asd.mk (blk_new w1 (.cells #[.int .i64 3, .int .i64 1, .int .i64 0, .int .i64 0, .string ⟨#[]⟩, .string ⟨#[]⟩, .string ⟨#[]⟩, .int .i64 0, .int .i64 0, .slice none 0 0] 26 (0, 0)))
    have HP3 := Asd.mk (blk_alloc HP2.out (.cells #[.int .i64 3, .int .i64 1, .int .i64 0, .int .i64 0, .string ⟨#[]⟩, .string ⟨#[]⟩, .string ⟨#[]⟩, .int .i64 0, .int .i64 0, .slice none 0 0] 26 (0, 0)))
    have HZ3 := Asd.mk (blk_alloc HZ1.out (.cells #[.int .i64 3, .int .i64 1, .int .i64 0, .int .i64 0, .string ⟨#[]⟩, .string ⟨#[]⟩, .string ⟨#[]⟩, .int .i64 0, .int .i64 0, .slice none 0 0] 26 (0, 0)))
    have HSW : Asd (w.heap.size ≤ w1.heap.size) := Asd.mk HB1.out.size
    have HSZ : Asd (w.heap.size + 1 < w1.heap.size) := Asd.mk (blk_lt HZ1.out)
    have c1a := (blk_cell HP3.out 0).trans rfl
    go_wp2_with fail
    generalize w1.alloc (.cells #[.int .i64 3, .int .i64 1, .int .i64 0, .int .i64 0, .string ⟨#[]⟩, .string ⟨#[]⟩, .string ⟨#[]⟩, .int .i64 0, .int .i64 0, .slice none 0 0] 26 (0, 0)) = w4 at HBB HU0 HP3 HZ3 ⊢
    have HRD := Asd.mk (HH.out.below HBB.out)
    have HB3 : Asd (w1.heap.size < w4.heap.size) := Asd.mk (blk_lt HU0.out)
    generalize w1.heap.size = b3 at HU0 HSW HSZ HB3 ⊢
    cases hs : sub with
    | none =>
      have HE : Asd (signP nm l sub i = .error (stopAt l i, 21)) := Asd.mk (by unfold signP; rw [if_pos HT.out, hs])
      have hnd := HNO.out hs
      refine (within_calls 105 #[.pointer (some ⟨w.heap.size, 0, none⟩), .pointer (some ⟨b3, 0, none⟩)] (fun k => k = R) R A m c l i d (.error (stopAt l i, 21)) (fun _ => True) w4 HNE.out rfl (isGo_of Tryz.func105 (by kernel_rfl) rfl) HLT.out HD.out (fun _ _ _ => trivial) HRD.out (fun h => absurd h hnd)).mono ?_
      rintro e w5 ⟨hf5, hm⟩
      rw [if_neg hnd] at hm
      obtain ⟨N, rfl, hN⟩ := hm
      refine ⟨rfl, ?_⟩
      rw [← hs, HE.out]
      exact got_error (frR_below HBB.out hf5) ⟨N, rfl, hN⟩
    | some p =>
      obtain ⟨hd32, hpart⟩ := HSO.out p hs
      have HPA := Asd.mk hpart
      have HE : Asd (signP nm l sub i = match p.sign (i + 1) with | .error x => .error x | .ok (e, j) => .ok (unE 1 e, j)) := Asd.mk (by unfold signP; rw [if_pos HT.out, hs]; rfl)
      have HS := Asd.mk hs
      refine (within_calls 105 #[.pointer (some ⟨w.heap.size, 0, none⟩), .pointer (some ⟨b3, 0, none⟩)] (fun k => k = R ∨ k = b3) R A m c l i d (resJ (p.sign (i + 1))) (ArgAt b3 w4.heap.size 1 (p.sign (i + 1))) w4 HNE.out (.inl rfl) (isGo_of Tryz.func105 (by kernel_rfl) rfl) HLT.out HD.out (fun W v hq => hq.set (by have := HSW.out; have := HRW.out; omega) (by have := HB3.out; have := HSW.out; have := HRW.out; omega) 2 v) HRD.out (fun _ w' hf' hr' => ?_)).mono ?_
      · refine (sign1_calls w.heap.size b3 R A m c l p.sign (i + 1) (d + 1) w' (blk_fr HP3.out hf' (by show ¬ w.heap.size = R; have := HRW.out; omega)) (blk_fr HU0.out hf' (by show ¬ b3 = R; have := HSW.out; have := HRW.out; omega)) (by have := HSW.out; have := HRW.out; omega) (by have := HSW.out; have := HRW.out; omega) HPA.out hr').mono ?_
        rintro e w'' ⟨h1, h2⟩
        exact ⟨h1, ins_mono h2 fun W hq => hq.mono hf'.size⟩
      · rintro e w5 ⟨hf5, hm⟩
        rw [if_pos hd32] at hm
        have HF5 : Asd (Fr (fun k => k = R) w w5) := Asd.mk (fr_new (Fr.of_below HBB.out) hf5 (fun k hk => by rcases hk with h | h; exact .inl h; exact .inr (by have := HSW.out; omega)))
        have HZ5 := Asd.mk (blk_fr HZ3.out hf5 (by show ¬ (w.heap.size + 1 = R ∨ w.heap.size + 1 = b3); have := HSZ.out; have := HRW.out; omega))
        clear hf5
        cases hfi : p.sign (i + 1) with
        | error er =>
          rw [hfi] at hm
          obtain ⟨N, rfl, hN⟩ := hm
          have HE2 : Asd (signP nm l sub i = .error er) := Asd.mk (by rw [HE.out, hfi])
          clear hfi
          go_wp2
          refine ⟨rfl, ?_⟩
          first | rw [HE2.out] | rw [← HS.out, HE2.out]
          exact got_error HF5.out ⟨N, rfl, hN⟩
        | ok y =>
          obtain ⟨x, j⟩ := y
          rw [hfi] at hm
          obtain ⟨rfl, hr5, A5, n5, c5, hb5, hh5⟩ := hm
          have HE2 : Asd (signP nm l sub i = .ok (unE 1 x, j)) := Asd.mk (by rw [HE.out, hfi])
          have HR5 := Asd.mk hr5
          have HH5 := Asd.mk hh5
          obtain ⟨e0, e1, e2, e3, e4, e5, e6, e7, e8, e9⟩ := ex_cells hb5
          clear hfi hr5 hh5 hb5
          have y0 := (blk_cell HZ5.out 0).trans rfl
          have y1 := (blk_cell HZ5.out 1).trans rfl
          have y2 := (blk_cell HZ5.out 2).trans rfl
          have y3 := (blk_cell HZ5.out 3).trans rfl
          have y4 := (blk_cell HZ5.out 4).trans rfl
          have y5 := (blk_cell HZ5.out 5).trans rfl
          have y6 := (blk_cell HZ5.out 6).trans rfl
          have y7 := (blk_cell HZ5.out 7).trans rfl
          have y8 := (blk_cell HZ5.out 8).trans rfl
          have y9 := (blk_cell HZ5.out 9).trans rfl
          have z0 := blk_frozen HZ5.out 0
          have z1 := blk_frozen HZ5.out 1
          have z2 := blk_frozen HZ5.out 2
          have z3 := blk_frozen HZ5.out 3
          have z4 := blk_frozen HZ5.out 4
          have z5 := blk_frozen HZ5.out 5
          have z6 := blk_frozen HZ5.out 6
          have z7 := blk_frozen HZ5.out 7
          have z8 := blk_frozen HZ5.out 8
          have z9 := blk_frozen HZ5.out 9
          go_wp2
          refine bodyPost_ret (results_cell_row rfl _ _ (w.heap.size + 1) 26 _ (0, 0) _ rfl (put10_blk HZ5.out _ _ _ _ _ _ _ _ _ _) Tryz.underlying26 rfl (by kernel_rfl)) rfl ?_
          first | rw [HE2.out] | rw [← HS.out, HE2.out]
          exact fin_got HH.out HF5.out (by omega) HR5.out (held_mono HH5.out fun g _ hg => by have h1 := hg.1; have := HB3.out; have := HSZ.out; exact ⟨by omega, by omega⟩)

def PartK (F : FuncId) (cap : Array Value) (K : World → Prop) (R : Nat) (A : Option Addr) (m c : Nat) (l : Toks) (f : Nat → Res Ex) (d : Nat) : Prop := ∀ w i, RdW w R A m c l i d → K w → Calls Tryz.prog F #[.pointer (some ⟨R, 0, none⟩), .func (.func 99) #[] cap] w (Got R A m c l d w (f i))
def Stays (R : Nat) (K : World → Prop) : Prop := ∀ w w', Fr (fun k => k = R) w w' → K w → K w'
set_option maxRecDepth 100000 in
theorem not1_calls (cap : Array Value) (K : World → Prop) (b1 bc b3 R : Nat) (A : Option Addr) (m c : Nat) (l : Toks) (f : Nat → Res Ex) (i d : Nat) (w : World)
    (p1 : w.heap[b1]? = some (.cells #[.pointer (some ⟨R, 0, none⟩)] 91 (0, 0))) (p3 : w.heap[b3]? = some (.cells (exC (.mk 3 2 vNull [] [] 0 0 []) (.slice none 0 0)).toArray 26 (0, 0)))
    (pc : w.heap[bc]? = some (.cells #[.func (.func 99) #[] cap] 94 (0, 0))) (hK : K w) (n3 : b3 ≠ R) (hrb : R < b3) (hf : PartK 85 cap K R A m c l f d) (h : RdW w R A m c l i d) :
    Calls Tryz.prog 107 #[.pointer (some ⟨b1, 0, none⟩), .pointer (some ⟨bc, 0, none⟩), .pointer (some ⟨b3, 0, none⟩)] w fun e w' => Fr (fun k => k = R ∨ k = b3) w w' ∧ Ins R A m c l d (resJ (f i)) (ArgAt b3 w.heap.size 2 (f i)) e w' := by
  have HH := Asd.mk h
  have HP3 := Asd.mk p3
  have HN3 := Asd.mk n3
  have HRB := Asd.mk hrb
  have HF := Asd.mk hf
  have c1 := (blk_cell p1 0).trans rfl
  have cc := (blk_cell pc 0).trans rfl
  have HK := Asd.mk hK
  have HB3 := Asd.mk (blk_lt p3)
  clear h p1 p3 pc n3 hrb hf hK
  go_enter Tryz.func107, Tryz.ntmps107
  go_wp2_with fail
  refine (HF.out w i HH.out HK.out).mono ?_
  rintro e w1 ⟨hf1, hm⟩
  have HF1 := Asd.mk hf1
  have HQ1 : Asd (w1.heap[b3]? = some (.cells (exC (.mk 3 2 vNull [] [] 0 0 []) (.slice none 0 0)).toArray 26 (0, 0))) := Asd.mk (blk_fr HP3.out hf1 HN3.out)
  clear hf1
  cases hfi : f i with
  | error er =>
    rw [hfi] at hm
    obtain ⟨N, rfl, hN⟩ := hm
    have HR0 : Asd (Fr (fun k => k = R ∨ k = b3) w w1) := Asd.mk (HF1.out.mono fun k h _ => .inl h)
    have HFI := Asd.mk hfi
    clear hfi
    go_wp2
    refine ⟨rfl, HR0.out, ?_⟩
    rw [HFI.out]
    exact ⟨N, rfl, hN⟩
  | ok y =>
    obtain ⟨x, j⟩ := y
    rw [hfi] at hm
    obtain ⟨s, rfl, hh, hr⟩ := hm
    obtain ⟨As, ms, cs, rfl⟩ := held_slice hh
    have HHX := Asd.mk hh
    have HRX := Asd.mk hr
    have HFI := Asd.mk hfi
    clear hfi hh hr
    unfold exV
    have HBA := Asd.mk (below_alloc (Below.refl _ w1) (.cells #[.int .i64 x.kind, .int .i64 x.op, .int .i64 x.v.kind, .int .i64 x.v.int, .string ⟨x.v.text.toArray⟩, .string ⟨x.table.toArray⟩, .string ⟨x.name.toArray⟩, .int .i64 x.col, .int .i64 x.ty, .slice As ms cs] 26 (0, 0)))
    have HNB := Asd.mk (blk_new w1 (.cells #[.int .i64 x.kind, .int .i64 x.op, .int .i64 x.v.kind, .int .i64 x.v.int, .string ⟨x.v.text.toArray⟩, .string ⟨x.table.toArray⟩, .string ⟨x.name.toArray⟩, .int .i64 x.col, .int .i64 x.ty, .slice As ms cs] 26 (0, 0)))
    have HQ2 := Asd.mk (blk_below HBA.out HQ1.out)
    have HR2 := Asd.mk (HRX.out.below HBA.out)
    have HH2 := Asd.mk (held_below HHX.out HBA.out)
    have HL3 : Asd (b3 < w1.heap.size) := Asd.mk (blk_lt HQ1.out)
    have HS3 : Asd (w.heap.size ≤ w1.heap.size) := Asd.mk HF1.out.size
    have z9 := blk_frozen HQ2.out 9
    have y9 := (ex_cells HQ2.out).2.2.2.2.2.2.2.2.2
    go_wp2
    refine bodyPost_end (results_none rfl _ _ _) rfl ?_
    have hst := Fr.setCell (S := fun k => k = b3) (Fr.refl _ (w1.alloc (.cells #[.int .i64 x.kind, .int .i64 x.op, .int .i64 x.v.kind, .int .i64 x.v.int, .string ⟨x.v.text.toArray⟩, .string ⟨x.table.toArray⟩, .string ⟨x.name.toArray⟩, .int .i64 x.col, .int .i64 x.ty, .slice As ms cs] 26 (0, 0)))) (p := ⟨b3, 9, none⟩) rfl (.slice (some ⟨w1.heap.size, 0, none⟩) 1 1)
    have hfr : Fr (fun k => k = R ∨ k = b3) w _ := (below_frR HF1.out HBA.out).trans hst (fun k h _ => .inl h) (fun k h _ => .inr h)
    have hb9 := blk_set9 (y := unE 2 x) HQ2.out (.slice (some ⟨w1.heap.size, 0, none⟩) 1 1) rfl
    have hld : Held (fun g => w.heap.size ≤ g ∧ g ≠ b3) (w1.alloc (.cells #[.int .i64 x.kind, .int .i64 x.op, .int .i64 x.v.kind, .int .i64 x.v.int, .string ⟨x.v.text.toArray⟩, .string ⟨x.table.toArray⟩, .string ⟨x.name.toArray⟩, .int .i64 x.col, .int .i64 x.ty, .slice As ms cs] 26 (0, 0))) [x] (.slice (some ⟨w1.heap.size, 0, none⟩) 1 1) := by
      refine held_of_blk (P := fun g => w.heap.size ≤ g ∧ g ≠ b3) (c := 1) ⟨HS3.out, by have := HL3.out; omega⟩ [(x, .slice As ms cs)] HNB.out ?_
      intro p hp
      simp only [List.mem_singleton] at hp
      subst hp
      exact held_mono HH2.out (fun g _ hg => ⟨hg, by have := HB3.out; have h1 : w.heap.size ≤ g := hg; omega⟩)
    refine ⟨hfr, ?_⟩
    rw [HFI.out]
    exact ⟨rfl, HR2.out.var hst HN3.out HRB.out HQ2.out hb9, _, _, _, hb9, held_frS hld hst (fun g hg h => hg.2 h)⟩
set_option maxRecDepth 100000 in
theorem not_calls (cap : Array Value) (K : World → Prop) (nm : List UInt8 → Bool) (R : Nat) (A : Option Addr) (m c : Nat) (l : Toks) (sub : Option PF) (i d : Nat) (w : World) (hKs : Stays R K) (hK : K w) (hnear : Near l) (hd : d ≤ 32)
    (hitem : PartK 106 cap K R A m c l (testP nm l sub) d) (hsome : ∀ p, sub = some p → d < 32 ∧ PartK 85 cap K R A m c l p.not (d + 1)) (hnone : sub = none → ¬ d < 32) (h : RdW w R A m c l i d) :
    Calls Tryz.prog 85 #[.pointer (some ⟨R, 0, none⟩), .func (.func 99) #[] cap] w (Got R A m c l d w (notP nm l sub i)) := by
  have HH := Asd.mk h
  have HIT := Asd.mk hitem
  have HSO := Asd.mk hsome
  have HNO := Asd.mk hnone
  have HNE := Asd.mk hnear
  have HD := Asd.mk hd
  have HK := Asd.mk hK
  have HKS := Asd.mk hKs
  have hst := st_func
  clear h hitem hsome hnone hnear hd hK hKs
  have hmf := mk_func
  have HBA := Asd.mk (below_alloc (below_alloc (below_alloc (Below.refl _ w) (.cells #[.pointer (some ⟨R, 0, none⟩)] 91 (0, 0))) (.cells #[.func (.func 99) #[] cap] 94 (0, 0))) (.cells #[.int .i64 0, .int .i64 0, .int .i64 0, .int .i64 0, .string ⟨#[]⟩, .string ⟨#[]⟩, .string ⟨#[]⟩, .int .i64 0, .int .i64 0, .slice none 0 0] 26 (0, 0)))
  have HP1 := Asd.mk (blk_alloc (blk_alloc (blk_new w (.cells #[.pointer (some ⟨R, 0, none⟩)] 91 (0, 0))) (.cells #[.func (.func 99) #[] cap] 94 (0, 0))) (.cells #[.int .i64 0, .int .i64 0, .int .i64 0, .int .i64 0, .string ⟨#[]⟩, .string ⟨#[]⟩, .string ⟨#[]⟩, .int .i64 0, .int .i64 0, .slice none 0 0] 26 (0, 0)))
  have HC1 := Asd.mk (blk_alloc (nb1 w (.cells #[.pointer (some ⟨R, 0, none⟩)] 91 (0, 0)) (.cells #[.func (.func 99) #[] cap] 94 (0, 0))) (.cells #[.int .i64 0, .int .i64 0, .int .i64 0, .int .i64 0, .string ⟨#[]⟩, .string ⟨#[]⟩, .string ⟨#[]⟩, .int .i64 0, .int .i64 0, .slice none 0 0] 26 (0, 0)))
  have HZ0 := Asd.mk (nb2 w (.cells #[.pointer (some ⟨R, 0, none⟩)] 91 (0, 0)) (.cells #[.func (.func 99) #[] cap] 94 (0, 0)) (.cells #[.int .i64 0, .int .i64 0, .int .i64 0, .int .i64 0, .string ⟨#[]⟩, .string ⟨#[]⟩, .string ⟨#[]⟩, .int .i64 0, .int .i64 0, .slice none 0 0] 26 (0, 0)))
  have HRW : Asd (R < w.heap.size) := Asd.mk (blk_lt HH.out.blk)
  go_enter Tryz.func85, Tryz.ntmps85
  go_wp2_with fail
  generalize ((w.alloc (.cells #[.pointer (some ⟨R, 0, none⟩)] 91 (0, 0))).alloc (.cells #[.func (.func 99) #[] cap] 94 (0, 0))).alloc (.cells #[.int .i64 0, .int .i64 0, .int .i64 0, .int .i64 0, .string ⟨#[]⟩, .string ⟨#[]⟩, .string ⟨#[]⟩, .int .i64 0, .int .i64 0, .slice none 0 0] 26 (0, 0)) = w0 at HBA HP1 HC1 HZ0 ⊢
  refine (is_calls R A m c l i d 1 [110, 111, 116] w0 (by omega) (HH.out.below HBA.out)).mono ?_
  rintro e w1 ⟨rfl, hb1⟩
  have HB1 : Asd (Below w.heap.size w w1) := Asd.mk (HBA.out.trans (hb1.mono HBA.out.size))
  have HP2 := Asd.mk (blk_below hb1 HP1.out)
  have HC2 := Asd.mk (blk_below hb1 HC1.out)
  have cc := (blk_cell HC2.out 0).trans rfl
  have HZ1 := Asd.mk (blk_below hb1 HZ0.out)
  have c1 := (blk_cell HP2.out 0).trans rfl
  clear hb1 HBA HP1 HC1 HZ0
  cases hT : isT l i 1 [110, 111, 116] with
  | false =>
    have HC : Asd (notP nm l sub i = testP nm l sub i) := Asd.mk (by unfold notP; rw [if_neg (by rw [hT]; decide)])
    clear hT
    go_wp2_with fail
    refine (HIT.out w1 i (HH.out.below HB1.out) (HKS.out _ _ (Fr.of_below HB1.out) HK.out)).mono ?_
    rintro e w2 ⟨hf2, hm⟩
    have HF2 := Asd.mk (frR_below HB1.out hf2)
    have HZ2 := Asd.mk (blk_fr HZ1.out hf2 (by show ¬ w.heap.size + 1 + 1 = R; have := HRW.out; omega))
    clear hf2
    cases hfi : testP nm l sub i with
    | error er =>
      rw [hfi] at hm
      have HE : Asd (notP nm l sub i = .error er) := Asd.mk (by rw [HC.out, hfi])
      obtain ⟨N, rfl, hN⟩ := hm
      clear hfi
      go_wp2
      refine ⟨rfl, ?_⟩
      rw [HE.out]
      exact got_error HF2.out ⟨N, rfl, hN⟩
    | ok y =>
      obtain ⟨x, j⟩ := y
      rw [hfi] at hm
      have HE : Asd (notP nm l sub i = .ok (x, j)) := Asd.mk (by rw [HC.out, hfi])
      obtain ⟨s, rfl, hh, hr⟩ := hm
      obtain ⟨As, ms, cs, rfl⟩ := held_slice hh
      have HHX := Asd.mk hh
      have HRX := Asd.mk hr
      have HSZ : Asd (w.heap.size + 1 + 1 < w1.heap.size) := Asd.mk (blk_lt HZ1.out)
      clear hfi hh hr
      unfold exV
      have y0 := (blk_cell HZ2.out 0).trans rfl
      have y1 := (blk_cell HZ2.out 1).trans rfl
      have y2 := (blk_cell HZ2.out 2).trans rfl
      have y3 := (blk_cell HZ2.out 3).trans rfl
      have y4 := (blk_cell HZ2.out 4).trans rfl
      have y5 := (blk_cell HZ2.out 5).trans rfl
      have y6 := (blk_cell HZ2.out 6).trans rfl
      have y7 := (blk_cell HZ2.out 7).trans rfl
      have y8 := (blk_cell HZ2.out 8).trans rfl
      have y9 := (blk_cell HZ2.out 9).trans rfl
      have z0 := blk_frozen HZ2.out 0
      have z1 := blk_frozen HZ2.out 1
      have z2 := blk_frozen HZ2.out 2
      have z3 := blk_frozen HZ2.out 3
      have z4 := blk_frozen HZ2.out 4
      have z5 := blk_frozen HZ2.out 5
      have z6 := blk_frozen HZ2.out 6
      have z7 := blk_frozen HZ2.out 7
      have z8 := blk_frozen HZ2.out 8
      have z9 := blk_frozen HZ2.out 9
      go_wp2
      refine bodyPost_ret (results_cell_row rfl _ _ (w.heap.size + 1 + 1) 26 _ (0, 0) _ rfl (put10_blk HZ2.out _ _ _ _ _ _ _ _ _ _) Tryz.underlying26 rfl (by kernel_rfl)) rfl ?_
      rw [HE.out]
      exact fin_got HH.out HF2.out (by omega) HRX.out (held_mono HHX.out fun g _ hg => by have h1 : w1.heap.size ≤ g := hg; have := HSZ.out; exact ⟨by omega, by omega⟩)
  | true =>
    have HLT := Asd.mk (isT_lt hT)
    have HT := Asd.mk hT
    clear hT
    have HBB := Asd.mk (below_alloc HB1.out (.cells #[.int .i64 3, .int .i64 2, .int .i64 0, .int .i64 0, .string ⟨#[]⟩, .string ⟨#[]⟩, .string ⟨#[]⟩, .int .i64 0, .int .i64 0, .slice none 0 0] 26 (0, 0)))
    have HU0 := Asd.mk (blk_new w1 (.cells #[.int .i64 3, .int .i64 2, .int .i64 0, .int .i64 0, .string ⟨#[]⟩, .string ⟨#[]⟩, .string ⟨#[]⟩, .int .i64 0, .int .i64 0, .slice none 0 0] 26 (0, 0)))
    have HC3 := Asd.mk (blk_alloc HC2.out (.cells #[.int .i64 3, .int .i64 2, .int .i64 0, .int .i64 0, .string ⟨#[]⟩, .string ⟨#[]⟩, .string ⟨#[]⟩, .int .i64 0, .int .i64 0, .slice none 0 0] 26 (0, 0)))
    have HP3 := Asd.mk (blk_alloc HP2.out (.cells #[.int .i64 3, .int .i64 2, .int .i64 0, .int .i64 0, .string ⟨#[]⟩, .string ⟨#[]⟩, .string ⟨#[]⟩, .int .i64 0, .int .i64 0, .slice none 0 0] 26 (0, 0)))
    have HZ3 := Asd.mk (blk_alloc HZ1.out (.cells #[.int .i64 3, .int .i64 2, .int .i64 0, .int .i64 0, .string ⟨#[]⟩, .string ⟨#[]⟩, .string ⟨#[]⟩, .int .i64 0, .int .i64 0, .slice none 0 0] 26 (0, 0)))
    have HSW : Asd (w.heap.size ≤ w1.heap.size) := Asd.mk HB1.out.size
    have HSZ : Asd (w.heap.size + 1 + 1 < w1.heap.size) := Asd.mk (blk_lt HZ1.out)
    have c1a := (blk_cell HP3.out 0).trans rfl
    have c1c := (blk_cell HC3.out 0).trans rfl
    go_wp2_with fail
    generalize w1.alloc (.cells #[.int .i64 3, .int .i64 2, .int .i64 0, .int .i64 0, .string ⟨#[]⟩, .string ⟨#[]⟩, .string ⟨#[]⟩, .int .i64 0, .int .i64 0, .slice none 0 0] 26 (0, 0)) = w4 at HBB HU0 HP3 HC3 HZ3 ⊢
    have HRD := Asd.mk (HH.out.below HBB.out)
    have HB3 : Asd (w1.heap.size < w4.heap.size) := Asd.mk (blk_lt HU0.out)
    generalize w1.heap.size = b3 at HU0 HSW HSZ HB3 ⊢
    cases hs : sub with
    | none =>
      have HE : Asd (notP nm l sub i = .error (stopAt l i, 21)) := Asd.mk (by unfold notP; rw [if_pos HT.out, hs])
      have hnd := HNO.out hs
      refine (within_calls 107 #[.pointer (some ⟨w.heap.size, 0, none⟩), .pointer (some ⟨w.heap.size + 1, 0, none⟩), .pointer (some ⟨b3, 0, none⟩)] (fun k => k = R) R A m c l i d (.error (stopAt l i, 21)) (fun _ => True) w4 HNE.out rfl (isGo_of Tryz.func107 (by kernel_rfl) rfl) HLT.out HD.out (fun _ _ _ => trivial) HRD.out (fun h => absurd h hnd)).mono ?_
      rintro e w5 ⟨hf5, hm⟩
      rw [if_neg hnd] at hm
      obtain ⟨N, rfl, hN⟩ := hm
      refine ⟨rfl, ?_⟩
      rw [← hs, HE.out]
      exact got_error (frR_below HBB.out hf5) ⟨N, rfl, hN⟩
    | some p =>
      obtain ⟨hd32, hpart⟩ := HSO.out p hs
      have HPA := Asd.mk hpart
      have HE : Asd (notP nm l sub i = match p.not (i + 1) with | .error x => .error x | .ok (e, j) => .ok (unE 2 e, j)) := Asd.mk (by unfold notP; rw [if_pos HT.out, hs]; rfl)
      have HS := Asd.mk hs
      refine (within_calls 107 #[.pointer (some ⟨w.heap.size, 0, none⟩), .pointer (some ⟨w.heap.size + 1, 0, none⟩), .pointer (some ⟨b3, 0, none⟩)] (fun k => k = R ∨ k = b3) R A m c l i d (resJ (p.not (i + 1))) (ArgAt b3 w4.heap.size 2 (p.not (i + 1))) w4 HNE.out (.inl rfl) (isGo_of Tryz.func107 (by kernel_rfl) rfl) HLT.out HD.out (fun W v hq => hq.set (by have := HSW.out; have := HRW.out; omega) (by have := HB3.out; have := HSW.out; have := HRW.out; omega) 2 v) HRD.out (fun _ w' hf' hr' => ?_)).mono ?_
      · refine (not1_calls cap K w.heap.size (w.heap.size + 1) b3 R A m c l p.not (i + 1) (d + 1) w' (blk_fr HP3.out hf' (by show ¬ w.heap.size = R; have := HRW.out; omega)) (blk_fr HU0.out hf' (by show ¬ b3 = R; have := HSW.out; have := HRW.out; omega)) (blk_fr HC3.out hf' (by show ¬ w.heap.size + 1 = R; have := HRW.out; omega)) (HKS.out _ _ (frR_below HBB.out hf') HK.out) (by have := HSW.out; have := HRW.out; omega) (by have := HSW.out; have := HRW.out; omega) HPA.out hr').mono ?_
        rintro e w'' ⟨h1, h2⟩
        exact ⟨h1, ins_mono h2 fun W hq => hq.mono hf'.size⟩
      · rintro e w5 ⟨hf5, hm⟩
        rw [if_pos hd32] at hm
        have HF5 : Asd (Fr (fun k => k = R) w w5) := Asd.mk (fr_new (Fr.of_below HBB.out) hf5 (fun k hk => by rcases hk with h | h; exact .inl h; exact .inr (by have := HSW.out; omega)))
        have HZ5 := Asd.mk (blk_fr HZ3.out hf5 (by show ¬ (w.heap.size + 1 + 1 = R ∨ w.heap.size + 1 + 1 = b3); have := HSZ.out; have := HRW.out; omega))
        clear hf5
        cases hfi : p.not (i + 1) with
        | error er =>
          rw [hfi] at hm
          obtain ⟨N, rfl, hN⟩ := hm
          have HE2 : Asd (notP nm l sub i = .error er) := Asd.mk (by rw [HE.out, hfi])
          clear hfi
          go_wp2
          refine ⟨rfl, ?_⟩
          first | rw [HE2.out] | rw [← HS.out, HE2.out]
          exact got_error HF5.out ⟨N, rfl, hN⟩
        | ok y =>
          obtain ⟨x, j⟩ := y
          rw [hfi] at hm
          obtain ⟨rfl, hr5, A5, n5, c5, hb5, hh5⟩ := hm
          have HE2 : Asd (notP nm l sub i = .ok (unE 2 x, j)) := Asd.mk (by rw [HE.out, hfi])
          have HR5 := Asd.mk hr5
          have HH5 := Asd.mk hh5
          obtain ⟨e0, e1, e2, e3, e4, e5, e6, e7, e8, e9⟩ := ex_cells hb5
          clear hfi hr5 hh5 hb5
          have y0 := (blk_cell HZ5.out 0).trans rfl
          have y1 := (blk_cell HZ5.out 1).trans rfl
          have y2 := (blk_cell HZ5.out 2).trans rfl
          have y3 := (blk_cell HZ5.out 3).trans rfl
          have y4 := (blk_cell HZ5.out 4).trans rfl
          have y5 := (blk_cell HZ5.out 5).trans rfl
          have y6 := (blk_cell HZ5.out 6).trans rfl
          have y7 := (blk_cell HZ5.out 7).trans rfl
          have y8 := (blk_cell HZ5.out 8).trans rfl
          have y9 := (blk_cell HZ5.out 9).trans rfl
          have z0 := blk_frozen HZ5.out 0
          have z1 := blk_frozen HZ5.out 1
          have z2 := blk_frozen HZ5.out 2
          have z3 := blk_frozen HZ5.out 3
          have z4 := blk_frozen HZ5.out 4
          have z5 := blk_frozen HZ5.out 5
          have z6 := blk_frozen HZ5.out 6
          have z7 := blk_frozen HZ5.out 7
          have z8 := blk_frozen HZ5.out 8
          have z9 := blk_frozen HZ5.out 9
          go_wp2
          refine bodyPost_ret (results_cell_row rfl _ _ (w.heap.size + 1 + 1) 26 _ (0, 0) _ rfl (put10_blk HZ5.out _ _ _ _ _ _ _ _ _ _) Tryz.underlying26 rfl (by kernel_rfl)) rfl ?_
          first | rw [HE2.out] | rw [← HS.out, HE2.out]
          exact fin_got HH.out HF5.out (by omega) HR5.out (held_mono HH5.out fun g _ hg => by have h1 := hg.1; have := HB3.out; have := HSZ.out; exact ⟨by omega, by omega⟩)

theorem sgTest_ok : SgOK sgTest := ⟨by decide, by decide, by decide, by decide⟩
set_option maxRecDepth 100000 in
theorem or1_calls (cap : Array Value) (K : World → Prop) (b1 bc R : Nat) (A : Option Addr) (m c : Nat) (l : Toks) (f : Nat → Res Ex) (i d : Nat) (w : World) (hK : K w) (hKs : Stays R K)
    (p1 : w.heap[b1]? = some (.cells #[.pointer (some ⟨R, 0, none⟩)] 91 (0, 0))) (pc : w.heap[bc]? = some (.cells #[.func (.func 99) #[] cap] 94 (0, 0)))
    (hf : PartK 85 cap K R A m c l f d) (h : RdW w R A m c l i d) :
    Calls Tryz.prog 84 #[.pointer (some ⟨b1, 0, none⟩), .pointer (some ⟨bc, 0, none⟩)] w (Got R A m c l d w (f i)) := by
  have HH := Asd.mk h
  have HF := Asd.mk hf
  have HK := Asd.mk hK
  have HKS := Asd.mk hKs
  have hst := st_func
  have HBA := Asd.mk (below_alloc (Below.refl _ w) (.cells #[.int .i64 0, .int .i64 0, .int .i64 0, .int .i64 0, .string ⟨#[]⟩, .string ⟨#[]⟩, .string ⟨#[]⟩, .int .i64 0, .int .i64 0, .slice none 0 0] 26 (0, 0)))
  have HZ0 := Asd.mk (blk_new w (.cells #[.int .i64 0, .int .i64 0, .int .i64 0, .int .i64 0, .string ⟨#[]⟩, .string ⟨#[]⟩, .string ⟨#[]⟩, .int .i64 0, .int .i64 0, .slice none 0 0] 26 (0, 0)))
  have HRW : Asd (R < w.heap.size) := Asd.mk (blk_lt h.blk)
  have HP1 := Asd.mk (blk_alloc p1 (.cells #[.int .i64 0, .int .i64 0, .int .i64 0, .int .i64 0, .string ⟨#[]⟩, .string ⟨#[]⟩, .string ⟨#[]⟩, .int .i64 0, .int .i64 0, .slice none 0 0] 26 (0, 0)))
  have HC1 := Asd.mk (blk_alloc pc (.cells #[.int .i64 0, .int .i64 0, .int .i64 0, .int .i64 0, .string ⟨#[]⟩, .string ⟨#[]⟩, .string ⟨#[]⟩, .int .i64 0, .int .i64 0, .slice none 0 0] 26 (0, 0)))
  clear h hf hK hKs p1 pc
  go_enter Tryz.func84, Tryz.ntmps84
  have c1 := (blk_cell HP1.out 0).trans rfl
  have c2 := (blk_cell HC1.out 0).trans rfl
  go_wp2_with fail
  generalize w.alloc (.cells #[.int .i64 0, .int .i64 0, .int .i64 0, .int .i64 0, .string ⟨#[]⟩, .string ⟨#[]⟩, .string ⟨#[]⟩, .int .i64 0, .int .i64 0, .slice none 0 0] 26 (0, 0)) = w0 at HBA HZ0 HP1 HC1 ⊢
  refine (HF.out w0 i (HH.out.below HBA.out) (HKS.out _ _ (Fr.of_below HBA.out) HK.out)).mono ?_
  rintro e w2 ⟨hf2, hm⟩
  have HF2 := Asd.mk (frR_below HBA.out hf2)
  have HSZ : Asd (w.heap.size < w0.heap.size) := Asd.mk (blk_lt HZ0.out)
  have HZ2 := Asd.mk (blk_fr HZ0.out hf2 (by show ¬ w.heap.size = R; have := HRW.out; omega))
  clear hf2
  cases hfi : f i with
  | error er =>
    rw [hfi] at hm
    obtain ⟨N, rfl, hN⟩ := hm
    have HE := Asd.mk hfi
    clear hfi
    go_wp2
    refine ⟨rfl, ?_⟩
    exact got_error HF2.out ⟨N, rfl, hN⟩
  | ok y =>
    obtain ⟨x, j⟩ := y
    rw [hfi] at hm
    have HE := Asd.mk hfi
    obtain ⟨s, rfl, hh, hr⟩ := hm
    obtain ⟨As, ms, cs, rfl⟩ := held_slice hh
    have HHX := Asd.mk hh
    have HRX := Asd.mk hr
    clear hfi hh hr
    unfold exV
    have y0 := (blk_cell HZ2.out 0).trans rfl
    have y1 := (blk_cell HZ2.out 1).trans rfl
    have y2 := (blk_cell HZ2.out 2).trans rfl
    have y3 := (blk_cell HZ2.out 3).trans rfl
    have y4 := (blk_cell HZ2.out 4).trans rfl
    have y5 := (blk_cell HZ2.out 5).trans rfl
    have y6 := (blk_cell HZ2.out 6).trans rfl
    have y7 := (blk_cell HZ2.out 7).trans rfl
    have y8 := (blk_cell HZ2.out 8).trans rfl
    have y9 := (blk_cell HZ2.out 9).trans rfl
    have z0 := blk_frozen HZ2.out 0
    have z1 := blk_frozen HZ2.out 1
    have z2 := blk_frozen HZ2.out 2
    have z3 := blk_frozen HZ2.out 3
    have z4 := blk_frozen HZ2.out 4
    have z5 := blk_frozen HZ2.out 5
    have z6 := blk_frozen HZ2.out 6
    have z7 := blk_frozen HZ2.out 7
    have z8 := blk_frozen HZ2.out 8
    have z9 := blk_frozen HZ2.out 9
    go_wp2
    refine bodyPost_ret (results_cell_row rfl _ _ w.heap.size 26 _ (0, 0) _ rfl (put10_blk HZ2.out _ _ _ _ _ _ _ _ _ _) Tryz.underlying26 rfl (by kernel_rfl)) rfl ?_
    rw [HE.out]
    exact fin_got HH.out HF2.out (Nat.le_refl _) HRX.out (held_mono HHX.out fun g _ hg => by have h1 : w0.heap.size ≤ g := hg; have := HSZ.out; exact ⟨by omega, by omega⟩)
set_option maxRecDepth 100000 in
theorem test_calls (cap : Array Value) (K : World → Prop) (nm : List UInt8 → Bool) (R : Nat) (A : Option Addr) (m c : Nat) (l : Toks) (sub : Option PF) (i d : Nat) (w : World) (hnear : Near l) (hahd : Ahd (catP nm l sub))
    (hKs : Stays R K) (hK : K w) (hcat : ∀ w, K w → OpOK 99 cap R A m c l (catP nm l sub) d w) (h : RdW w R A m c l i d) :
    Calls Tryz.prog 106 #[.pointer (some ⟨R, 0, none⟩), .func (.func 99) #[] cap] w (Got R A m c l d w (testP nm l sub i)) := by
  have HH := Asd.mk h
  have HCAT := Asd.mk hcat
  have HK := Asd.mk hK
  have HKS := Asd.mk hKs
  have HNE := Asd.mk hnear
  have HBA := Asd.mk (below_alloc (Below.refl _ w) (.cells #[.int .i64 0, .int .i64 0, .int .i64 0, .int .i64 0, .string ⟨#[]⟩, .string ⟨#[]⟩, .string ⟨#[]⟩, .int .i64 0, .int .i64 0, .slice none 0 0] 26 (0, 0)))
  have HZ0 := Asd.mk (blk_new w (.cells #[.int .i64 0, .int .i64 0, .int .i64 0, .int .i64 0, .string ⟨#[]⟩, .string ⟨#[]⟩, .string ⟨#[]⟩, .int .i64 0, .int .i64 0, .slice none 0 0] 26 (0, 0)))
  have HRW : Asd (R < w.heap.size) := Asd.mk (blk_lt h.blk)
  clear h hcat hK hKs hnear hahd
  go_enter Tryz.func106, Tryz.ntmps106
  go_wp2_with fail
  generalize w.alloc (.cells #[.int .i64 0, .int .i64 0, .int .i64 0, .int .i64 0, .string ⟨#[]⟩, .string ⟨#[]⟩, .string ⟨#[]⟩, .int .i64 0, .int .i64 0, .slice none 0 0] 26 (0, 0)) = w0 at HBA HZ0 ⊢
  try simp only [Array.empty_append]
  refine (HCAT.out w HK.out w0 (Fr.of_below HBA.out) i (HH.out.below HBA.out)).mono ?_
  rintro e w1 ⟨hf1, hm⟩
  have HF1 := Asd.mk (frR_below HBA.out hf1)
  have HSZ : Asd (w.heap.size < w0.heap.size) := Asd.mk (blk_lt HZ0.out)
  have HZ1 := Asd.mk (blk_fr HZ0.out hf1 (by show ¬ w.heap.size = R; have := HRW.out; omega))
  clear hf1
  cases hfi : catP nm l sub i with
  | error er =>
    rw [hfi] at hm
    obtain ⟨N, rfl, hN⟩ := hm
    have HE : Asd (testP nm l sub i = .error er) := Asd.mk (by unfold testP; rw [hfi])
    clear hfi
    go_wp2
    refine ⟨rfl, ?_⟩
    rw [HE.out]
    exact got_error HF1.out ⟨N, rfl, hN⟩
  | ok y =>
    obtain ⟨x, j⟩ := y
    rw [hfi] at hm
    have HCI := Asd.mk hfi
    obtain ⟨s, rfl, hh, hr⟩ := hm
    obtain ⟨As, ms, cs, rfl⟩ := held_slice hh
    have HHX : Asd (Held (fun g => w.heap.size < g) w1 x.args (.slice As ms cs)) := Asd.mk (held_mono hh fun g _ hg => by have h1 : w0.heap.size ≤ g := hg; have := HSZ.out; show w.heap.size < g; omega)
    have HRX := Asd.mk hr
    clear hfi hh hr
    unfold exV
    have HBB := Asd.mk (below_alloc (Below.refl _ w1) (.cells #[.int .i64 x.kind, .int .i64 x.op, .int .i64 x.v.kind, .int .i64 x.v.int, .string ⟨x.v.text.toArray⟩, .string ⟨x.table.toArray⟩, .string ⟨x.name.toArray⟩, .int .i64 x.col, .int .i64 x.ty, .slice As ms cs] 26 (0, 0)))
    have HX0 := Asd.mk (blk_new w1 (.cells #[.int .i64 x.kind, .int .i64 x.op, .int .i64 x.v.kind, .int .i64 x.v.int, .string ⟨x.v.text.toArray⟩, .string ⟨x.table.toArray⟩, .string ⟨x.name.toArray⟩, .int .i64 x.col, .int .i64 x.ty, .slice As ms cs] 26 (0, 0)))
    have HZ2 := Asd.mk (blk_alloc HZ1.out (.cells #[.int .i64 x.kind, .int .i64 x.op, .int .i64 x.v.kind, .int .i64 x.v.int, .string ⟨x.v.text.toArray⟩, .string ⟨x.table.toArray⟩, .string ⟨x.name.toArray⟩, .int .i64 x.col, .int .i64 x.ty, .slice As ms cs] 26 (0, 0)))
    have HLX : Asd (w.heap.size < w1.heap.size) := Asd.mk (blk_lt HZ1.out)
    go_wp2_with fail
    generalize w1.alloc (.cells #[.int .i64 x.kind, .int .i64 x.op, .int .i64 x.v.kind, .int .i64 x.v.int, .string ⟨x.v.text.toArray⟩, .string ⟨x.table.toArray⟩, .string ⟨x.name.toArray⟩, .int .i64 x.col, .int .i64 x.ty, .slice As ms cs] 26 (0, 0)) = w2 at HBB HX0 HZ2 ⊢
    have HR2 := Asd.mk (HRX.out.below HBB.out)
    have HH2 : Asd (Held (fun g => w.heap.size < g ∧ g ≠ w1.heap.size) w2 x.args (.slice As ms cs)) := Asd.mk (held_below (held_mono HHX.out fun g h1 hg => ⟨hg, by omega⟩) HBB.out)
    have HF2 := Asd.mk (below_frR HF1.out HBB.out)
    generalize w1.heap.size = b5 at HX0 HLX HH2 ⊢
    refine (take_calls R A m c l j d 1 [105, 115] w2 (by omega) HR2.out).mono ?_
    rintro e w3 ⟨rfl, hf3, hr3⟩
    have HF3 := Asd.mk (frR_trans HF2.out hf3)
    have HZ3 := Asd.mk (blk_fr HZ2.out hf3 (by show ¬ w.heap.size = R; have := HRW.out; omega))
    have HX3 := Asd.mk (blk_fr HX0.out hf3 (by show ¬ b5 = R; have := HRW.out; have := HLX.out; omega))
    have HH3 := Asd.mk (held_frS HH2.out hf3 (fun g hg h => by have h1 := hg.1; have h2 : g = R := h; have := HRW.out; omega))
    have HRT := Asd.mk hr3
    clear hf3 hr3
    have x0 := (blk_cell HX3.out 0).trans rfl
    have x1 := (blk_cell HX3.out 1).trans rfl
    have x2 := (blk_cell HX3.out 2).trans rfl
    have x3 := (blk_cell HX3.out 3).trans rfl
    have x4 := (blk_cell HX3.out 4).trans rfl
    have x5 := (blk_cell HX3.out 5).trans rfl
    have x6 := (blk_cell HX3.out 6).trans rfl
    have x7 := (blk_cell HX3.out 7).trans rfl
    have x8 := (blk_cell HX3.out 8).trans rfl
    have x9 := (blk_cell HX3.out 9).trans rfl
    cases hT : isT l j 1 [105, 115] with
    | true =>
      have HR3 : Asd (RdW w3 R A m c l (j + 1) d) := Asd.mk (by have := HRT.out; unfold tookT at this; rw [hT] at this; exact this)
      have HT := Asd.mk hT
      clear hT
      have HBC := Asd.mk (below_alloc (below_alloc (Below.refl _ w3) (.cells #[.int .i64 x.kind, .int .i64 x.op, .int .i64 x.v.kind, .int .i64 x.v.int, .string ⟨x.v.text.toArray⟩, .string ⟨x.table.toArray⟩, .string ⟨x.name.toArray⟩, .int .i64 x.col, .int .i64 x.ty, .slice As ms cs] 26 (0, 0))) (.cells #[.int .i64 7, .int .i64 0, .int .i64 0, .int .i64 0, .string ⟨#[]⟩, .string ⟨#[]⟩, .string ⟨#[]⟩, .int .i64 0, .int .i64 0, .slice (some ⟨w3.heap.size, 0, none⟩) 1 1] 26 (0, 0)))
      have HS0 := Asd.mk (blk_alloc (blk_new w3 (.cells #[.int .i64 x.kind, .int .i64 x.op, .int .i64 x.v.kind, .int .i64 x.v.int, .string ⟨x.v.text.toArray⟩, .string ⟨x.table.toArray⟩, .string ⟨x.name.toArray⟩, .int .i64 x.col, .int .i64 x.ty, .slice As ms cs] 26 (0, 0))) (.cells #[.int .i64 7, .int .i64 0, .int .i64 0, .int .i64 0, .string ⟨#[]⟩, .string ⟨#[]⟩, .string ⟨#[]⟩, .int .i64 0, .int .i64 0, .slice (some ⟨w3.heap.size, 0, none⟩) 1 1] 26 (0, 0)))
      have HV0 := Asd.mk (nb1 w3 (.cells #[.int .i64 x.kind, .int .i64 x.op, .int .i64 x.v.kind, .int .i64 x.v.int, .string ⟨x.v.text.toArray⟩, .string ⟨x.table.toArray⟩, .string ⟨x.name.toArray⟩, .int .i64 x.col, .int .i64 x.ty, .slice As ms cs] 26 (0, 0)) (.cells #[.int .i64 7, .int .i64 0, .int .i64 0, .int .i64 0, .string ⟨#[]⟩, .string ⟨#[]⟩, .string ⟨#[]⟩, .int .i64 0, .int .i64 0, .slice (some ⟨w3.heap.size, 0, none⟩) 1 1] 26 (0, 0)))
      have HZ4 := Asd.mk (blk_below HBC.out HZ3.out)
      have HSZ3 : Asd (w.heap.size < w3.heap.size ∧ b5 < w3.heap.size) := Asd.mk ⟨blk_lt HZ3.out, blk_lt HX3.out⟩
      go_wp2_with fail
      generalize (w3.alloc (.cells #[.int .i64 x.kind, .int .i64 x.op, .int .i64 x.v.kind, .int .i64 x.v.int, .string ⟨x.v.text.toArray⟩, .string ⟨x.table.toArray⟩, .string ⟨x.name.toArray⟩, .int .i64 x.col, .int .i64 x.ty, .slice As ms cs] 26 (0, 0))).alloc (.cells #[.int .i64 7, .int .i64 0, .int .i64 0, .int .i64 0, .string ⟨#[]⟩, .string ⟨#[]⟩, .string ⟨#[]⟩, .int .i64 0, .int .i64 0, .slice (some ⟨w3.heap.size, 0, none⟩) 1 1] 26 (0, 0)) = w4 at HBC HS0 HV0 HZ4 ⊢
      have HR4 := Asd.mk (HR3.out.below HBC.out)
      have HF4 := Asd.mk (below_frR HF3.out HBC.out)
      have HH4 : Asd (Held (fun g => w.heap.size < g ∧ g < w3.heap.size) w4 x.args (.slice As ms cs)) := Asd.mk (held_below (held_mono HH3.out fun g h1 hg => ⟨hg.1, h1⟩) HBC.out)
      generalize w3.heap.size = b6 at HS0 HV0 HSZ3 HH4 ⊢
      refine (take_calls R A m c l (j + 1) d 1 [110, 111, 116] w4 (by omega) HR4.out).mono ?_
      rintro e w5 ⟨rfl, hf5, hr5⟩
      have HF5 := Asd.mk (frR_trans HF4.out hf5)
      have HZ5 := Asd.mk (blk_fr HZ4.out hf5 (by show ¬ w.heap.size = R; have := HRW.out; omega))
      have HS5 := Asd.mk (blk_fr HS0.out hf5 (by show ¬ b6 = R; have := HRW.out; have := HSZ3.out.1; omega))
      have HV5 := Asd.mk (blk_fr HV0.out hf5 (by show ¬ b6 + 1 = R; have := HRW.out; have := HSZ3.out.1; omega))
      have HH5 := Asd.mk (held_frS HH4.out hf5 (fun g hg h => by have h1 := hg.1; have h2 : g = R := h; have := HRW.out; omega))
      have HRU := Asd.mk hr5
      clear hf5 hr5 x0 x1 x2 x3 x4 x5 x6 x7 x8 x9
      cases hU : isT l (j + 1) 1 [110, 111, 116] with
      | true =>
        have HR5 : Asd (RdW w5 R A m c l (j + 2) d) := Asd.mk (by have := HRU.out; unfold tookT at this; rw [hU] at this; exact this)
        have HU := Asd.mk hU
        clear hU
        have v1 := (blk_cell HV5.out 1).trans rfl
        have f1 := blk_frozen HV5.out 1
        have hst := Fr.setCell (S := fun k => k = b6 + 1) (Fr.refl _ w5) (p := ⟨b6 + 1, 1, none⟩) rfl (.int .i64 1)
        have HV6 : Asd ((w5.setCell ⟨b6 + 1, 1, none⟩ (.int .i64 1)).heap[b6 + 1]? = some (.cells #[.int .i64 7, .int .i64 1, .int .i64 0, .int .i64 0, .string ⟨#[]⟩, .string ⟨#[]⟩, .string ⟨#[]⟩, .int .i64 0, .int .i64 0, .slice (some ⟨b6, 0, none⟩) 1 1] 26 (0, 0))) := Asd.mk ((blk_set HV5.out 1 (.int .i64 1)).trans rfl)
        have HF6 := Asd.mk (fr_new HF5.out hst (fun k hk => .inr (by have h1 : k = b6 + 1 := hk; have := HSZ3.out.1; omega)))
        have HR6 := Asd.mk (HR5.out.var hst (by have := HRW.out; have := HSZ3.out.1; omega) (by have := HRW.out; have := HSZ3.out.1; omega) (x := nullE 0 x) (y := nullE 1 x) HV5.out HV6.out)
        have HZ6 := Asd.mk (blk_fr HZ5.out hst (by show ¬ w.heap.size = b6 + 1; have := HSZ3.out.1; omega))
        have HS6 := Asd.mk (blk_fr HS5.out hst (by show ¬ b6 = b6 + 1; omega))
        have HH6 := Asd.mk (held_frS HH5.out hst (fun g hg h => by have h1 := hg.2; have h2 : g = b6 + 1 := h; omega))
        clear hst
        go_wp2_with fail
        refine (must_calls R A m c l (j + 2) d 1 [110, 117, 108, 108] _ HNE.out (by omega) HR6.out).mono ?_
        rintro e w7 ⟨hf7, hm⟩
        have HF7 := Asd.mk (frR_trans HF6.out hf7)
        have HZ7 := Asd.mk (blk_fr HZ6.out hf7 (by show ¬ w.heap.size = R; have := HRW.out; omega))
        have HS7 := Asd.mk (blk_fr HS6.out hf7 (by show ¬ b6 = R; have := HRW.out; have := HSZ3.out.1; omega))
        have HV7 := Asd.mk (blk_fr HV6.out hf7 (by show ¬ b6 + 1 = R; have := HRW.out; have := HSZ3.out.1; omega))
        have HH7 := Asd.mk (held_frS HH6.out hf7 (fun g hg h => by have h1 := hg.1; have h2 : g = R := h; have := HRW.out; omega))
        clear hf7
        cases hM : mustT l (j + 2) 1 [110, 117, 108, 108] with
        | error er =>
          rw [hM] at hm
          obtain ⟨N, rfl, hN⟩ := hm
          have HE : Asd (testP nm l sub i = .error er) := Asd.mk (by unfold testP; rw [HCI.out]; simp only; rw [if_pos HT.out, HU.out]; simp only [if_true, if_false, Bool.false_eq_true]; rw [hM])
          clear hM
          go_wp2
          refine ⟨rfl, ?_⟩
          rw [HE.out]
          exact got_error HF7.out ⟨N, rfl, hN⟩
        | ok q =>
          rw [hM] at hm
          obtain ⟨rfl, hr7⟩ := hm
          have HE : Asd (testP nm l sub i = .ok (nullE 1 x, q)) := Asd.mk (by unfold testP; rw [HCI.out]; simp only; rw [if_pos HT.out, HU.out]; simp only [if_true, if_false, Bool.false_eq_true]; rw [hM])
          have HR7 := Asd.mk hr7
          clear hM hr7
          have x0 := (blk_cell HV7.out 0).trans rfl
          have x1 := (blk_cell HV7.out 1).trans rfl
          have x2 := (blk_cell HV7.out 2).trans rfl
          have x3 := (blk_cell HV7.out 3).trans rfl
          have x4 := (blk_cell HV7.out 4).trans rfl
          have x5 := (blk_cell HV7.out 5).trans rfl
          have x6 := (blk_cell HV7.out 6).trans rfl
          have x7 := (blk_cell HV7.out 7).trans rfl
          have x8 := (blk_cell HV7.out 8).trans rfl
          have x9 := (blk_cell HV7.out 9).trans rfl
          have y0 := (blk_cell HZ7.out 0).trans rfl
          have y1 := (blk_cell HZ7.out 1).trans rfl
          have y2 := (blk_cell HZ7.out 2).trans rfl
          have y3 := (blk_cell HZ7.out 3).trans rfl
          have y4 := (blk_cell HZ7.out 4).trans rfl
          have y5 := (blk_cell HZ7.out 5).trans rfl
          have y6 := (blk_cell HZ7.out 6).trans rfl
          have y7 := (blk_cell HZ7.out 7).trans rfl
          have y8 := (blk_cell HZ7.out 8).trans rfl
          have y9 := (blk_cell HZ7.out 9).trans rfl
          have z0 := blk_frozen HZ7.out 0
          have z1 := blk_frozen HZ7.out 1
          have z2 := blk_frozen HZ7.out 2
          have z3 := blk_frozen HZ7.out 3
          have z4 := blk_frozen HZ7.out 4
          have z5 := blk_frozen HZ7.out 5
          have z6 := blk_frozen HZ7.out 6
          have z7 := blk_frozen HZ7.out 7
          have z8 := blk_frozen HZ7.out 8
          have z9 := blk_frozen HZ7.out 9
          go_wp2
          refine bodyPost_ret (results_cell_row rfl _ _ w.heap.size 26 _ (0, 0) _ rfl (put10_blk HZ7.out _ _ _ _ _ _ _ _ _ _) Tryz.underlying26 rfl (by kernel_rfl)) rfl ?_
          rw [HE.out]
          refine fin_got (x := nullE 1 x) HH.out HF7.out (Nat.le_refl _) HR7.out ?_
          refine held_of_blk (P := fun g => w.heap.size ≤ g ∧ g ≠ w.heap.size) (c := 1) ⟨by have := HSZ3.out.1; omega, by have := HSZ3.out.1; omega⟩ [(x, .slice As ms cs)] HS7.out ?_
          intro p hp
          simp only [List.mem_singleton] at hp
          subst hp
          exact held_mono HH7.out (fun g _ hg => ⟨Nat.le_of_lt hg.1, by have := hg.1; omega⟩)
      | false =>
        have HR5 : Asd (RdW w5 R A m c l (j + 1) d) := Asd.mk (by have := HRU.out; unfold tookT at this; rw [hU] at this; exact this)
        have HU := Asd.mk hU
        clear hU
        go_wp2_with fail
        refine (must_calls R A m c l (j + 1) d 1 [110, 117, 108, 108] _ HNE.out (by omega) HR5.out).mono ?_
        rintro e w7 ⟨hf7, hm⟩
        have HF7 := Asd.mk (frR_trans HF5.out hf7)
        have HZ7 := Asd.mk (blk_fr HZ5.out hf7 (by show ¬ w.heap.size = R; have := HRW.out; omega))
        have HS7 := Asd.mk (blk_fr HS5.out hf7 (by show ¬ b6 = R; have := HRW.out; have := HSZ3.out.1; omega))
        have HV7 := Asd.mk (blk_fr HV5.out hf7 (by show ¬ b6 + 1 = R; have := HRW.out; have := HSZ3.out.1; omega))
        have HH7 := Asd.mk (held_frS HH5.out hf7 (fun g hg h => by have h1 := hg.1; have h2 : g = R := h; have := HRW.out; omega))
        clear hf7
        cases hM : mustT l (j + 1) 1 [110, 117, 108, 108] with
        | error er =>
          rw [hM] at hm
          obtain ⟨N, rfl, hN⟩ := hm
          have HE : Asd (testP nm l sub i = .error er) := Asd.mk (by unfold testP; rw [HCI.out]; simp only; rw [if_pos HT.out, HU.out]; simp only [if_true, if_false, Bool.false_eq_true]; rw [hM])
          clear hM
          go_wp2
          refine ⟨rfl, ?_⟩
          rw [HE.out]
          exact got_error HF7.out ⟨N, rfl, hN⟩
        | ok q =>
          rw [hM] at hm
          obtain ⟨rfl, hr7⟩ := hm
          have HE : Asd (testP nm l sub i = .ok (nullE 0 x, q)) := Asd.mk (by unfold testP; rw [HCI.out]; simp only; rw [if_pos HT.out, HU.out]; simp only [if_true, if_false, Bool.false_eq_true]; rw [hM])
          have HR7 := Asd.mk hr7
          clear hM hr7
          have x0 := (blk_cell HV7.out 0).trans rfl
          have x1 := (blk_cell HV7.out 1).trans rfl
          have x2 := (blk_cell HV7.out 2).trans rfl
          have x3 := (blk_cell HV7.out 3).trans rfl
          have x4 := (blk_cell HV7.out 4).trans rfl
          have x5 := (blk_cell HV7.out 5).trans rfl
          have x6 := (blk_cell HV7.out 6).trans rfl
          have x7 := (blk_cell HV7.out 7).trans rfl
          have x8 := (blk_cell HV7.out 8).trans rfl
          have x9 := (blk_cell HV7.out 9).trans rfl
          have y0 := (blk_cell HZ7.out 0).trans rfl
          have y1 := (blk_cell HZ7.out 1).trans rfl
          have y2 := (blk_cell HZ7.out 2).trans rfl
          have y3 := (blk_cell HZ7.out 3).trans rfl
          have y4 := (blk_cell HZ7.out 4).trans rfl
          have y5 := (blk_cell HZ7.out 5).trans rfl
          have y6 := (blk_cell HZ7.out 6).trans rfl
          have y7 := (blk_cell HZ7.out 7).trans rfl
          have y8 := (blk_cell HZ7.out 8).trans rfl
          have y9 := (blk_cell HZ7.out 9).trans rfl
          have z0 := blk_frozen HZ7.out 0
          have z1 := blk_frozen HZ7.out 1
          have z2 := blk_frozen HZ7.out 2
          have z3 := blk_frozen HZ7.out 3
          have z4 := blk_frozen HZ7.out 4
          have z5 := blk_frozen HZ7.out 5
          have z6 := blk_frozen HZ7.out 6
          have z7 := blk_frozen HZ7.out 7
          have z8 := blk_frozen HZ7.out 8
          have z9 := blk_frozen HZ7.out 9
          go_wp2
          refine bodyPost_ret (results_cell_row rfl _ _ w.heap.size 26 _ (0, 0) _ rfl (put10_blk HZ7.out _ _ _ _ _ _ _ _ _ _) Tryz.underlying26 rfl (by kernel_rfl)) rfl ?_
          rw [HE.out]
          refine fin_got (x := nullE 0 x) HH.out HF7.out (Nat.le_refl _) HR7.out ?_
          refine held_of_blk (P := fun g => w.heap.size ≤ g ∧ g ≠ w.heap.size) (c := 1) ⟨by have := HSZ3.out.1; omega, by have := HSZ3.out.1; omega⟩ [(x, .slice As ms cs)] HS7.out ?_
          intro p hp
          simp only [List.mem_singleton] at hp
          subst hp
          exact held_mono HH7.out (fun g _ hg => ⟨Nat.le_of_lt hg.1, by have := hg.1; omega⟩)
    | false =>
      have HR3 : Asd (RdW w3 R A m c l j d) := Asd.mk (by have := HRT.out; unfold tookT at this; rw [hT] at this; exact this)
      have HT := Asd.mk hT
      clear hT
      go_wp2_with fail
      refine (tests_calls w3).mono ?_
      rintro e w4 ⟨⟨v, rfl, hv⟩, hb4⟩
      have HV := Asd.mk hv
      have HR4 := Asd.mk (HR3.out.below hb4)
      have HF4 := Asd.mk (below_frR HF3.out hb4)
      have HZ4 := Asd.mk (blk_below hb4 HZ3.out)
      have HX4 := Asd.mk (blk_below hb4 HX3.out)
      have HH4 := Asd.mk (held_below HH3.out hb4)
      clear hb4 hv x0 x1 x2 x3 x4 x5 x6 x7 x8 x9
      go_wp2_with fail
      refine (operator_calls R A m c l j d sgTest v w4 sgTest_ok.pos sgTest_ok.kind sgTest_ok.few HV.out HR4.out).mono ?_
      rintro e w5 ⟨rfl, hf5, hr5⟩
      have HF5 := Asd.mk (frR_trans HF4.out hf5)
      have HZ5 := Asd.mk (blk_fr HZ4.out hf5 (by show ¬ w.heap.size = R; have := HRW.out; omega))
      have HX5 := Asd.mk (blk_fr HX4.out hf5 (by show ¬ b5 = R; have := HRW.out; have := HLX.out; omega))
      have HH5 := Asd.mk (held_frS HH4.out hf5 (fun g hg h => by have h1 := hg.1; have h2 : g = R := h; have := HRW.out; omega))
      have HRO := Asd.mk hr5
      clear hf5 hr5
      cases hO : operT sgTest l j with
      | none =>
        have HR5 : Asd (RdW w5 R A m c l j d) := Asd.mk (by have := HRO.out; unfold tookO at this; rw [hO] at this; exact this)
        have HE : Asd (testP nm l sub i = .ok (x, j)) := Asd.mk (by unfold testP; rw [HCI.out]; simp only; rw [if_neg (by rw [HT.out]; decide), hO])
        rw [show (none : Option Int).getD 0 = 0 from rfl]
        clear hO
        have x0 := (blk_cell HX5.out 0).trans rfl
        have x1 := (blk_cell HX5.out 1).trans rfl
        have x2 := (blk_cell HX5.out 2).trans rfl
        have x3 := (blk_cell HX5.out 3).trans rfl
        have x4 := (blk_cell HX5.out 4).trans rfl
        have x5 := (blk_cell HX5.out 5).trans rfl
        have x6 := (blk_cell HX5.out 6).trans rfl
        have x7 := (blk_cell HX5.out 7).trans rfl
        have x8 := (blk_cell HX5.out 8).trans rfl
        have x9 := (blk_cell HX5.out 9).trans rfl
        have y0 := (blk_cell HZ5.out 0).trans rfl
        have y1 := (blk_cell HZ5.out 1).trans rfl
        have y2 := (blk_cell HZ5.out 2).trans rfl
        have y3 := (blk_cell HZ5.out 3).trans rfl
        have y4 := (blk_cell HZ5.out 4).trans rfl
        have y5 := (blk_cell HZ5.out 5).trans rfl
        have y6 := (blk_cell HZ5.out 6).trans rfl
        have y7 := (blk_cell HZ5.out 7).trans rfl
        have y8 := (blk_cell HZ5.out 8).trans rfl
        have y9 := (blk_cell HZ5.out 9).trans rfl
        have z0 := blk_frozen HZ5.out 0
        have z1 := blk_frozen HZ5.out 1
        have z2 := blk_frozen HZ5.out 2
        have z3 := blk_frozen HZ5.out 3
        have z4 := blk_frozen HZ5.out 4
        have z5 := blk_frozen HZ5.out 5
        have z6 := blk_frozen HZ5.out 6
        have z7 := blk_frozen HZ5.out 7
        have z8 := blk_frozen HZ5.out 8
        have z9 := blk_frozen HZ5.out 9
        go_wp2
        refine bodyPost_ret (results_cell_row rfl _ _ w.heap.size 26 _ (0, 0) _ rfl (put10_blk HZ5.out _ _ _ _ _ _ _ _ _ _) Tryz.underlying26 rfl (by kernel_rfl)) rfl ?_
        rw [HE.out]
        exact fin_got HH.out HF5.out (Nat.le_refl _) HR5.out (held_mono HH5.out fun g _ hg => ⟨Nat.le_of_lt hg.1, by have := hg.1; omega⟩)
      | some o =>
        obtain ⟨xo, hmem, hxo⟩ := operT_mem hO
        have ho : ¬ o = 0 := by rw [← hxo]; exact sgTest_ok.op xo hmem
        have hob : (o != 0) = true := by simp [ho]
        have HO := Asd.mk hO
        have HR5 : Asd (RdW w5 R A m c l (j + 1) d) := Asd.mk (by have := HRO.out; unfold tookO at this; rw [hO] at this; exact this)
        clear hO hmem hxo
        rw [show (some o).getD 0 = o from rfl]
        go_upto_region 10 with fail
        have HFD : Asd (Fr (fun k => k = R) w w5.drew) := Asd.mk HF5.out.drew
        have HXD : Asd (w5.drew.heap[b5]? = some (.cells (exC x (.slice As ms cs)).toArray 26 (0, 0))) := Asd.mk HX5.out
        have HZD : Asd (w5.drew.heap[w.heap.size]? = some (.cells #[.int .i64 0, .int .i64 0, .int .i64 0, .int .i64 0, .string ⟨#[]⟩, .string ⟨#[]⟩, .string ⟨#[]⟩, .int .i64 0, .int .i64 0, .slice none 0 0] 26 (0, 0))) := Asd.mk HZ5.out
        have HHD := Asd.mk (held_below HH5.out (below_drewN' w5 1))
        have HRD := Asd.mk (HR5.out.below (below_drewN' w5 1))
        have HB5D : Asd (b5 < w5.drew.heap.size) := Asd.mk (blk_lt HXD.out)
        have hcf : ∀ (args : Array Value) (w : World), (callFunc 99 args).run Tryz.prog w = .ok (.enter 99 args) w := isGo_chain
        refine wp_region_held_drew (S := fun w' => w'.cell? ⟨b5, 0, none⟩ = some (.int .i64 x.kind) ∧ w'.cell? ⟨b5, 1, none⟩ = some (.int .i64 x.op) ∧ w'.cell? ⟨b5, 2, none⟩ = some (.int .i64 x.v.kind) ∧ w'.cell? ⟨b5, 3, none⟩ = some (.int .i64 x.v.int) ∧ w'.cell? ⟨b5, 4, none⟩ = some (.string ⟨x.v.text.toArray⟩) ∧ w'.cell? ⟨b5, 5, none⟩ = some (.string ⟨x.table.toArray⟩) ∧ w'.cell? ⟨b5, 6, none⟩ = some (.string ⟨x.name.toArray⟩) ∧ w'.cell? ⟨b5, 7, none⟩ = some (.int .i64 x.col) ∧ w'.cell? ⟨b5, 8, none⟩ = some (.int .i64 x.ty) ∧ w'.cell? ⟨b5, 9, none⟩ = some (.slice As ms cs)) (by kernel_rfl) (ex_cells HXD.out) (fun hHeld => ?_)
        refine wpAnyH_take (i := 0) (oi := ({ dst := some 26, op := Op.move (Operand.tmp 7), type := 3, pos := "expr.go:160", after := #[], guard := none } : Oper)) (v := ?va0) rfl (by kernel_rfl) (by kernel_rfl) (by kernel_rfl) (fun _ _ _ h => h) (Or.inl ⟨by rfl, ?ha0⟩) (by assumption) ?ra0
        case ha0 => (intro w hSw; (try dsimp only at hSw); obtain ⟨g0, g1, g2, g3, g4, g5, g6, g7, g8, g9⟩ := hSw; go_simp; try (with_reducible rfl))
        try simp only [Act.put, List.setIfInBounds_toArray, List.set_cons_zero, List.set_cons_succ]
        refine wpAnyH_take (i := 1) (oi := ({ dst := some 27, op := Op.load 26 (Operand.tmp 5), type := 26, pos := "expr.go:160", after := #[], guard := none } : Oper)) (v := ?va1) rfl (by kernel_rfl) (by kernel_rfl) (by kernel_rfl) (fun _ _ _ h => h) (Or.inl ⟨by rfl, ?ha1⟩) (by assumption) ?ra1
        case ha1 => (intro w hSw; (try dsimp only at hSw); obtain ⟨g0, g1, g2, g3, g4, g5, g6, g7, g8, g9⟩ := hSw; go_simp; try (with_reducible rfl))
        try simp only [Act.put, List.setIfInBounds_toArray, List.set_cons_zero, List.set_cons_succ]
        refine wpAnyH_take (i := 2) (oi := ({ dst := some 28, op := Op.move (Operand.tmp 1), type := 94, pos := "expr.go:160", after := #[], guard := none } : Oper)) (v := ?va2) rfl (by kernel_rfl) (by kernel_rfl) (by kernel_rfl) (fun _ _ _ h => h) (Or.inl ⟨by rfl, ?ha2⟩) (by assumption) ?ra2
        case ha2 => (intro w hSw; (try dsimp only at hSw); obtain ⟨g0, g1, g2, g3, g4, g5, g6, g7, g8, g9⟩ := hSw; go_simp; try (with_reducible rfl))
        try simp only [Act.put, List.setIfInBounds_toArray, List.set_cons_zero, List.set_cons_succ]
        refine wpAnyH_ready (rs := [3]) (by kernel_rfl) (by simp) ?_
        refine AllReadyH.cons (o := ({ dst := some 29, op := Op.call { callee := Callee.value (Operand.tmp 28), args := #[], argTypes := #[] }, type := 26, pos := "expr.go:160", after := #[{ on := 2, ground := Ground.data }], guard := none } : Oper)) rfl (fun K0 hK0 => ?_) AllReadyH.nil
        go_simp
        refine (HCAT.out w HK.out _ HFD.out (j + 1) HRD.out).mono ?_
        rintro e w6 ⟨hf6, hm⟩
        have HF6 := Asd.mk (frR_trans HFD.out hf6)
        have HX6 : Asd (w6.heap[b5]? = some (.cells (exC x (.slice As ms cs)).toArray 26 (0, 0))) := Asd.mk (blk_fr HXD.out hf6 (by show ¬ b5 = R; have := HRW.out; have := HLX.out; omega))
        have HZ6 := Asd.mk (blk_fr HZD.out hf6 (by show ¬ w.heap.size = R; have := HRW.out; omega))
        have HH6 := Asd.mk (held_frS HHD.out hf6 (fun g hg h => by have h1 := hg.1; have h2 : g = R := h; have := HRW.out; omega))
        clear hf6
        cases hfy : catP nm l sub (j + 1) with
        | error er =>
          rw [hfy] at hm
          have HE : Asd (testP nm l sub i = .error er) := Asd.mk (by unfold testP; rw [HCI.out]; simp only; rw [if_neg (by rw [HT.out]; decide), HO.out]; simp only; rw [hfy])
          obtain ⟨N, rfl, hN⟩ := hm
          refine ⟨rfl, ?_⟩
          rw [HE.out]
          exact got_error HF6.out ⟨N, rfl, hN⟩
        | ok yy =>
          obtain ⟨y, q⟩ := yy
          rw [hfy] at hm
          have HE : Asd (testP nm l sub i = .ok (pairE o x y, q)) := Asd.mk (by unfold testP; rw [HCI.out]; simp only; rw [if_neg (by rw [HT.out]; decide), HO.out]; simp only; rw [hfy])
          obtain ⟨s6, rfl, hh6, hr6⟩ := hm
          obtain ⟨A6, m6, c6, rfl⟩ := held_slice hh6
          have HR6 := Asd.mk hr6
          have HY6 : Asd (Held (fun g => w.heap.size < g ∧ g ≠ b5) w6 y.args (.slice A6 m6 c6)) := Asd.mk (held_mono hh6 fun g _ hg => by have h1 : w5.drew.heap.size ≤ g := hg; have := HB5D.out; have := HLX.out; exact ⟨by omega, by omega⟩)
          clear hfy hh6 hr6
          unfold exV
          go_wp2_with fail
          refine hK0.out _ _ (ex_cells HX6.out) (fun hHeld => ?_)
          clear hK0 K0
          try simp only [Act.put, List.setIfInBounds_toArray, List.set_cons_zero, List.set_cons_succ]
          refine wpAnyH_ready (rs := [4]) (by kernel_rfl) (by simp) ?_
          refine AllReadyH.cons (o := ({ dst := some 30, op := Op.call { callee := Callee.value (Operand.func 101), args := #[Operand.tmp 26, Operand.tmp 27, Operand.tmp 29], argTypes := #[3, 26, 26] }, type := 26, pos := "expr.go:160", after := #[{ on := 0, ground := Ground.data }, { on := 1, ground := Ground.data }, { on := 3, ground := Ground.data }, { on := 3, ground := Ground.chain }], guard := none } : Oper)) rfl (fun K0 hK0 => ?_) AllReadyH.nil
          go_simp
          refine (pair_calls o x y (.slice As ms cs) (.slice A6 m6 c6) w6 HH6.out HY6.out).mono ?_
          rintro e w7 ⟨⟨s7, rfl, hh7⟩, hb7⟩
          obtain ⟨A7, m7, c7, rfl⟩ := held_slice hh7
          unfold exV
          have HF7 := Asd.mk (below_frR HF6.out hb7)
          have HX7 := Asd.mk (blk_below hb7 HX6.out)
          have HZ7 := Asd.mk (blk_below hb7 HZ6.out)
          have HR7 := Asd.mk (HR6.out.below hb7)
          have HH7 : Asd (Held (fun g => w.heap.size ≤ g ∧ g ≠ w.heap.size) w7 (pairE o x y).args (.slice A7 m7 c7)) := Asd.mk (held_mono hh7 fun g _ hg => by rcases hg with hg | hg; exact ⟨Nat.le_of_lt hg.1, by have := hg.1; omega⟩; have := blk_lt HZ6.out; exact ⟨by omega, by omega⟩)
          clear hb7 hh7
          go_wp2_with fail
          refine hK0.out _ _ (ex_cells HX7.out) (fun hHeld => ?_)
          clear hK0 K0
          try simp only [Act.put, List.setIfInBounds_toArray, List.set_cons_zero, List.set_cons_succ]
          have y0 := (blk_cell HZ7.out 0).trans rfl
          have y1 := (blk_cell HZ7.out 1).trans rfl
          have y2 := (blk_cell HZ7.out 2).trans rfl
          have y3 := (blk_cell HZ7.out 3).trans rfl
          have y4 := (blk_cell HZ7.out 4).trans rfl
          have y5 := (blk_cell HZ7.out 5).trans rfl
          have y6 := (blk_cell HZ7.out 6).trans rfl
          have y7 := (blk_cell HZ7.out 7).trans rfl
          have y8 := (blk_cell HZ7.out 8).trans rfl
          have y9 := (blk_cell HZ7.out 9).trans rfl
          have z0 := blk_frozen HZ7.out 0
          have z1 := blk_frozen HZ7.out 1
          have z2 := blk_frozen HZ7.out 2
          have z3 := blk_frozen HZ7.out 3
          have z4 := blk_frozen HZ7.out 4
          have z5 := blk_frozen HZ7.out 5
          have z6 := blk_frozen HZ7.out 6
          have z7 := blk_frozen HZ7.out 7
          have z8 := blk_frozen HZ7.out 8
          have z9 := blk_frozen HZ7.out 9
          have hx8 := ex_cells (blk_fr HX7.out (put10_fr (W := w7) (b := w.heap.size) (S := fun k => k = w.heap.size) rfl (.int .i64 (pairE o x y).kind) (.int .i64 (pairE o x y).op) (.int .i64 (pairE o x y).v.kind) (.int .i64 (pairE o x y).v.int) (.string ⟨(pairE o x y).v.text.toArray⟩) (.string ⟨(pairE o x y).table.toArray⟩) (.string ⟨(pairE o x y).name.toArray⟩) (.int .i64 (pairE o x y).col) (.int .i64 (pairE o x y).ty) (.slice A7 m7 c7)) (by show ¬ b5 = w.heap.size; have := HLX.out; omega))
          refine wpAnyH_ready (rs := [5]) (by kernel_rfl) (by simp) ?_
          refine AllReadyH.cons (o := ({ dst := none, op := Op.store 26 (Operand.tmp 4) (Operand.tmp 30), type := 0, pos := "expr.go:160", after := #[{ on := 4, ground := Ground.data }, { on := 4, ground := Ground.chain }, { on := 0, ground := Ground.phase }, { on := 1, ground := Ground.phase }, { on := 2, ground := Ground.phase }, { on := 3, ground := Ground.phase }, { on := 4, ground := Ground.phase }], guard := none } : Oper)) rfl (fun K0 hK0 => ?_) AllReadyH.nil
          go_simp
          go_wp2_with fail
          refine hK0.out _ _ hx8 (fun hHeld => ?_)
          clear hK0 K0
          try simp only [Act.put, List.setIfInBounds_toArray, List.set_cons_zero, List.set_cons_succ]
          refine wpAnyH_done (by kernel_rfl) ?_ _
          go_wp2
          refine bodyPost_ret (results_cell_row rfl _ _ w.heap.size 26 _ (0, 0) _ rfl (put10_blk HZ7.out _ _ _ _ _ _ _ _ _ _) Tryz.underlying26 rfl (by kernel_rfl)) rfl ?_
          rw [HE.out]
          exact fin_got HH.out HF7.out (Nat.le_refl _) HR7.out HH7.out
end Go.Proofs.YtbeeaikilcnpgaaGreatDoor.Exp
