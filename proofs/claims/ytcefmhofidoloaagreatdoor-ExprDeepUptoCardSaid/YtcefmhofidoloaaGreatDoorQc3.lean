/- Texts put together: Lx13, Seen, Laid2, ExD, TokSl, Rd0, Rd1, Rd2, Rd3, Hld, Rd4, Rd5, Rd6, Rd7. -/
import Derived.Test.YtcefmhofidoloaaGreatDoorQc2
import Derived.WalkMore
import Derived.Stop.LaidErr
import Derived.LaidHandle
import Derived.LaidLaws
import Derived.ChangeAgain
import Derived.Deep.QuietTactic
import Derived.BigQuiet
import Derived.StillTailTactics
import Derived.Deep.RegionHeld
import Derived.Deep.RegionHeld3
/- Tokens: the walk. -/
set_option linter.unusedVariables false
set_option linter.unusedSimpArgs false
namespace Go.Proofs.YtcefmhofidoloaaGreatDoor.Lex
open Go.RowKit Go.Proofs.YtcefmhofidoloaaGreatDoor.Base Go.Proofs.YtcefmhofidoloaaGreatDoor.App Go.Proofs.YtcefmhofidoloaaGreatDoor.Byt

theorem infoT : (Tryz.prog.info? 52).map (fun i => (i.zero, i.size, i.bytes)) = some (some (.agg #[.int .i64 0, .string ⟨#[]⟩, .int .i64 0, .int .i64 0]), 4, 40) := by kernel_rfl
theorem rowT : RowT Tryz.prog 40 52 4 40 := ⟨Tryz.underlying40, by obtain ⟨i, h1, h2, h3, h4⟩ := info_parts infoT; exact ⟨i, _, h1, h2, h3, h4, rfl⟩, by decide⟩
def tcells (x : Tk × Nat) : List Value := [.int .i64 (x.1.kind : Int), .string ⟨x.1.text.toArray⟩, .int .i64 (x.2 : Nat), .int .i64 x.1.num]
def tkCells (l : List (Tk × Nat)) : List Value := l.flatMap tcells
theorem tkCells_snoc (l : List (Tk × Nat)) (x : Tk × Nat) : tkCells (l ++ [x]) = tkCells l ++ tcells x := by simp [tkCells]
/-- An error with a place. -/
def FaultE (w : World) (e : Ending) (w' : World) (k : Nat) (n : Int) : Prop :=
  ∃ N, e = .returned (.tuple #[.slice none 0 0, .iface 93 (.pointer (some ⟨N, 0, none⟩))]) ∧ w.heap.size ≤ N ∧ w'.heap[N]? = some (.cells #[.int .i64 (k : Int), .iface 33 (.int .i64 n)] 95 (0, 0))
def LexEnd (l : List UInt8) (w : World) (e : Ending) (w' : World) : Prop :=
  Below w.heap.size w w' ∧ if 16384 < l.length then FaultE w e w' 0 8 else match lexT l with
  | .ok ts => ∃ A m c, e = .returned (.tuple #[.slice A m c, .nilIface]) ∧ m = ts.length ∧ w'.ownsRow w.heap.size 52 4 (.slice A m c) m (tkCells ts)
  | .error k => FaultE w e w' k 20
theorem lex_ok {l : List UInt8} {w w' : World} {e : Ending} {ts : List (Tk × Nat)} {A : Option Addr} {m c : Nat} (h : ¬ 16384 < l.length) (hl : lexT l = .ok ts) (hb : Below w.heap.size w w') (he : e = .returned (.tuple #[.slice A m c, .nilIface])) (hm : m = ts.length) (ho : w'.ownsRow w.heap.size 52 4 (.slice A m c) m (tkCells ts)) : LexEnd l w e w' :=
  ⟨hb, by rw [if_neg h, hl]; exact ⟨A, m, c, he, hm, ho⟩⟩
theorem lex_bad {l : List UInt8} {w w' : World} {e : Ending} {k : Nat} (h : ¬ 16384 < l.length) (hl : lexT l = .error k) (hb : Below w.heap.size w w') (he : FaultE w e w' k 20) : LexEnd l w e w' :=
  ⟨hb, by rw [if_neg h, hl]; exact he⟩
theorem lex_long {l : List UInt8} {w w' : World} {e : Ending} (h : 16384 < l.length) (hb : Below w.heap.size w w') (he : FaultE w e w' 0 8) : LexEnd l w e w' :=
  ⟨hb, by rw [if_pos h]; exact he⟩

set_option maxRecDepth 100000 in
set_option maxHeartbeats 1600000 in
theorem tokens_long (s : ByteArray) (w : World) (hs : 16384 < s.size) :
    Calls Tryz.prog 14 #[.string s] w fun e w' => LexEnd s.data.toList w e w' := by
  have HL := Asd.mk (show 16384 < s.data.toList.length from hs)
  have HB := Asd.mk (below_alloc (Below.refl w.heap.size w) (.cells #[.int .i64 0, .iface 33 (.int .i64 8)] 95))
  have HN := Asd.mk (blk_new w (.cells #[.int .i64 0, .iface 33 (.int .i64 8)] 95))
  go_enter Tryz.func14, Tryz.ntmps14
  go_wp2
  go_step3
  go_wp2
  (try rw [Exit.noGoto_ret])
  refine bodyPost_ret (results_tmp2 rfl _ _ _) rfl ?_
  exact lex_long HL.out HB.out ⟨_, rfl, Nat.le_refl _, HN.out⟩

set_option maxRecDepth 100000 in
set_option maxHeartbeats 6400000 in
theorem tokens_short (s : ByteArray) (w : World) (hs : ¬ 16384 < s.size) (hw : LexW w) :
    Calls Tryz.prog 14 #[.string s] w fun e w' => LexEnd s.data.toList w e w' := by
  have HW := Asd.mk hw
  clear hw
  have HNL := Asd.mk (show ¬ 16384 < s.data.toList.length from hs)
  have HLN : Asd (s.data.toList.length = s.size) := Asd.mk rfl
  go_enter Tryz.func14, Tryz.ntmps14
  go_wp2
  go_step3
  go_wp2
  go_step3
  go_wp2
  go_loopw [4, 5] (fun v4 v5 wr => ∃ (k : Nat) (done : List (Tk × Nat)) (A : Option Addr) (m c : Nat), k ≤ s.size ∧ v4 = .slice A m c ∧ v5 = .int .i64 (k : Int) ∧ Asd (m = done.length) ∧ Asd (done.length ≤ k) ∧ Asd (LexSt s.data.toList done k) ∧ Asd (wr.ownsRow w.heap.size 52 4 (.slice A m c) m (tkCells done)) ∧ Asd (Below w.heap.size w wr)) (fun _ v5 _ => s.size - (intOf v5).toNat)
  case atStart => exact ⟨0, [], none, 0, 0, by omega, rfl, rfl, ⟨rfl⟩, ⟨Nat.le_refl _⟩, ⟨LexSt.start _⟩, ⟨World.ownsRow_nil _ _ _ _⟩, ⟨Below.refl _ _⟩⟩
  case round =>
    obtain ⟨k, done, A, m, c, hk, rfl, rfl, HM, HDK, HS, HO, HB⟩ := hrel
    by_cases hlt : k < s.size
    · have HD := Asd.mk (drop_cons s k hlt)
      have hc8 := s[k].toNat_lt
      have HXL : Asd ((s.extract k s.size).data.toList = s.data.toList.drop k) := Asd.mk (by
        rw [ext_list, List.take_of_length_le (Nat.le_of_eq (show s.data.toList.length = s.size from rfl))])
      have HX1 : Asd (1 ≤ (s.extract k s.size).size) := Asd.mk (by rw [ext_size]; omega)
      have HXS : Asd ((s.extract k s.size).size ≤ 1048576) := Asd.mk (by rw [ext_size]; omega)
      have HWR := Asd.mk (HW.out.below HB.out)
      by_cases hb32 : s[k].toNat = 32
      · have HS2 := Asd.mk (HS.out.blank HD.out (by unfold isBl; rw [show s[k] = 32 from UInt8.toNat_inj.mp hb32]; decide))
        clear HWR HX1 HXS HXL
        go_wp2
        go_roundw
        case rel => exact ⟨k + 1, done, A, m, c, by omega, rfl, by go_num, HM, ⟨by have := HDK.out; omega⟩, HS2, HO, HB⟩
        case measure => simp [intOf]; omega
      · by_cases hb9 : s[k].toNat = 9
        · have HS2 := Asd.mk (HS.out.blank HD.out (by unfold isBl; rw [show s[k] = 9 from UInt8.toNat_inj.mp hb9]; decide))
          clear HWR HX1 HXS HXL
          go_wp2
          go_roundw
          case rel => exact ⟨k + 1, done, A, m, c, by omega, rfl, by go_num, HM, ⟨by have := HDK.out; omega⟩, HS2, HO, HB⟩
          case measure => simp [intOf]; omega
        · by_cases hb10 : s[k].toNat = 10
          · have HS2 := Asd.mk (HS.out.blank HD.out (by unfold isBl; rw [show s[k] = 10 from UInt8.toNat_inj.mp hb10]; decide))
            clear HWR HX1 HXS HXL
            go_wp2
            go_roundw
            case rel => exact ⟨k + 1, done, A, m, c, by omega, rfl, by go_num, HM, ⟨by have := HDK.out; omega⟩, HS2, HO, HB⟩
            case measure => simp [intOf]; omega
          · by_cases hb13 : s[k].toNat = 13
            · have HS2 := Asd.mk (HS.out.blank HD.out (by unfold isBl; rw [show s[k] = 13 from UInt8.toNat_inj.mp hb13]; decide))
              clear HWR HX1 HXS HXL
              go_wp2
              go_roundw
              case rel => exact ⟨k + 1, done, A, m, c, by omega, rfl, by go_num, HM, ⟨by have := HDK.out; omega⟩, HS2, HO, HB⟩
              case measure => simp [intOf]; omega
            · by_cases hb45 : s[k].toNat = 45
              · have h45 : s[k] = 45 := UInt8.toNat_inj.mp hb45
                by_cases hp : (s.data.toList.drop (k + 1)).head? = some 45
                · have HP : Asd (Lib.hasPrefix (s.data.toList.drop k) [45, 45] = true) := Asd.mk (by
                    rw [HD.out, h45, pre2]
                    cases hh : s.data.toList.drop (k + 1) with
                    | nil => rw [hh] at hp; cases hp
                    | cons a b => rw [hh] at hp; injection hp with hp; exact ⟨b, by rw [hp]⟩)
                  by_cases hm : (10 : UInt8) ∈ s.data.toList.drop k
                  · have HS2 := Asd.mk (HS.out.note HD.out h45 hp hm)
                    have HIX := Asd.mk (index_take _ _ hm)
                    have HJL : Asd (k + ((s.data.toList.drop k).takeWhile (· != 10)).length ≤ s.size ∧ 1 ≤ ((s.data.toList.drop k).takeWhile (· != 10)).length) := Asd.mk (by
                      have h := takeW_le (· != (10 : UInt8)) (s.data.toList.drop k)
                      rw [List.length_drop, HLN.out] at h
                      refine ⟨by omega, ?_⟩
                      rw [HD.out, h45, List.takeWhile_cons]
                      simp)
                    generalize ((s.data.toList.drop k).takeWhile (· != 10)).length = j at HS2 HIX HJL
                    obtain ⟨hj, hj1⟩ := HJL.out
                    clear hm hp h45
                    go_wp2_with fail
                    refine (Tryz.strings_HasPrefix (s.extract k s.size) ⟨#[45, 45]⟩ _).mono ?_
                    rintro e w' ⟨rfl, rfl⟩
                    rw [HXL.out, show (⟨#[45, 45]⟩ : ByteArray).data.toList = [45, 45] from rfl, HP.out]
                    go_wp2_with fail
                    refine (Tryz.strings_IndexByte (s.extract k s.size) 10 _).mono ?_
                    rintro e w' ⟨rfl, rfl⟩
                    rw [HXL.out, show ((10 : Int).toNat.toUInt8) = 10 by decide, HIX.out]
                    have hj0 : (0 : Int) ≤ (j : Int) := by omega
                    go_wp2
                    go_roundw
                    case rel => exact ⟨k + j, done, A, m, c, hj, rfl, by go_num, HM, ⟨by have := HDK.out; omega⟩, HS2, HO, HB⟩
                    case measure => simp [intOf]; omega
                  · have HR := Asd.mk (HS.out.last HD.out h45 hp hm)
                    have HIX := Asd.mk (index_not _ _ hm)
                    clear hm hp h45
                    go_wp2_with fail
                    refine (Tryz.strings_HasPrefix (s.extract k s.size) ⟨#[45, 45]⟩ _).mono ?_
                    rintro e w' ⟨rfl, rfl⟩
                    rw [HXL.out, show (⟨#[45, 45]⟩ : ByteArray).data.toList = [45, 45] from rfl, HP.out]
                    go_wp2_with fail
                    refine (Tryz.strings_IndexByte (s.extract k s.size) 10 _).mono ?_
                    rintro e w' ⟨rfl, rfl⟩
                    rw [HXL.out, show ((10 : Int).toNat.toUInt8) = 10 by decide, HIX.out]
                    go_wp2
                    (try rw [Exit.noGoto_ret])
                    refine bodyPost_ret (results_tmp2 rfl _ _ _) rfl ?_
                    exact lex_ok HNL.out HR.out HB.out rfl HM.out HO.out
                · have HP : Asd (Lib.hasPrefix (s.data.toList.drop k) [45, 45] = false) := Asd.mk (by
                    cases hh : Lib.hasPrefix (s.data.toList.drop k) [45, 45] with
                    | false => rfl
                    | true =>
                      obtain ⟨r, hr⟩ := (pre2 _ _ _).mp hh
                      rw [HD.out] at hr
                      injection hr with _ hr
                      exact absurd (by rw [hr]; rfl) hp)
                  have HNB : Asd (¬ isBl s[k]) := Asd.mk (by intro h; unfold isBl at h; rcases h with h | h | h | h; exact hb32 (by rw [h]; rfl); exact hb9 (by rw [h]; rfl); exact hb10 (by rw [h]; rfl); exact hb13 (by rw [h]; rfl))
                  have HNN : Asd (¬ (s[k] = 45 ∧ (s.data.toList.drop (k + 1)).head? = some 45)) := Asd.mk (by intro h; exact hp h.2)
                  clear hp h45
                  go_wp2_with fail
                  refine (Tryz.strings_HasPrefix (s.extract k s.size) ⟨#[45, 45]⟩ _).mono ?_
                  rintro e w' ⟨rfl, rfl⟩
                  rw [HXL.out, show (⟨#[45, 45]⟩ : ByteArray).data.toList = [45, 45] from rfl, HP.out]
                  go_wp2_with fail
                  refine (token_calls (s.extract k s.size) _ HX1.out HXS.out HWR.out).mono ?_
                  rintro e w1 ⟨hb1, he⟩
                  rw [HXL.out] at he
                  have HB1 : Asd (Below w.heap.size w w1) := Asd.mk (HB.out.trans (hb1.mono HB.out.size))
                  have HO1 := Asd.mk (own_below HO.out hb1)
                  clear hb1
                  cases hx : tokP (s.data.toList.drop k) with
                  | none =>
                    rw [hx] at he
                    obtain ⟨kd, tx, nm, rfl⟩ := he
                    have HR := Asd.mk (HS.out.bad HD.out HNB.out HNN.out hx)
                    clear hx
                    have HB2 := Asd.mk (below_alloc (below_alloc HB1.out (.cells #[.int .i64 kd, .string tx, .int .i64 0, .int .i64 nm] 52)) (.cells #[.int .i64 (k : Int), .iface 33 (.int .i64 20)] 95))
                    have HN2 := Asd.mk (blk_new (w1.alloc (.cells #[.int .i64 kd, .string tx, .int .i64 0, .int .i64 nm] 52)) (.cells #[.int .i64 (k : Int), .iface 33 (.int .i64 20)] 95))
                    have HNW : Asd (w.heap.size ≤ (w1.alloc (.cells #[.int .i64 kd, .string tx, .int .i64 0, .int .i64 nm] 52)).heap.size) := Asd.mk (by have := HB1.out.size; simp; omega)
                    rw [show (w1.alloc (.cells #[.int .i64 kd, .string tx, .int .i64 0, .int .i64 nm] 52)).heap.size = w1.heap.size + 1 by simp] at HN2 HNW
                    go_wp2
                    (try rw [Exit.noGoto_ret])
                    refine bodyPost_ret (results_tmp2 rfl _ _ _) rfl ?_
                    exact lex_bad HNL.out HR.out HB2.out ⟨_, rfl, HNW.out, HN2.out⟩
                  | some x =>
                    rw [hx] at he
                    obtain ⟨t, n⟩ := x
                    obtain rfl := he
                    have HS2 := Asd.mk (HS.out.word HD.out HNB.out HNN.out hx)
                    have hn := tokP_le hx
                    rw [List.length_drop, HLN.out] at hn
                    obtain ⟨hn1, hn2⟩ := hn
                    simp only at hn1 hn2
                    have hn0 : 0 < n := hn1
                    have hnk : k + n ≤ s.size := by omega
                    clear hx
                    have HB2 := Asd.mk (below_alloc HB1.out (.cells #[.int .i64 (t.kind : Int), .string ⟨t.text.toArray⟩, .int .i64 0, .int .i64 t.num] 52))
                    have HB12 := Asd.mk (below_alloc (Below.refl w1.heap.size w1) (.cells #[.int .i64 (t.kind : Int), .string ⟨t.text.toArray⟩, .int .i64 0, .int .i64 t.num] 52))
                    have HN2 := Asd.mk (blk_new w1 (.cells #[.int .i64 (t.kind : Int), .string ⟨t.text.toArray⟩, .int .i64 0, .int .i64 t.num] 52))
                    have HNW : Asd (w.heap.size ≤ w1.heap.size) := Asd.mk HB1.out.size
                    go_upto_region 18 with fail
                    generalize w1.alloc (.cells #[.int .i64 (t.kind : Int), .string ⟨t.text.toArray⟩, .int .i64 0, .int .i64 t.num] 52) = W2 at HB2 HB12 HN2 ⊢
                    have x2 := (blk_cell HN2.out 2).trans rfl
                    have z2 := blk_frozen HN2.out 2
                    go_upto_region 21 with fail
                    have HB13 := Asd.mk (HB12.out.setCell (p := ⟨w1.heap.size, 2, none⟩) (Nat.le_refl _) (.int .i64 (k : Int)))
                    have HB3 := Asd.mk (HB2.out.setCell (p := ⟨w1.heap.size, 2, none⟩) HNW.out (.int .i64 (k : Int)))
                    have HN3 := Asd.mk ((blk_set HN2.out 2 (.int .i64 (k : Int))).trans rfl)
                    have HO3 := Asd.mk (own_below HO1.out HB13.out)
                    generalize W2.setCell ⟨w1.heap.size, 2, none⟩ (.int .i64 (k : Int)) = W3 at HB3 HN3 HO3 ⊢
                    have y0 := (blk_cell HN3.out 0).trans rfl
                    have y1 := (blk_cell HN3.out 1).trans rfl
                    have y2 := (blk_cell HN3.out 2).trans rfl
                    have y3 := (blk_cell HN3.out 3).trans rfl
                    have HO4 := Asd.mk (HO3.out.alloc (.cells #[.int .i64 (t.kind : Int), .string ⟨t.text.toArray⟩, .int .i64 (k : Int), .int .i64 t.num] 52))
                    have HF := Asd.mk (Feeds.of_block (size := 4) (m := 1) (c := 1) (blk_new W3 (.cells #[.int .i64 (t.kind : Int), .string ⟨t.text.toArray⟩, .int .i64 (k : Int), .int .i64 t.num] 52)) rfl (by simp [Value.oneCell']))
                    have hmm : m ≤ 16384 := by have := HM.out; have := HDK.out; omega
                    have HWS : Asd (w.heap.size ≤ (W3.alloc (.cells #[.int .i64 (t.kind : Int), .string ⟨t.text.toArray⟩, .int .i64 (k : Int), .int .i64 t.num] 52)).heap.size) := Asd.mk (by have := HB3.out.size; simp; omega)
                    clear HB13 HB12 HB2 HN2
                    go_wp2_with (at_builtin; refine wpList_src rfl (.tmp 61) (.tmp 63) _ rfl rowT _ rfl HO4.out (some ⟨W3.heap.size, 0, none⟩) 1 1 rfl HF.out (by unfold maxLen; omega) (by omega) HWS.out ?_)
                    intro A9 c9 w9 ho9 hg9
                    have HB9 : Asd (Below w.heap.size w w9) := Asd.mk (below_own (below_alloc HB3.out _) HO4.out hg9 (Nat.le_refl _))
                    have HO9 : Asd (w9.ownsRow w.heap.size 52 4 (.slice A9 (m + 1) c9) (m + 1) (tkCells (done ++ [(t, k)]))) := Asd.mk (by rw [tkCells_snoc]; exact ho9)
                    clear ho9 hg9
                    go_wp2
                    go_roundw
                    case rel => exact ⟨k + n, done ++ [(t, k)], A9, m + 1, c9, hnk, rfl, by go_num, ⟨by have := HM.out; simp; omega⟩, ⟨by have := HDK.out; simp; omega⟩, HS2, HO9, HB9⟩
                    case measure => simp [intOf]; omega
              · have HNB : Asd (¬ isBl s[k]) := Asd.mk (by intro h; unfold isBl at h; rcases h with h | h | h | h; exact hb32 (by rw [h]; rfl); exact hb9 (by rw [h]; rfl); exact hb10 (by rw [h]; rfl); exact hb13 (by rw [h]; rfl))
                have HNN : Asd (¬ (s[k] = 45 ∧ (s.data.toList.drop (k + 1)).head? = some 45)) := Asd.mk (by intro h; exact hb45 (by rw [h.1]; rfl))
                go_wp2_with fail
                refine (token_calls (s.extract k s.size) _ HX1.out HXS.out HWR.out).mono ?_
                rintro e w1 ⟨hb1, he⟩
                rw [HXL.out] at he
                have HB1 : Asd (Below w.heap.size w w1) := Asd.mk (HB.out.trans (hb1.mono HB.out.size))
                have HO1 := Asd.mk (own_below HO.out hb1)
                clear hb1
                cases hx : tokP (s.data.toList.drop k) with
                | none =>
                  rw [hx] at he
                  obtain ⟨kd, tx, nm, rfl⟩ := he
                  have HR := Asd.mk (HS.out.bad HD.out HNB.out HNN.out hx)
                  clear hx
                  have HB2 := Asd.mk (below_alloc (below_alloc HB1.out (.cells #[.int .i64 kd, .string tx, .int .i64 0, .int .i64 nm] 52)) (.cells #[.int .i64 (k : Int), .iface 33 (.int .i64 20)] 95))
                  have HN2 := Asd.mk (blk_new (w1.alloc (.cells #[.int .i64 kd, .string tx, .int .i64 0, .int .i64 nm] 52)) (.cells #[.int .i64 (k : Int), .iface 33 (.int .i64 20)] 95))
                  have HNW : Asd (w.heap.size ≤ (w1.alloc (.cells #[.int .i64 kd, .string tx, .int .i64 0, .int .i64 nm] 52)).heap.size) := Asd.mk (by have := HB1.out.size; simp; omega)
                  rw [show (w1.alloc (.cells #[.int .i64 kd, .string tx, .int .i64 0, .int .i64 nm] 52)).heap.size = w1.heap.size + 1 by simp] at HN2 HNW
                  go_wp2
                  (try rw [Exit.noGoto_ret])
                  refine bodyPost_ret (results_tmp2 rfl _ _ _) rfl ?_
                  exact lex_bad HNL.out HR.out HB2.out ⟨_, rfl, HNW.out, HN2.out⟩
                | some x =>
                  rw [hx] at he
                  obtain ⟨t, n⟩ := x
                  obtain rfl := he
                  have HS2 := Asd.mk (HS.out.word HD.out HNB.out HNN.out hx)
                  have hn := tokP_le hx
                  rw [List.length_drop, HLN.out] at hn
                  obtain ⟨hn1, hn2⟩ := hn
                  simp only at hn1 hn2
                  have hn0 : 0 < n := hn1
                  have hnk : k + n ≤ s.size := by omega
                  clear hx
                  have HB2 := Asd.mk (below_alloc HB1.out (.cells #[.int .i64 (t.kind : Int), .string ⟨t.text.toArray⟩, .int .i64 0, .int .i64 t.num] 52))
                  have HB12 := Asd.mk (below_alloc (Below.refl w1.heap.size w1) (.cells #[.int .i64 (t.kind : Int), .string ⟨t.text.toArray⟩, .int .i64 0, .int .i64 t.num] 52))
                  have HN2 := Asd.mk (blk_new w1 (.cells #[.int .i64 (t.kind : Int), .string ⟨t.text.toArray⟩, .int .i64 0, .int .i64 t.num] 52))
                  have HNW : Asd (w.heap.size ≤ w1.heap.size) := Asd.mk HB1.out.size
                  go_upto_region 18 with fail
                  generalize w1.alloc (.cells #[.int .i64 (t.kind : Int), .string ⟨t.text.toArray⟩, .int .i64 0, .int .i64 t.num] 52) = W2 at HB2 HB12 HN2 ⊢
                  have x2 := (blk_cell HN2.out 2).trans rfl
                  have z2 := blk_frozen HN2.out 2
                  go_upto_region 21 with fail
                  have HB13 := Asd.mk (HB12.out.setCell (p := ⟨w1.heap.size, 2, none⟩) (Nat.le_refl _) (.int .i64 (k : Int)))
                  have HB3 := Asd.mk (HB2.out.setCell (p := ⟨w1.heap.size, 2, none⟩) HNW.out (.int .i64 (k : Int)))
                  have HN3 := Asd.mk ((blk_set HN2.out 2 (.int .i64 (k : Int))).trans rfl)
                  have HO3 := Asd.mk (own_below HO1.out HB13.out)
                  generalize W2.setCell ⟨w1.heap.size, 2, none⟩ (.int .i64 (k : Int)) = W3 at HB3 HN3 HO3 ⊢
                  have y0 := (blk_cell HN3.out 0).trans rfl
                  have y1 := (blk_cell HN3.out 1).trans rfl
                  have y2 := (blk_cell HN3.out 2).trans rfl
                  have y3 := (blk_cell HN3.out 3).trans rfl
                  have HO4 := Asd.mk (HO3.out.alloc (.cells #[.int .i64 (t.kind : Int), .string ⟨t.text.toArray⟩, .int .i64 (k : Int), .int .i64 t.num] 52))
                  have HF := Asd.mk (Feeds.of_block (size := 4) (m := 1) (c := 1) (blk_new W3 (.cells #[.int .i64 (t.kind : Int), .string ⟨t.text.toArray⟩, .int .i64 (k : Int), .int .i64 t.num] 52)) rfl (by simp [Value.oneCell']))
                  have hmm : m ≤ 16384 := by have := HM.out; have := HDK.out; omega
                  have HWS : Asd (w.heap.size ≤ (W3.alloc (.cells #[.int .i64 (t.kind : Int), .string ⟨t.text.toArray⟩, .int .i64 (k : Int), .int .i64 t.num] 52)).heap.size) := Asd.mk (by have := HB3.out.size; simp; omega)
                  clear HB13 HB12 HB2 HN2
                  go_wp2_with (at_builtin; refine wpList_src rfl (.tmp 61) (.tmp 63) _ rfl rowT _ rfl HO4.out (some ⟨W3.heap.size, 0, none⟩) 1 1 rfl HF.out (by unfold maxLen; omega) (by omega) HWS.out ?_)
                  intro A9 c9 w9 ho9 hg9
                  have HB9 : Asd (Below w.heap.size w w9) := Asd.mk (below_own (below_alloc HB3.out _) HO4.out hg9 (Nat.le_refl _))
                  have HO9 : Asd (w9.ownsRow w.heap.size 52 4 (.slice A9 (m + 1) c9) (m + 1) (tkCells (done ++ [(t, k)]))) := Asd.mk (by rw [tkCells_snoc]; exact ho9)
                  clear ho9 hg9
                  go_wp2
                  go_roundw
                  case rel => exact ⟨k + n, done ++ [(t, k)], A9, m + 1, c9, hnk, rfl, by go_num, ⟨by have := HM.out; simp; omega⟩, ⟨by have := HDK.out; simp; omega⟩, HS2, HO9, HB9⟩
                  case measure => simp [intOf]; omega
    · obtain rfl : k = s.size := by omega
      have HR := Asd.mk (HS.out.fin (by rw [List.drop_of_length_le (Nat.le_of_eq HLN.out)]))
      clear hlt
      go_wp2
      (try rw [Exit.noGoto_ret])
      refine bodyPost_ret (results_tmp2 rfl _ _ _) rfl ?_
      exact lex_ok HNL.out HR.out HB.out rfl HM.out HO.out
theorem tokens_calls (s : ByteArray) (w : World) (hw : LexW w) :
    Calls Tryz.prog 14 #[.string s] w fun e w' => LexEnd s.data.toList w e w' := by
  by_cases h : 16384 < s.size
  · exact tokens_long s w h
  · exact tokens_short s w h hw
end Go.Proofs.YtcefmhofidoloaaGreatDoor.Lex

/- Seen. -/
set_option linter.unusedVariables false
set_option linter.unusedSimpArgs false
namespace Go.Proofs.YtcefmhofidoloaaGreatDoor.Lex
open Go.RowKit Go.Proofs.YtcefmhofidoloaaGreatDoor.Base Go.Proofs.YtcefmhofidoloaaGreatDoor.App Go.Proofs.YtcefmhofidoloaaGreatDoor.Byt

/-- What the variable errors.errorType holds. -/
def EtyW (w : World) : Prop := w.cell? ⟨0, 0, none⟩ = some (.iface 211 (.agg #[.pointer (some ⟨9, 42, none⟩)]))
theorem EtyW.below {w w' : World} (h : EtyW w) (hb : Below w.heap.size w w') : EtyW w' := (hb.cell (World.block_lt_of_cell? w _ h)).trans h

theorem as_calls (N b : Nat) (W : World) (hg : EtyW W) (hb : W.heap[b]? = some (.cells #[.pointer none] 93 (0, 0))) :
    Calls Tryz.prog 54 #[.iface 93 (.pointer (some ⟨N, 0, none⟩)), .iface 103 (.pointer (some ⟨b, 0, none⟩))] W fun e w' =>
      e = .returned (.bool true) ∧ w'.heap[b]? = some (.cells #[.pointer (some ⟨N, 0, none⟩)] 93 (0, 0)) ∧ Fr (fun k => k = b) W w' := by
  refine (as_hit ⟨N, 0, none⟩ ⟨b, 0, none⟩ (.pointer none) W hg ((blk_cell hb 0).trans rfl) (blk_frozen hb 0)).mono ?_
  rintro e w' ⟨rfl, rfl⟩
  refine ⟨rfl, ?_, ?_⟩
  · exact (blk_set (blk_alloc (blk_alloc (blk_alloc (blk_alloc hb _) _) _) _) 0 _).trans rfl
  · exact Fr.setCell (S := fun k => k = b) (((((Fr.refl _ W).alloc _).alloc _).alloc _).alloc _) rfl _

set_option maxRecDepth 100000 in
set_option maxHeartbeats 1600000 in
theorem seen_nil (w : World) :
    Calls Tryz.prog 16 #[.nilIface] w fun e w' => e = .returned (.agg #[.int .i64 0, .int .i64 0]) ∧ Below w.heap.size w w' := by
  have HB := Asd.mk (below_alloc (Below.refl w.heap.size w) (.cells #[.int .i64 0, .int .i64 0] 35))
  have HN := Asd.mk (blk_new w (.cells #[.int .i64 0, .int .i64 0] 35))
  go_enter Tryz.func16, Tryz.ntmps16
  go_wp2
  refine bodyPost_ret (results_cell_row rfl _ _ w.heap.size 35 _ (0, 0) _ rfl HN.out Tryz.underlying35 rfl (by kernel_rfl)) rfl ?_
  exact ⟨rfl, HB.out⟩

set_option maxRecDepth 100000 in
set_option maxHeartbeats 3200000 in
theorem seen_fault (N : Nat) (k n : Int) (w : World) (hg : EtyW w) (hN : w.heap[N]? = some (.cells #[.int .i64 k, .iface 33 (.int .i64 n)] 95 (0, 0))) :
    Calls Tryz.prog 16 #[.iface 93 (.pointer (some ⟨N, 0, none⟩))] w fun e w' => e = .returned (.agg #[.int .i64 k, .int .i64 n]) ∧ Below w.heap.size w w' := by
  have HB := Asd.mk (below_alloc (below_alloc (Below.refl w.heap.size w) (.cells #[.int .i64 0, .int .i64 0] 35)) (.cells #[.pointer none] 93))
  have HR := Asd.mk (blk_alloc (blk_new w (.cells #[.int .i64 0, .int .i64 0] 35)) (.cells #[.pointer none] 93))
  have HT := Asd.mk (blk_new (w.alloc (.cells #[.int .i64 0, .int .i64 0] 35)) (.cells #[.pointer none] 93))
  rw [show (w.alloc (.cells #[.int .i64 0, .int .i64 0] 35)).heap.size = w.heap.size + 1 by simp] at HT
  have HG := Asd.mk (hg.below HB.out)
  have HN2 := Asd.mk (blk_below HB.out hN)
  have HNL := Asd.mk (blk_lt hN)
  clear hg hN
  have ta : ∀ w, (Instr.typeAssert (.iface 33 (.int .i64 n)) 42 33 true).run Tryz.prog w = .ok (.tuple #[.int .i64 n, .bool true]) w := fun _ => by kernel_rfl
  go_enter Tryz.func16, Tryz.ntmps16
  go_upto_region 4 with fail
  generalize (w.alloc (.cells #[.int .i64 0, .int .i64 0] 35)).alloc (.cells #[.pointer none] 93) = W at HB HR HT HG HN2 ⊢
  go_wp2_with fail
  refine (as_calls N (w.heap.size + 1) W HG.out HT.out).mono ?_
  rintro e w1 ⟨rfl, hb1, hf⟩
  have HT1 := Asd.mk hb1
  have HR1 : Asd (w1.heap[w.heap.size]? = some (.cells #[.int .i64 0, .int .i64 0] 35 (0, 0))) := Asd.mk ((hf.block w.heap.size (blk_lt HR.out) (by simp)).trans HR.out)
  have HN3 : Asd (w1.heap[N]? = some (.cells #[.int .i64 k, .iface 33 (.int .i64 n)] 95 (0, 0))) := Asd.mk ((hf.block N (blk_lt HN2.out) (by have := HNL.out; simp; omega)).trans HN2.out)
  have HB1 : Asd (Below w.heap.size w w1) := Asd.mk (HB.out.trans ⟨hf.os, hf.tape, hf.output, hf.size, fun j hj => hf.block j (by have := HB.out.size; omega) (by omega)⟩)
  clear hb1 hf
  have t0 := (blk_cell HT1.out 0).trans rfl
  have n0 := (blk_cell HN3.out 0).trans rfl
  have n1 := (blk_cell HN3.out 1).trans rfl
  have r0 := (blk_cell HR1.out 0).trans rfl
  have r1 := (blk_cell HR1.out 1).trans rfl
  have z0 := blk_frozen HR1.out 0
  have z1 := blk_frozen HR1.out 1
  have HFIN : Asd (∀ a b, ((w1.setCell ⟨w.heap.size, 0, none⟩ a).setCell ⟨w.heap.size, 1, none⟩ b).heap[w.heap.size]? = some (.cells #[a, b] 35 (0, 0)) ∧ Below w.heap.size w ((w1.setCell ⟨w.heap.size, 0, none⟩ a).setCell ⟨w.heap.size, 1, none⟩ b)) := Asd.mk fun a b =>
    ⟨(blk_set (blk_set HR1.out 0 a) 1 b).trans rfl, (HB1.out.setCell (Nat.le_refl _) a).setCell (Nat.le_refl _) b⟩
  go_wp2
  refine bodyPost_ret (results_cell_row rfl _ _ w.heap.size 35 _ (0, 0) _ rfl (HFIN.out _ _).1 Tryz.underlying35 rfl (by kernel_rfl)) rfl ?_
  exact ⟨rfl, (HFIN.out _ _).2⟩
end Go.Proofs.YtcefmhofidoloaaGreatDoor.Lex

/- What the rows of the lexer list: two sentinels and a type's handle. -/
set_option linter.unusedVariables false
namespace Go.Proofs.YtcefmhofidoloaaGreatDoor.Laid
open Go.ChangeShapes Go.WideShapes Go.ChangeAt Go.RowKit

theorem star : "*" ++ "errors.errorString" = "*errors.errorString" := by decide
theorem rowErr (u : TypeId) (h : Tryz.prog.typeName? 3 u = some "*errors.errorString") : u = 284 :=
  typeName_ptr_named (nm := "errors.errorString") (by rw [star]; kernel_rfl) (by kernel_rfl) (by decide) u (by rw [star]; exact h)
theorem sent_of {l : List (String × DataW Unit)} {W : World} (h : laidMetH Tryz.prog l W) {n : String} {text : List UInt8} {g : Nat} (hl : l.filter (fun x => x.1 == n) = [(n, .iface "*errors.errorString" (.ptr (.agg [.lit (.string text)])))])
    (hg : Tryz.prog.globalNamed n = some g) (hty : (Tryz.prog.globals[g]?).map (·.type) = some 42) : ∃ t p, W.cell? ⟨g, 0, none⟩ = some (.iface t p) := by
  have h2 := h.filter (fun x => x.1 == n)
  rw [hl] at h2
  rw [MakeChecks.laidMetH_plain _ _ _ (by rfl)] at h2
  obtain ⟨a, s, hv, _⟩ := laid_sentinel h2 hg hty Tryz.underlying42 rowErr Tryz.underlying284 Tryz.underlying286 rfl rfl Tryz.underlying9 (by kernel_rfl) (by kernel_rfl)
  exact ⟨_, _, by simpa using World.var?_cell hg hv 0⟩
theorem rt : (Tryz.prog.cutTypes.find? (·.1 == "internal/reflectlite.rtype")).map (·.2) = some 211 := by kernel_rfl
theorem oneRow : ((List.range Tryz.prog.types.size).filter fun t => Tryz.prog.rowNamed t [101, 114, 114, 111, 114]) = [42] := by kernel_rfl
theorem ety_of {l : List (String × DataW Unit)} {W : World} (h : laidMetH Tryz.prog l W) (hl : ("errors.errorType", DataW.iface "internal/reflectlite.rtype" (.agg [.ptr (.lit (.string [101, 114, 114, 111, 114]))])) ∈ l) (het : Tryz.prog.globalNamed "errors.errorType" = some 0) : Lex.EtyW W := by
  have h' := (laidMetH_iff.1 h).2
  obtain ⟨name, u, ty, e1, e2, e3, e4, e5⟩ := h' _ (List.mem_filter.2 ⟨hl, by rfl⟩)
  have en : name = [101, 114, 114, 111, 114] := (Option.some.inj e1).symm
  subst en
  obtain rfl := Option.some.inj (rt.symm.trans e2)
  have hm : ty ∈ (List.range Tryz.prog.types.size).filter fun t => Tryz.prog.rowNamed t [101, 114, 114, 111, 114] := List.mem_filter.2 ⟨List.mem_range.2 e3, e4⟩
  rw [oneRow] at hm
  obtain rfl := List.mem_singleton.1 hm
  have hh : typeHandle Tryz.prog 42 = .pointer (some ⟨9, 42, none⟩) := by kernel_rfl
  rw [hh] at e5
  show W.cell? ⟨0, 0, none⟩ = _
  simpa using World.var?_cell het e5 0
theorem lexW_of {l : List (String × DataW Unit)} {W : World} (hs : W.ShapedOpen Tryz.prog) (h : laidMetH Tryz.prog l W) {t3 t4 : List UInt8}
    (h3 : l.filter (fun x => x.1 == "strconv.ErrSyntax") = [("strconv.ErrSyntax", .iface "*errors.errorString" (.ptr (.agg [.lit (.string t3)])))])
    (h4 : l.filter (fun x => x.1 == "strconv.ErrRange") = [("strconv.ErrRange", .iface "*errors.errorString" (.ptr (.agg [.lit (.string t4)])))]) : Lex.LexW W :=
  ⟨hs, sent_of h h3 (by kernel_rfl) (by kernel_rfl), sent_of h h4 (by kernel_rfl) (by kernel_rfl)⟩

/-- A world in which all that is listed lies. -/
noncomputable def errWorld (w : World) : World :=
  let N := w.heap.size
  { w with heap := ((((w.heap.modify 0 fun
      | .cells _ t fr => .cells #[.iface 211 (.agg #[.pointer (some ⟨9, 42, none⟩)])] t fr
      | o => o).modify 3 fun
      | .cells _ t fr => .cells #[.iface 284 (.pointer (some ⟨N, 0, none⟩))] t fr
      | o => o).modify 4 fun
      | .cells _ t fr => .cells #[.iface 284 (.pointer (some ⟨N + 1, 0, none⟩))] t fr
      | o => o).push (.cells #[.string ⟨#[105, 110, 118, 97, 108, 105, 100, 32, 115, 121, 110, 116, 97, 120]⟩] 286)).push (.cells #[.string ⟨#[118, 97, 108, 117, 101, 32, 111, 117, 116, 32, 111, 102, 32, 114, 97, 110, 103, 101]⟩] 286) }
end Go.Proofs.YtcefmhofidoloaaGreatDoor.Laid

/- Expressions as plain data; the reader of expressions as a plain function. -/
set_option linter.unusedVariables false
namespace Go.Proofs.YtcefmhofidoloaaGreatDoor.Exp
open Go.Proofs.YtcefmhofidoloaaGreatDoor.Lex

/-- A value: its kind, its number, its bytes. -/
structure Vl where
  kind : Int
  int : Int
  text : List UInt8
/-- An expression. -/
inductive Ex where
  | mk (kind op : Int) (v : Vl) (table name : List UInt8) (col ty : Int) (args : List Ex)
def Ex.kind : Ex → Int | .mk k _ _ _ _ _ _ _ => k
def Ex.op : Ex → Int | .mk _ o _ _ _ _ _ _ => o
def Ex.v : Ex → Vl | .mk _ _ v _ _ _ _ _ => v
def Ex.table : Ex → List UInt8 | .mk _ _ _ t _ _ _ _ => t
def Ex.name : Ex → List UInt8 | .mk _ _ _ _ n _ _ _ => n
def Ex.col : Ex → Int | .mk _ _ _ _ _ c _ _ => c
def Ex.ty : Ex → Int | .mk _ _ _ _ _ _ t _ => t
def Ex.args : Ex → List Ex | .mk _ _ _ _ _ _ _ a => a
def vNull : Vl := ⟨0, 0, []⟩
def litE (v : Vl) : Ex := .mk 1 0 v [] [] 0 0 []
def colE (t n : List UInt8) : Ex := .mk 2 0 vNull t n 0 0 []
def unE (o : Int) (a : Ex) : Ex := .mk 3 o vNull [] [] 0 0 [a]
def pairE (o : Int) (a b : Ex) : Ex := .mk 4 o vNull [] [] 0 0 [a, b]
def nullE (o : Int) (a : Ex) : Ex := .mk 7 o vNull [] [] 0 0 [a]
def callE (k o : Int) (l : List Ex) : Ex := .mk k o vNull [] [] 0 0 l

abbrev Toks := List (Tk × Nat)
/-- What a part of the reader comes to: a value and the next place, or the place of an error and the error. -/
abbrev Res (α : Type) := Except (Nat × Int) (α × Nat)
/-- The place at which an error is told. -/
def stopAt (l : Toks) (i : Nat) : Nat := match l[i]? with
  | some x => x.2
  | none => match l.getLast? with
    | some x => x.2 + 1
    | none => 0
def isT (l : Toks) (i : Nat) (k : Nat) (s : List UInt8) : Bool := match l[i]? with
  | some x => x.1.kind == k && x.1.text == s
  | none => false
def mustT (l : Toks) (i : Nat) (k : Nat) (s : List UInt8) : Except (Nat × Int) Nat := if isT l i k s then .ok (i + 1) else .error (stopAt l i, 20)
/-- May a word be a name? -/
def wordN (s : List UInt8) : Bool := s.all (fun c => (decide (97 ≤ c.toNat) && decide (c.toNat ≤ 122)) || c == 95 || (decide (48 ≤ c.toNat) && decide (c.toNat ≤ 57)))
abbrev Sg := Nat × List UInt8 × Int
def operT : List Sg → Toks → Nat → Option Int
  | [], _, _ => none
  | x :: r, l, i => if isT l i x.1 x.2.1 then some x.2.2 else operT r l i
def sgOr : List Sg := [(1, [111, 114], 3)]
def sgAnd : List Sg := [(1, [97, 110, 100], 4)]
def sgCat : List Sg := [(5, [124, 124], 16)]
def sgSum : List Sg := [(5, [43], 11), (5, [45], 12)]
def sgProd : List Sg := [(5, [42], 13), (5, [47], 14), (5, [37], 15)]
def sgTest : List Sg := [(5, [61], 5), (5, [60, 62], 6), (5, [60], 7), (5, [60, 61], 8), (5, [62], 9), (5, [62, 61], 10)]
/-- The rest of a chain. -/
def chainL (ops : List Sg) (f : Nat → Res Ex) (l : Toks) : Nat → Ex → Nat → Res Ex
  | 0, e, i => .ok (e, i)
  | n + 1, e, i => match operT ops l i with
    | none => .ok (e, i)
    | some o => match f (i + 1) with
      | .error x => .error x
      | .ok (x, j) => chainL ops f l n (pairE o e x) j
def chainP (ops : List Sg) (f : Nat → Res Ex) (l : Toks) (i : Nat) : Res Ex := match f i with
  | .error x => .error x
  | .ok (e, j) => chainL ops f l (l.length - j) e j
/-- What a word calls: the kind, the number, how many operands. -/
def funT (s : List UInt8) : Option (Int × Int × Nat) :=
  if s = [108, 101, 110, 103, 116, 104] then some (5, 1, 1)
  else if s = [97, 98, 115] then some (5, 2, 1)
  else if s = [117, 112, 112, 101, 114] then some (5, 3, 1)
  else if s = [108, 111, 119, 101, 114] then some (5, 4, 1)
  else if s = [115, 117, 98, 115, 116, 114] then some (5, 5, 3)
  else if s = [99, 111, 97, 108, 101, 115, 99, 101] then some (5, 6, 2)
  else if s = [99, 111, 117, 110, 116] then some (6, 1, 1)
  else if s = [115, 117, 109] then some (6, 2, 1)
  else if s = [109, 105, 110] then some (6, 3, 1)
  else if s = [109, 97, 120] then some (6, 4, 1)
  else none
/-- The lines of the grammar, one depth. -/
structure PF where
  or : Nat → Res Ex
  not : Nat → Res Ex
  sign : Nat → Res Ex
section
variable (nm : List UInt8 → Bool) (l : Toks) (sub : Option PF)
def nameT (i : Nat) : Res (List UInt8) := match l[i]? with
  | some x => if x.1.kind = 1 ∧ nm x.1.text = true then .ok (x.1.text, i + 1) else .error (stopAt l i, 20)
  | none => .error (stopAt l i, 20)
/-- Operands behind the first. -/
def argsL (p : PF) : Nat → List Ex → Nat → Res (List Ex)
  | 0, es, i => .ok (es, i)
  | n + 1, es, i => match mustT l i 5 [44] with
    | .error x => .error x
    | .ok j => match p.or j with
      | .error x => .error x
      | .ok (e, k) => argsL p n (es ++ [e]) k
def argsP (p : PF) (n : Nat) (i : Nat) : Res (List Ex) := match p.or i with
  | .error x => .error x
  | .ok (e, j) => argsL l p (n - 1) [e] j
/-- A call: i is the bracket's place. -/
def callP (f : Int × Int × Nat) (i : Nat) : Res Ex := match sub with
  | none => .error (stopAt l i, 21)
  | some p =>
    if f.1 = 6 ∧ f.2.1 = 1 ∧ isT l (i + 1) 5 [42] = true then
      match mustT l (i + 2) 5 [41] with
      | .error x => .error x
      | .ok j => .ok (callE f.1 f.2.1 [], j)
    else match argsP l p f.2.2 (i + 1) with
      | .error x => .error x
      | .ok (es, j) => match mustT l j 5 [41] with
        | .error x => .error x
        | .ok k => .ok (callE f.1 f.2.1 es, k)
def colP (i : Nat) : Res Ex := match nameT nm l i with
  | .error x => .error x
  | .ok (n, j) =>
    if isT l j 5 [46] then
      match nameT nm l (j + 1) with
      | .error x => .error x
      | .ok (m, k) => .ok (colE n m, k)
    else .ok (colE [] n, j)
def wordP (s : List UInt8) (i : Nat) : Res Ex :=
  if s = [110, 117, 108, 108] then .ok (litE vNull, i + 1)
  else if s = [116, 114, 117, 101] then .ok (litE ⟨1, 1, []⟩, i + 1)
  else if s = [102, 97, 108, 115, 101] then .ok (litE ⟨1, 0, []⟩, i + 1)
  else match funT s with
    | some f => if isT l (i + 1) 5 [40] then callP l sub f (i + 1) else colP nm l i
    | none => colP nm l i
def brackP (i : Nat) : Res Ex := match sub with
  | none => .error (stopAt l i, 21)
  | some p => match p.or (i + 1) with
    | .error x => .error x
    | .ok (e, j) => match mustT l j 5 [41] with
      | .error x => .error x
      | .ok k => .ok (e, k)
def itemP (i : Nat) : Res Ex := match l[i]? with
  | none => .error (stopAt l i, 20)
  | some x =>
    if x.1.kind = 2 then .ok (litE ⟨2, x.1.num, []⟩, i + 1)
    else if x.1.kind = 3 then .ok (litE ⟨3, 0, x.1.text⟩, i + 1)
    else if x.1.kind = 4 then .ok (litE ⟨4, 0, x.1.text⟩, i + 1)
    else if x.1.kind = 1 then wordP nm l sub x.1.text i
    else if isT l i 5 [40] then brackP l sub i
    else .error (stopAt l i, 20)
def signP (i : Nat) : Res Ex :=
  if isT l i 5 [45] then match sub with
    | none => .error (stopAt l i, 21)
    | some p => match p.sign (i + 1) with
      | .error x => .error x
      | .ok (e, j) => .ok (unE 1 e, j)
  else itemP nm l sub i
def prodP (i : Nat) : Res Ex := chainP sgProd (signP nm l sub) l i
def sumP (i : Nat) : Res Ex := chainP sgSum (prodP nm l sub) l i
def catP (i : Nat) : Res Ex := chainP sgCat (sumP nm l sub) l i
def testP (i : Nat) : Res Ex := match catP nm l sub i with
  | .error x => .error x
  | .ok (e, j) =>
    if isT l j 1 [105, 115] then
      match mustT l (if isT l (j + 1) 1 [110, 111, 116] then j + 2 else j + 1) 1 [110, 117, 108, 108] with
      | .error x => .error x
      | .ok k => .ok (nullE (if isT l (j + 1) 1 [110, 111, 116] then 1 else 0) e, k)
    else match operT sgTest l j with
      | none => .ok (e, j)
      | some o => match catP nm l sub (j + 1) with
        | .error x => .error x
        | .ok (x, k) => .ok (pairE o e x, k)
def notP (i : Nat) : Res Ex :=
  if isT l i 1 [110, 111, 116] then match sub with
    | none => .error (stopAt l i, 21)
    | some p => match p.not (i + 1) with
      | .error x => .error x
      | .ok (e, j) => .ok (unE 2 e, j)
  else testP nm l sub i
def andP (i : Nat) : Res Ex := chainP sgAnd (notP nm l sub) l i
def orP (i : Nat) : Res Ex := chainP sgOr (andP nm l sub) l i
def layerP : PF := ⟨orP nm l sub, notP nm l sub, signP nm l sub⟩
end
/-- The reader, so many depths to go. -/
def readF (nm : List UInt8 → Bool) (l : Toks) : Nat → PF
  | 0 => layerP nm l none
  | k + 1 => layerP nm l (some (readF nm l k))
def subF (nm : List UInt8 → Bool) (l : Toks) : Nat → Option PF
  | 0 => none
  | k + 1 => some (readF nm l k)
theorem readF_eq (nm : List UInt8 → Bool) (l : Toks) : ∀ k, readF nm l k = layerP nm l (subF nm l k)
  | 0 => rfl
  | k + 1 => rfl

/-- No part goes back. -/
def Ahd (f : Nat → Res Ex) : Prop := ∀ i e j, f i = .ok (e, j) → i < j
theorem isT_lt {l : Toks} {i k : Nat} {s : List UInt8} (h : isT l i k s = true) : i < l.length := by
  unfold isT at h
  cases hx : l[i]? with
  | none => rw [hx] at h; cases h
  | some x => exact (List.getElem?_eq_some_iff.mp hx).1
theorem operT_lt {l : Toks} {i : Nat} : ∀ {ops : List Sg} {o : Int}, operT ops l i = some o → i < l.length
  | [], o, h => by cases h
  | x :: r, o, h => by
    rw [operT] at h
    split at h
    · rename_i hx; exact isT_lt hx
    · exact operT_lt h
theorem operT_none {l : Toks} {i : Nat} (hi : l.length ≤ i) (ops : List Sg) : operT ops l i = none := by
  cases h : operT ops l i with
  | none => rfl
  | some o => have := operT_lt h; omega
theorem mustT_ok {l : Toks} {i k : Nat} {s : List UInt8} {j : Nat} (h : mustT l i k s = .ok j) : isT l i k s = true ∧ j = i + 1 := by
  unfold mustT at h
  split at h
  · rename_i hx; injection h with h; exact ⟨hx, h.symm⟩
  · cases h
theorem chainL_ge {ops : List Sg} {f : Nat → Res Ex} {l : Toks} (hf : Ahd f) : ∀ (n : Nat) (e : Ex) (i : Nat) (x : Ex) (j : Nat), chainL ops f l n e i = .ok (x, j) → i ≤ j
  | 0, e, i, x, j, h => by rw [chainL] at h; injection h with h; injection h with _ h; omega
  | n + 1, e, i, x, j, h => by
    rw [chainL] at h
    split at h
    · injection h with h; injection h with _ h; omega
    · split at h
      · cases h
      · rename_i y k hk
        have h1 := hf _ _ _ hk
        have h2 := chainL_ge hf n _ _ _ _ h
        omega
theorem chainP_ahd {ops : List Sg} {f : Nat → Res Ex} {l : Toks} (hf : Ahd f) : Ahd (chainP ops f l) := by
  intro i e j h
  unfold chainP at h
  split at h
  · cases h
  · rename_i y k hk
    have h1 := hf _ _ _ hk
    have h2 := chainL_ge hf _ _ _ _ _ h
    omega
structure Ahds (p : PF) : Prop where
  or : Ahd p.or
  not : Ahd p.not
  sign : Ahd p.sign
theorem argsL_ge {l : Toks} {p : PF} (hp : Ahds p) : ∀ (n : Nat) (es : List Ex) (i : Nat) (x : List Ex) (j : Nat), argsL l p n es i = .ok (x, j) → i ≤ j
  | 0, es, i, x, j, h => by rw [argsL] at h; injection h with h; injection h with _ h; omega
  | n + 1, es, i, x, j, h => by
    rw [argsL] at h
    split at h
    · cases h
    · rename_i a ha
      have h0 := (mustT_ok ha).2
      split at h
      · cases h
      · rename_i y k hk
        have h1 := hp.or _ _ _ hk
        have h2 := argsL_ge hp n _ _ _ _ h
        omega
theorem nameT_ok {nm : List UInt8 → Bool} {l : Toks} {i : Nat} {s : List UInt8} {j : Nat} (h : nameT nm l i = .ok (s, j)) : j = i + 1 := by
  unfold nameT at h
  split at h
  · split at h
    · injection h with h; injection h with _ h; omega
    · cases h
  · cases h
section
variable {nm : List UInt8 → Bool} {l : Toks} {sub : Option PF}
theorem callP_ahd (hs : ∀ p, sub = some p → Ahds p) (f : Int × Int × Nat) : Ahd (callP l sub f) := by
  intro i e j h
  unfold callP at h
  split at h
  · cases h
  · rename_i p
    have hp := hs p rfl
    split at h
    · split at h
      · cases h
      · rename_i a ha
        have := (mustT_ok ha).2
        injection h with h; injection h with _ h; omega
    · split at h
      · cases h
      · rename_i es k hk
        split at h
        · cases h
        · rename_i a ha
          have h0 := (mustT_ok ha).2
          injection h with h; injection h with _ h
          unfold argsP at hk
          split at hk
          · cases hk
          · rename_i y m hm
            have h1 := hp.or _ _ _ hm
            have h2 := argsL_ge hp _ _ _ _ _ hk
            omega
theorem colP_ahd : Ahd (colP nm l) := by
  intro i e j h
  unfold colP at h
  split at h
  · cases h
  · rename_i n k hk
    have h0 := nameT_ok hk
    split at h
    · split at h
      · cases h
      · rename_i m q hq
        have h1 := nameT_ok hq
        injection h with h; injection h with _ h; omega
    · injection h with h; injection h with _ h; omega
theorem wordP_ahd (hs : ∀ p, sub = some p → Ahds p) (s : List UInt8) : Ahd (wordP nm l sub s) := by
  intro i e j h
  unfold wordP at h
  split at h
  · injection h with h; injection h with _ h; omega
  · split at h
    · injection h with h; injection h with _ h; omega
    · split at h
      · injection h with h; injection h with _ h; omega
      · split at h
        · split at h
          · have := callP_ahd hs _ _ _ _ h; omega
          · exact colP_ahd _ _ _ h
        · exact colP_ahd _ _ _ h
theorem itemP_ahd (hs : ∀ p, sub = some p → Ahds p) : Ahd (itemP nm l sub) := by
  intro i e j h
  unfold itemP at h
  split at h
  · cases h
  · split at h
    · injection h with h; injection h with _ h; omega
    · split at h
      · injection h with h; injection h with _ h; omega
      · split at h
        · injection h with h; injection h with _ h; omega
        · split at h
          · exact wordP_ahd hs _ _ _ _ h
          · split at h
            · unfold brackP at h
              split at h
              · cases h
              · rename_i p
                split at h
                · cases h
                · rename_i y k hk
                  have h1 := (hs p rfl).or _ _ _ hk
                  split at h
                  · cases h
                  · rename_i a ha
                    have h2 := (mustT_ok ha).2
                    injection h with h; injection h with _ h; omega
            · cases h
theorem signP_ahd (hs : ∀ p, sub = some p → Ahds p) : Ahd (signP nm l sub) := by
  intro i e j h
  unfold signP at h
  split at h
  · split at h
    · cases h
    · rename_i p
      split at h
      · cases h
      · rename_i y k hk
        have h1 := (hs p rfl).sign _ _ _ hk
        injection h with h; injection h with _ h; omega
  · exact itemP_ahd hs _ _ _ h
theorem prodP_ahd (hs : ∀ p, sub = some p → Ahds p) : Ahd (prodP nm l sub) := chainP_ahd (signP_ahd hs)
theorem sumP_ahd (hs : ∀ p, sub = some p → Ahds p) : Ahd (sumP nm l sub) := chainP_ahd (prodP_ahd hs)
theorem catP_ahd (hs : ∀ p, sub = some p → Ahds p) : Ahd (catP nm l sub) := chainP_ahd (sumP_ahd hs)
theorem testP_ahd (hs : ∀ p, sub = some p → Ahds p) : Ahd (testP nm l sub) := by
  intro i e j h
  unfold testP at h
  split at h
  · cases h
  · rename_i y k hk
    have h1 := catP_ahd hs _ _ _ hk
    split at h
    · split at h
      · cases h
      · rename_i a ha
        have h2 := (mustT_ok ha).2
        injection h with h; injection h with _ h
        split at h2 <;> omega
    · split at h
      · injection h with h; injection h with _ h; omega
      · split at h
        · cases h
        · rename_i z m hm
          have h2 := catP_ahd hs _ _ _ hm
          injection h with h; injection h with _ h; omega
theorem notP_ahd (hs : ∀ p, sub = some p → Ahds p) : Ahd (notP nm l sub) := by
  intro i e j h
  unfold notP at h
  split at h
  · split at h
    · cases h
    · rename_i p
      split at h
      · cases h
      · rename_i y k hk
        have h1 := (hs p rfl).not _ _ _ hk
        injection h with h; injection h with _ h; omega
  · exact testP_ahd hs _ _ _ h
theorem andP_ahd (hs : ∀ p, sub = some p → Ahds p) : Ahd (andP nm l sub) := chainP_ahd (notP_ahd hs)
theorem orP_ahd (hs : ∀ p, sub = some p → Ahds p) : Ahd (orP nm l sub) := chainP_ahd (andP_ahd hs)
end
theorem readF_ahd (nm : List UInt8 → Bool) (l : Toks) : ∀ k, Ahds (readF nm l k)
  | 0 => ⟨orP_ahd (fun p h => by cases h), notP_ahd (fun p h => by cases h), signP_ahd (fun p h => by cases h)⟩
  | k + 1 => ⟨orP_ahd (fun p h => by cases h; exact readF_ahd nm l k), notP_ahd (fun p h => by cases h; exact readF_ahd nm l k), signP_ahd (fun p h => by cases h; exact readF_ahd nm l k)⟩
theorem subF_ahd (nm : List UInt8 → Bool) (l : Toks) (k : Nat) : ∀ p, subF nm l k = some p → Ahds p := by
  intro p h
  cases k with
  | zero => cases h
  | succ k => cases h; exact readF_ahd nm l k
end Go.Proofs.YtcefmhofidoloaaGreatDoor.Exp

/- A slice of words as values; '==' of words; works. -/
set_option linter.unusedVariables false
set_option linter.unusedSimpArgs false
namespace Go.Proofs.YtcefmhofidoloaaGreatDoor.Lex
open Go.RowKit Go.Proofs.YtcefmhofidoloaaGreatDoor.Base Go.Proofs.YtcefmhofidoloaaGreatDoor.App Go.Proofs.YtcefmhofidoloaaGreatDoor.Byt

/-- The slice at A, m long, holds the words ts. -/
def TokSl (W : World) (A : Option Addr) (m : Nat) (ts : List (Tk × Nat)) : Prop :=
  m = ts.length ∧ m ≤ 16384 ∧ (0 < m → ∃ g, A = some ⟨g, 0, none⟩ ∧ ∀ i (hi : i < ts.length), W.cell? ⟨g, i * 4, none⟩ = some (.int .i64 (ts[i].1.kind : Int)) ∧ W.cell? ⟨g, i * 4 + 1, none⟩ = some (.string ⟨ts[i].1.text.toArray⟩) ∧ W.cell? ⟨g, i * 4 + 2, none⟩ = some (.int .i64 (ts[i].2 : Nat)) ∧ W.cell? ⟨g, i * 4 + 3, none⟩ = some (.int .i64 ts[i].1.num))
theorem TokSl.below {W W' : World} {A : Option Addr} {m : Nat} {ts : List (Tk × Nat)} (h : TokSl W A m ts) (hb : Below W.heap.size W W') : TokSl W' A m ts := by
  refine ⟨h.1, h.2.1, fun h0 => ?_⟩
  obtain ⟨g, rfl, hc⟩ := h.2.2 h0
  refine ⟨g, rfl, fun i hi => ?_⟩
  obtain ⟨a, b, c, d⟩ := hc i hi
  exact ⟨(hb.cell (World.block_lt_of_cell? W _ a)).trans a, (hb.cell (World.block_lt_of_cell? W _ b)).trans b, (hb.cell (World.block_lt_of_cell? W _ c)).trans c, (hb.cell (World.block_lt_of_cell? W _ d)).trans d⟩
theorem tkCells_at : ∀ (ts : List (Tk × Nat)) (i : Nat) (hi : i < ts.length) (j : Nat), j < 4 → (tkCells ts)[i * 4 + j]? = (tcells ts[i])[j]?
  | x :: r, 0, hi, j, hj => by
    simp only [tkCells, List.flatMap_cons, Nat.zero_mul, Nat.zero_add, List.getElem_cons_zero]
    rw [List.getElem?_append_left (by simpa [tcells] using hj)]
  | x :: r, i + 1, hi, j, hj => by
    have ih := tkCells_at r i (by simpa using hi) j hj
    simp only [tkCells, List.flatMap_cons, List.getElem_cons_succ] at ih ⊢
    rw [List.getElem?_append_right (by simp [tcells]; omega)]
    rw [← ih]
    congr 1
    simp [tcells]
    omega
theorem TokSl.of_own {W : World} {B : Nat} {A : Option Addr} {m c : Nat} {ts : List (Tk × Nat)} (hm : m = ts.length) (hle : m ≤ 16384) (h : W.ownsRow B 52 4 (.slice A m c) m (tkCells ts)) : TokSl W A m ts := by
  refine ⟨hm, hle, fun h0 => ?_⟩
  have hc := fun g => h.cells (g := g)
  rcases h.2 with ⟨he, h00⟩ | ⟨g, cap, cur, he, hb, hh, _⟩
  · omega
  · injection he with h1 h2 h3
    subst h1
    refine ⟨g, rfl, fun i hi => ?_⟩
    have hg := hc g (by simp [Value.ownBlock])
    have hat : ∀ j, j < 4 → W.cell? ⟨g, i * 4 + j, none⟩ = (tcells ts[i])[j]? := fun j hj => by
      have h1 := tkCells_at ts i hi j hj
      have h2 : (tcells ts[i])[j]? = some ((tcells ts[i])[j]'(by simpa [tcells] using hj)) := List.getElem?_eq_getElem _
      rw [h2] at h1 ⊢
      have := hg _ _ h1
      rw [addr_add, Nat.zero_add] at this
      exact this
    exact ⟨(hat 0 (by omega)).trans rfl, (hat 1 (by omega)).trans rfl, (hat 2 (by omega)).trans rfl, (hat 3 (by omega)).trans rfl⟩

/-- How Tokens ends, as a reader sees it. -/
def LexR (l : List UInt8) (w : World) (e : Ending) (w' : World) : Prop :=
  Below w.heap.size w w' ∧ if 16384 < l.length then FaultE w e w' 0 8 else match lexT l with
  | .ok ts => ∃ A m c, e = .returned (.tuple #[.slice A m c, .nilIface]) ∧ TokSl w' A m ts
  | .error k => FaultE w e w' k 20

theorem lexT_len_aux : ∀ (f k : Nat) (s : List UInt8) (ts : List (Tk × Nat)), toksP f k s = .ok ts → ts.length ≤ s.length
  | 0, k, s, ts, h => by simp [toksP] at h; subst h; simp
  | f + 1, k, [], ts, h => by simp [toksP] at h; subst h; simp
  | f + 1, k, c :: r, ts, h => by
    rw [toksP] at h
    try simp only at h
    split at h
    · have := lexT_len_aux f _ _ _ h
      simp only [List.length_cons]; omega
    · split at h
      · split at h
        · have h1 := lexT_len_aux f _ _ _ h
          have h2 : ((c :: r).dropWhile (· != 10)).length ≤ (c :: r).length := by
            have e : (c :: r).takeWhile (· != 10) ++ (c :: r).dropWhile (· != 10) = c :: r := List.takeWhile_append_dropWhile
            have := congrArg List.length e
            rw [List.length_append] at this
            omega
          omega
        · simp at h; subst h; simp
      · cases ht : tokP (c :: r) with
        | none => rw [ht] at h; simp at h
        | some x =>
          obtain ⟨t, n⟩ := x
          rw [ht] at h
          simp only at h
          have hn := tokP_le ht
          simp only at hn
          cases hr : toksP f (k + n) ((c :: r).drop n) with
          | error j => rw [hr] at h; simp [Except.map] at h
          | ok ts' =>
            rw [hr] at h
            simp [Except.map] at h
            subst h
            have := lexT_len_aux f _ _ _ hr
            rw [List.length_drop] at this
            simp only [List.length_cons] at this hn ⊢
            omega
theorem lexT_len {l : List UInt8} {ts : List (Tk × Nat)} (h : lexT l = .ok ts) : ts.length ≤ l.length := lexT_len_aux _ _ _ _ h

theorem tokens_reads (s : ByteArray) (w : World) (hw : LexW w) :
    Calls Tryz.prog 14 #[.string s] w fun e w' => LexR s.data.toList w e w' := by
  refine (tokens_calls s w hw).mono ?_
  rintro e w' ⟨hb, he⟩
  refine ⟨hb, ?_⟩
  by_cases h : 16384 < s.data.toList.length
  · rw [if_pos h] at he ⊢
    exact he
  · rw [if_neg h] at he ⊢
    cases hl : lexT s.data.toList with
    | ok ts =>
      rw [hl] at he
      obtain ⟨A, m, c, rfl, hm, ho⟩ := he
      have := lexT_len hl
      exact ⟨A, m, c, rfl, TokSl.of_own hm (by omega) ho⟩
    | error k =>
      rw [hl] at he
      exact he
end Go.Proofs.YtcefmhofidoloaaGreatDoor.Lex

/- Expressions and their reader in memory. -/
set_option linter.unusedVariables false
set_option linter.unusedSimpArgs false
namespace Go.Proofs.YtcefmhofidoloaaGreatDoor.Exp
open Go.RowKit Go.Proofs.YtcefmhofidoloaaGreatDoor.Base Go.Proofs.YtcefmhofidoloaaGreatDoor.App Go.Proofs.YtcefmhofidoloaaGreatDoor.Byt Go.Proofs.YtcefmhofidoloaaGreatDoor.Lex

/-- The cells of an expression whose operands' slice is s. -/
def exC (x : Ex) (s : Value) : List Value := [.int .i64 x.kind, .int .i64 x.op, .int .i64 x.v.kind, .int .i64 x.v.int, .string ⟨x.v.text.toArray⟩, .string ⟨x.table.toArray⟩, .string ⟨x.name.toArray⟩, .int .i64 x.col, .int .i64 x.ty, s]
/-- The value of an expression whose operands' slice is s. -/
def exV (x : Ex) (s : Value) : Value := .agg #[.int .i64 x.kind, .int .i64 x.op, .int .i64 x.v.kind, .int .i64 x.v.int, .string ⟨x.v.text.toArray⟩, .string ⟨x.table.toArray⟩, .string ⟨x.name.toArray⟩, .int .i64 x.col, .int .i64 x.ty, s]
/-- An expression lies at a place of a block. -/
def RowC (W : World) (g o : Nat) (x : Ex) (s : Value) : Prop := ∀ j (hj : j < 10), W.cell? ⟨g, o + j, none⟩ = some ((exC x s)[j]'hj)
/-- The slice s holds these expressions, and all that is within them; the blocks are of a kind. -/
inductive Held (P : Nat → Prop) (W : World) : List Ex → Value → Prop
  | nil (A : Option Addr) (c : Nat) : Held P W [] (.slice A 0 c)
  | cons (g o c : Nat) (xs : List Ex) (ss : List Value) (hg : P g) (hl : ss.length = xs.length) (hrow : ∀ i (h : i < xs.length), RowC W g (o + i * 10) xs[i] (ss[i]'(by omega))) (hsub : ∀ i (h : i < xs.length), Held P W xs[i].args (ss[i]'(by omega))) : Held P W xs (.slice (some ⟨g, o, none⟩) xs.length c)
theorem RowC.below {W W' : World} {g o : Nat} {x : Ex} {s : Value} (h : RowC W g o x s) (hb : Below W.heap.size W W') : RowC W' g o x s := fun j hj =>
  (hb.cell (World.block_lt_of_cell? W _ (h j hj))).trans (h j hj)
theorem held_below {P : Nat → Prop} {W W' : World} {xs : List Ex} {s : Value} (h : Held P W xs s) (hb : Below W.heap.size W W') : Held P W' xs s := by
  induction h with
  | nil A c => exact .nil A c
  | cons g o c xs ss hg hl hrow hsub ih => exact .cons g o c xs ss hg hl (fun i h => (hrow i h).below hb) ih
theorem held_mono {P Q : Nat → Prop} {W : World} {xs : List Ex} {s : Value} (h : Held P W xs s) (hPQ : ∀ g, g < W.heap.size → P g → Q g) : Held Q W xs s := by
  induction h with
  | nil A c => exact .nil A c
  | cons g o c xs ss hg hl hrow hsub ih =>
    by_cases h0 : 0 < xs.length
    · exact .cons g o c xs ss (hPQ g (World.block_lt_of_cell? W _ (hrow 0 h0 0 (by omega))) hg) hl hrow ih
    · obtain rfl : xs = [] := List.length_eq_zero_iff.mp (by omega)
      exact .nil _ _
theorem cell_frS {S : Nat → Prop} {W W' : World} (hf : Fr S W W') {g j : Nat} {v : Value} (hg : ¬ S g) (h : W.cell? ⟨g, j, none⟩ = some v) : W'.cell? ⟨g, j, none⟩ = some v := by
  have hlt := World.block_lt_of_cell? W _ h
  rw [← h]
  unfold World.cell?
  rw [hf.block g hlt hg]
theorem RowC.frS {S : Nat → Prop} {W W' : World} {g o : Nat} {x : Ex} {s : Value} (h : RowC W g o x s) (hf : Fr S W W') (hg : ¬ S g) : RowC W' g o x s := fun j hj => cell_frS hf hg (h j hj)
theorem held_frS {P S : Nat → Prop} {W W' : World} {xs : List Ex} {s : Value} (h : Held P W xs s) (hf : Fr S W W') (hS : ∀ g, P g → ¬ S g) : Held P W' xs s := by
  induction h with
  | nil A c => exact .nil A c
  | cons g o c xs ss hg hl hrow hsub ih => exact .cons g o c xs ss hg hl (fun i h => (hrow i h).frS hf (hS g hg)) ih
/-- The block of a reader. -/
abbrev rdO (A : Option Addr) (m c i d : Nat) : Obj := .cells #[.slice A m c, .int .i64 (i : Nat), .int .i64 (d : Nat)] 109 (0, 0)
theorem cell_ne {W : World} {R g j : Nat} {cs : Array Value} {t : TypeId} {fr : Nat × Nat} {v : Value} (hR : W.heap[R]? = some (.cells cs t fr)) (hj : cs.size ≤ j) (h : W.cell? ⟨g, j, none⟩ = some v) : g ≠ R := by
  rintro rfl
  rw [blk_cell hR, Array.getElem?_eq_none hj] at h
  cases h
theorem fr_cell {R : Nat} {W W' : World} (hf : Fr (fun k => k = R) W W') {g j : Nat} {v : Value} (hg : g ≠ R) (h : W.cell? ⟨g, j, none⟩ = some v) : W'.cell? ⟨g, j, none⟩ = some v := by
  have hlt := World.block_lt_of_cell? W _ h
  rw [← h]
  unfold World.cell?
  rw [hf.block g hlt hg]
theorem RowC.fr {R : Nat} {W W' : World} {g o : Nat} {x : Ex} {s : Value} (h : RowC W g o x s) (hf : Fr (fun k => k = R) W W') {A : Option Addr} {m c i d : Nat} (hR : W.heap[R]? = some (rdO A m c i d)) : RowC W' g o x s := fun j hj =>
  fr_cell hf (cell_ne hR (show (3 : Nat) ≤ o + 9 by omega) (h 9 (by omega))) (h j hj)
theorem toksl_fr {R : Nat} {W W' : World} {A : Option Addr} {m : Nat} {l : Toks} (h : TokSl W A m l) (hf : Fr (fun k => k = R) W W') {A2 : Option Addr} {m2 c i d : Nat} (hR : W.heap[R]? = some (rdO A2 m2 c i d)) : TokSl W' A m l := by
  refine ⟨h.1, h.2.1, fun h0 => ?_⟩
  obtain ⟨g, rfl, hc⟩ := h.2.2 h0
  refine ⟨g, rfl, fun i hi => ?_⟩
  obtain ⟨a, b, c, e⟩ := hc i hi
  have hg := cell_ne hR (show (3 : Nat) ≤ i * 4 + 3 by omega) e
  exact ⟨fr_cell hf hg a, fr_cell hf hg b, fr_cell hf hg c, fr_cell hf hg e⟩
/-- The reader at R stands at i, d deep. -/
structure RdW (W : World) (R : Nat) (A : Option Addr) (m c : Nat) (l : Toks) (i d : Nat) : Prop where
  blk : W.heap[R]? = some (rdO A m c i d)
  tok : TokSl W A m l
  le : i ≤ l.length
  sh : W.ShapedOpen Tryz.prog
  low : Tryz.prog.low ≤ R
theorem RdW.below {W W' : World} {R : Nat} {A : Option Addr} {m c : Nat} {l : Toks} {i d : Nat} (h : RdW W R A m c l i d) (hb : Below W.heap.size W W') : RdW W' R A m c l i d :=
  ⟨blk_below hb h.blk, h.tok.below hb, h.le, shaped_below h.sh hb, h.low⟩
theorem shaped_fr {W W' : World} {R : Nat} {A A' : Option Addr} {m c i d m' c' i' d' : Nat} (h : W.ShapedOpen Tryz.prog) (hl : Tryz.prog.low ≤ R) (hf : Fr (fun k => k = R) W W') (h1 : W.heap[R]? = some (rdO A m c i d)) (h2 : W'.heap[R]? = some (rdO A' m' c' i' d')) : W'.ShapedOpen Tryz.prog := by
  refine h.keptBut (may := fun p => p.block = R) ⟨hf.os, hf.output, fun k hk => ?_⟩ (fun p hp => by rw [hp]; exact hl)
  by_cases hkR : k = R
  · subst hkR
    rw [h1, h2]
    exact ⟨rfl, rfl, rfl, fun j hj => absurd rfl hj⟩
  · rw [hf.block k hk hkR]
    cases hx : W.heap[k]? with
    | none => rfl
    | some o => cases o <;> simp
/-- The reader moves. -/
theorem RdW.move {W W' : World} {R : Nat} {A : Option Addr} {m c : Nat} {l : Toks} {i d : Nat} (h : RdW W R A m c l i d) (hf : Fr (fun k => k = R) W W') {j e : Nat} (hj : j ≤ l.length) (hb : W'.heap[R]? = some (rdO A m c j e)) : RdW W' R A m c l j e :=
  ⟨hb, toksl_fr h.tok hf h.blk, hj, shaped_fr h.sh h.low hf h.blk hb, h.low⟩
/-- An error is thrown. -/
def Thrown (e : Ending) (w' : World) (p : Nat) (n : Int) : Prop :=
  ∃ N, e = .panicked [{ v := .iface 93 (.pointer (some ⟨N, 0, none⟩)), recovered := false }] ∧ w'.heap[N]? = some (.cells #[.int .i64 (p : Nat), .iface 33 (.int .i64 n)] 95 (0, 0))
/-- How a part of the reader ends. -/
def Got (R : Nat) (A : Option Addr) (m c : Nat) (l : Toks) (d : Nat) (w : World) (r : Res Ex) (e : Ending) (w' : World) : Prop :=
  Fr (fun k => k = R) w w' ∧ match r with
  | .ok x => ∃ s, e = .returned (exV x.1 s) ∧ Held (fun g => w.heap.size ≤ g) w' x.1.args s ∧ RdW w' R A m c l x.2 d
  | .error x => Thrown e w' x.1 x.2
/-- How a part that answers nothing ends. -/
def Went (R : Nat) (A : Option Addr) (m c : Nat) (l : Toks) (d : Nat) (w : World) (r : Except (Nat × Int) Nat) (e : Ending) (w' : World) : Prop :=
  Fr (fun k => k = R) w w' ∧ match r with
  | .ok j => e = .returned (.tuple #[]) ∧ RdW w' R A m c l j d
  | .error x => Thrown e w' x.1 x.2
theorem thrown_below {e : Ending} {w' w'' : World} {p : Nat} {n : Int} (h : Thrown e w' p n) (hb : Below w'.heap.size w' w'') : Thrown e w'' p n := by
  obtain ⟨N, rfl, hN⟩ := h
  exact ⟨N, rfl, blk_below hb hN⟩
end Go.Proofs.YtcefmhofidoloaaGreatDoor.Exp

/- The reader of expressions: token, is, take, stop, must. -/
set_option linter.unusedVariables false
set_option linter.unusedSimpArgs false
namespace Go.Proofs.YtcefmhofidoloaaGreatDoor.Exp
open Go.RowKit Go.Proofs.YtcefmhofidoloaaGreatDoor.Base Go.Proofs.YtcefmhofidoloaaGreatDoor.App Go.Proofs.YtcefmhofidoloaaGreatDoor.Byt Go.Proofs.YtcefmhofidoloaaGreatDoor.Lex

/-- The word at a place; behind the end a zero one. -/
def tkV (l : Toks) (i : Nat) : Value := match l[i]? with
  | some x => .agg #[.int .i64 (x.1.kind : Nat), .string ⟨x.1.text.toArray⟩, .int .i64 (x.2 : Nat), .int .i64 x.1.num]
  | none => .agg #[.int .i64 0, .string ⟨#[]⟩, .int .i64 0, .int .i64 0]
theorem tkV_some {l : Toks} {i : Nat} (h : i < l.length) : tkV l i = .agg #[.int .i64 ((l[i].1.kind : Nat) : Int), .string ⟨l[i].1.text.toArray⟩, .int .i64 ((l[i].2 : Nat) : Int), .int .i64 l[i].1.num] := by
  unfold tkV
  rw [List.getElem?_eq_getElem h]
theorem tkV_none {l : Toks} {i : Nat} (h : l.length ≤ i) : tkV l i = .agg #[.int .i64 0, .string ⟨#[]⟩, .int .i64 0, .int .i64 0] := by
  unfold tkV
  rw [List.getElem?_eq_none h]

set_option maxRecDepth 100000 in
set_option maxHeartbeats 3200000 in
theorem token_calls (R : Nat) (A : Option Addr) (m c : Nat) (l : Toks) (i d : Nat) (w : World) (h : RdW w R A m c l i d) :
    Calls Tryz.prog 239 #[.pointer (some ⟨R, 0, none⟩)] w fun e w' => e = .returned (tkV l i) ∧ Below w.heap.size w w' := by
  have hm := h.tok.1
  have hmb := h.tok.2.1
  have hi := h.le
  have HH := Asd.mk h
  have HB := Asd.mk (below_alloc (Below.refl w.heap.size w) (.cells #[.int .i64 0, .string ⟨#[]⟩, .int .i64 0, .int .i64 0] 52))
  have HN := Asd.mk (blk_new w (.cells #[.int .i64 0, .string ⟨#[]⟩, .int .i64 0, .int .i64 0] 52))
  have HR := Asd.mk (blk_below HB.out h.blk)
  clear h
  go_enter Tryz.func239, Tryz.ntmps239
  go_upto_region 1 with fail
  generalize w.alloc (.cells #[.int .i64 0, .string ⟨#[]⟩, .int .i64 0, .int .i64 0] 52) = W at HB HN HR ⊢
  have r0 := (blk_cell HR.out 0).trans rfl
  have r1 := (blk_cell HR.out 1).trans rfl
  by_cases hlt : i < l.length
  · have HT := Asd.mk (HH.out.tok.below HB.out)
    obtain ⟨g, rfl, hc⟩ := HT.out.2.2 (by omega)
    obtain ⟨c0, c1, c2, c3⟩ := hc i hlt
    have HV := Asd.mk (tkV_some hlt)
    generalize l[i] = x at c0 c1 c2 c3 HV
    have hlt2 : i < m := by omega
    clear hc hm
    go_quiet (fail)
    have HB2 : Asd (∀ n, Below w.heap.size w (W.drewN n)) := Asd.mk fun n => HB.out.trans ((below_drewN' W n).mono HB.out.size)
    have HN2 : Asd (∀ n, (W.drewN n).heap[w.heap.size]? = some (.cells #[.int .i64 0, .string ⟨#[]⟩, .int .i64 0, .int .i64 0] 52)) := Asd.mk fun n => HN.out
    have HC0 : Asd (∀ n, (W.drewN n).cell? ⟨R, 0, none⟩ = some (.slice (some ⟨g, 0, none⟩) m c) ∧ (W.drewN n).cell? ⟨R, 1, none⟩ = some (.int .i64 (i : Nat)) ∧ (W.drewN n).cell? ⟨g, i * 4, none⟩ = some (.int .i64 (x.1.kind : Nat)) ∧ (W.drewN n).cell? ⟨g, i * 4 + 1, none⟩ = some (.string ⟨x.1.text.toArray⟩) ∧ (W.drewN n).cell? ⟨g, i * 4 + 2, none⟩ = some (.int .i64 (x.2 : Nat)) ∧ (W.drewN n).cell? ⟨g, i * 4 + 3, none⟩ = some (.int .i64 x.1.num)) := Asd.mk fun n => ⟨r0, r1, c0, c1, c2, c3⟩
    go_upto_region 3 with fail
    have hb2 := HB2.out nq
    have hn2 := HN2.out nq
    have hc0 := HC0.out nq
    have HB3 := Asd.mk hb2
    have HN3 := Asd.mk hn2
    clear r0 r1 c0 c1 c2 c3 HC0 HB2 HN2
    generalize W.drewN nq = W2 at hc0 HB3 HN3 ⊢
    clear hb2 hn2
    obtain ⟨r0, r1, c0, c1, c2, c3⟩ := hc0
    go_still_tail 10, (by kernel_rfl)
    change wpList _ _ _ _ _ W2.drew
    have HB4 : Asd (Below w.heap.size w W2.drew) := Asd.mk HB3.out.drew
    have HN4 : Asd (W2.drew.heap[w.heap.size]? = some (.cells #[.int .i64 0, .string ⟨#[]⟩, .int .i64 0, .int .i64 0] 52 (0, 0))) := Asd.mk HN3.out
    clear r0 r1 c0 c1 c2 c3
    generalize W2.drew = W3 at HB4 HN4 ⊢
    have y0 := (blk_cell HN4.out 0).trans rfl
    have y1 := (blk_cell HN4.out 1).trans rfl
    have y2 := (blk_cell HN4.out 2).trans rfl
    have y3 := (blk_cell HN4.out 3).trans rfl
    have z0 := blk_frozen HN4.out 0
    have z1 := blk_frozen HN4.out 1
    have z2 := blk_frozen HN4.out 2
    have z3 := blk_frozen HN4.out 3
    have HFIN : Asd (∀ a b c d, ((((W3.setCell ⟨w.heap.size, 0, none⟩ a).setCell ⟨w.heap.size, 1, none⟩ b).setCell ⟨w.heap.size, 2, none⟩ c).setCell ⟨w.heap.size, 3, none⟩ d).heap[w.heap.size]? = some (.cells #[a, b, c, d] 52 (0, 0)) ∧ Below w.heap.size w ((((W3.setCell ⟨w.heap.size, 0, none⟩ a).setCell ⟨w.heap.size, 1, none⟩ b).setCell ⟨w.heap.size, 2, none⟩ c).setCell ⟨w.heap.size, 3, none⟩ d)) := Asd.mk fun a b c d =>
      ⟨(blk_set (blk_set (blk_set (blk_set HN4.out 0 a) 1 b) 2 c) 3 d).trans rfl, (((HB4.out.setCell (Nat.le_refl _) a).setCell (Nat.le_refl _) b).setCell (Nat.le_refl _) c).setCell (Nat.le_refl _) d⟩
    go_wp2
    refine bodyPost_ret (results_cell_row rfl _ _ w.heap.size 52 _ (0, 0) _ rfl (HFIN.out _ _ _ _).1 Tryz.underlying52 rfl (by kernel_rfl)) rfl ?_
    exact ⟨by rw [HV.out], (HFIN.out _ _ _ _).2⟩
  · have HV := Asd.mk (tkV_none (l := l) (i := i) (by omega))
    have hge : ¬ i < m := by omega
    go_quiet (fail)
    have HB2 : Asd (∀ n, Below w.heap.size w (W.drewN n)) := Asd.mk fun n => HB.out.trans ((below_drewN' W n).mono HB.out.size)
    have HN2 : Asd (∀ n, (W.drewN n).heap[w.heap.size]? = some (.cells #[.int .i64 0, .string ⟨#[]⟩, .int .i64 0, .int .i64 0] 52 (0, 0))) := Asd.mk fun n => HN.out
    go_upto_region 2 with fail
    have HB3 := Asd.mk (HB2.out nq)
    have HN4 := Asd.mk (HN2.out nq)
    clear r0 r1 HB2 HN2
    generalize W.drewN nq = W3 at HB3 HN4 ⊢
    have HB4 := HB3
    have y0 := (blk_cell HN4.out 0).trans rfl
    have y1 := (blk_cell HN4.out 1).trans rfl
    have y2 := (blk_cell HN4.out 2).trans rfl
    have y3 := (blk_cell HN4.out 3).trans rfl
    have z0 := blk_frozen HN4.out 0
    have z1 := blk_frozen HN4.out 1
    have z2 := blk_frozen HN4.out 2
    have z3 := blk_frozen HN4.out 3
    have HFIN : Asd (∀ a b c d, ((((W3.setCell ⟨w.heap.size, 0, none⟩ a).setCell ⟨w.heap.size, 1, none⟩ b).setCell ⟨w.heap.size, 2, none⟩ c).setCell ⟨w.heap.size, 3, none⟩ d).heap[w.heap.size]? = some (.cells #[a, b, c, d] 52 (0, 0)) ∧ Below w.heap.size w ((((W3.setCell ⟨w.heap.size, 0, none⟩ a).setCell ⟨w.heap.size, 1, none⟩ b).setCell ⟨w.heap.size, 2, none⟩ c).setCell ⟨w.heap.size, 3, none⟩ d)) := Asd.mk fun a b c d =>
      ⟨(blk_set (blk_set (blk_set (blk_set HN4.out 0 a) 1 b) 2 c) 3 d).trans rfl, (((HB4.out.setCell (Nat.le_refl _) a).setCell (Nat.le_refl _) b).setCell (Nat.le_refl _) c).setCell (Nat.le_refl _) d⟩
    go_wp2
    refine bodyPost_ret (results_cell_row rfl _ _ w.heap.size 52 _ (0, 0) _ rfl (HFIN.out _ _ _ _).1 Tryz.underlying52 rfl (by kernel_rfl)) rfl ?_
    exact ⟨by rw [HV.out], (HFIN.out _ _ _ _).2⟩
end Go.Proofs.YtcefmhofidoloaaGreatDoor.Exp

/- The reader of expressions: is, take, stop, must. -/
set_option linter.unusedVariables false
set_option linter.unusedSimpArgs false
namespace Go.Proofs.YtcefmhofidoloaaGreatDoor.Exp
open Go.RowKit Go.Proofs.YtcefmhofidoloaaGreatDoor.Base Go.Proofs.YtcefmhofidoloaaGreatDoor.App Go.Proofs.YtcefmhofidoloaaGreatDoor.Byt Go.Proofs.YtcefmhofidoloaaGreatDoor.Lex

theorem toList_mk (s : List UInt8) : (⟨s.toArray⟩ : ByteArray).toList = s := by rw [Lib.toList_data]
theorem isT_some {l : Toks} {i k : Nat} {s : List UInt8} (h : i < l.length) : isT l i k s = (l[i].1.kind == k && l[i].1.text == s) := by
  unfold isT
  rw [List.getElem?_eq_getElem h]
theorem isT_none {l : Toks} {i k : Nat} {s : List UInt8} (h : l.length ≤ i) : isT l i k s = false := by
  unfold isT
  rw [List.getElem?_eq_none h]

set_option maxRecDepth 100000 in
set_option maxHeartbeats 3200000 in
theorem is_calls (R : Nat) (A : Option Addr) (m c : Nat) (l : Toks) (i d k : Nat) (s : List UInt8) (w : World) (hk : 1 ≤ k) (h : RdW w R A m c l i d) :
    Calls Tryz.prog 190 #[.pointer (some ⟨R, 0, none⟩), .int .i64 (k : Nat), .string ⟨s.toArray⟩] w fun e w' => e = .returned (.bool (isT l i k s)) ∧ Below w.heap.size w w' := by
  have HH := Asd.mk h
  clear h
  go_enter Tryz.func190, Tryz.ntmps190
  go_wp2_with fail
  refine (token_calls R A m c l i d w HH.out).mono ?_
  rintro e w1 ⟨rfl, hb1⟩
  have HB1 : Asd (∀ o, Below w.heap.size w (w1.alloc o)) := Asd.mk fun o => below_alloc hb1 o
  clear hb1
  by_cases hlt : i < l.length
  · rw [tkV_some hlt]
    have HI := Asd.mk (isT_some (k := k) (s := s) hlt)
    generalize l[i] = x at HI ⊢
    by_cases h1 : x.1.kind = k
    · have h1' : ((x.1.kind : Nat) : Int) = (k : Int) := by omega
      by_cases h2 : x.1.text = s
      · have h2' : (⟨x.1.text.toArray⟩ : ByteArray).toList = (⟨s.toArray⟩ : ByteArray).toList := by rw [h2]
        have HO : Asd (isT l i k s = true) := Asd.mk (by rw [HI.out]; simp [h1, h2])
        clear h1 h2
        go_wp2
        go_ret
        exact ⟨ret_eq (by rw [HO.out]; first | rfl | (show Value.bool (x.1.text == s) = Value.bool false; rw [HX2.out])), HB1.out _⟩
      · have h2' : ¬ (⟨x.1.text.toArray⟩ : ByteArray).toList = (⟨s.toArray⟩ : ByteArray).toList := by rw [toList_mk, toList_mk]; exact h2
        have HO : Asd (isT l i k s = false) := Asd.mk (by rw [HI.out]; simp [h2])
        have HX2 : Asd ((x.1.text == s) = false) := Asd.mk (by simp [h2])
        clear h1 h2
        go_wp2
        go_ret
        exact ⟨ret_eq (by rw [HO.out]; first | rfl | (show Value.bool (x.1.text == s) = Value.bool false; rw [HX2.out])), HB1.out _⟩
    · have h1' : ¬ ((x.1.kind : Nat) : Int) = (k : Int) := by omega
      have HO : Asd (isT l i k s = false) := Asd.mk (by rw [HI.out]; simp [h1])
      clear h1
      go_wp2
      go_ret
      exact ⟨ret_eq (by rw [HO.out]; first | rfl | (show Value.bool (x.1.text == s) = Value.bool false; rw [HX2.out])), HB1.out _⟩
  · rw [tkV_none (by omega)]
    have HO : Asd (isT l i k s = false) := Asd.mk (isT_none (by omega))
    have h1' : ¬ (0 : Int) = (k : Int) := by omega
    go_wp2
    go_ret
    exact ⟨ret_eq (by rw [HO.out]; rfl), HB1.out _⟩

/-- Where the reader stands behind a try to take a word. -/
def tookT (l : Toks) (i k : Nat) (s : List UInt8) : Nat := if isT l i k s then i + 1 else i
theorem RdW.set {W : World} {R : Nat} {A : Option Addr} {m c : Nat} {l : Toks} {i d : Nat} (h : RdW W R A m c l i d) {j : Nat} (hj : j ≤ l.length) : Fr (fun k => k = R) W (W.setCell ⟨R, 1, none⟩ (.int .i64 (j : Nat))) ∧ RdW (W.setCell ⟨R, 1, none⟩ (.int .i64 (j : Nat))) R A m c l j d := by
  have hf : Fr (fun k => k = R) W (W.setCell ⟨R, 1, none⟩ (.int .i64 (j : Nat))) := Fr.setCell (S := fun k => k = R) (Fr.refl _ W) (p := ⟨R, 1, none⟩) rfl _
  exact ⟨hf, h.move hf hj ((blk_set h.blk 1 _).trans rfl)⟩
theorem RdW.setD {W : World} {R : Nat} {A : Option Addr} {m c : Nat} {l : Toks} {i d : Nat} (h : RdW W R A m c l i d) (e : Nat) : Fr (fun k => k = R) W (W.setCell ⟨R, 2, none⟩ (.int .i64 (e : Nat))) ∧ RdW (W.setCell ⟨R, 2, none⟩ (.int .i64 (e : Nat))) R A m c l i e := by
  have hf : Fr (fun k => k = R) W (W.setCell ⟨R, 2, none⟩ (.int .i64 (e : Nat))) := Fr.setCell (S := fun k => k = R) (Fr.refl _ W) (p := ⟨R, 2, none⟩) rfl _
  exact ⟨hf, h.move hf h.le ((blk_set h.blk 2 _).trans rfl)⟩
theorem frR_below {R : Nat} {a b c : World} (h : Below a.heap.size a b) (k : Fr (fun k => k = R) b c) : Fr (fun k => k = R) a c := (Fr.of_below (S := fun k => k = R) h).trans k (fun _ h _ => h) (fun _ h _ => h)
theorem frR_trans {R : Nat} {a b c : World} (h : Fr (fun k => k = R) a b) (k : Fr (fun k => k = R) b c) : Fr (fun k => k = R) a c := h.trans k (fun _ h _ => h) (fun _ h _ => h)
theorem below_frR {R : Nat} {a b c : World} (h : Fr (fun k => k = R) a b) (k : Below b.heap.size b c) : Fr (fun k => k = R) a c := h.trans (Fr.of_below (S := fun k => k = R) k) (fun _ h _ => h) (fun _ h _ => h)

set_option maxRecDepth 100000 in
set_option maxHeartbeats 3200000 in
theorem take_calls (R : Nat) (A : Option Addr) (m c : Nat) (l : Toks) (i d k : Nat) (s : List UInt8) (w : World) (hk : 1 ≤ k) (h : RdW w R A m c l i d) :
    Calls Tryz.prog 238 #[.pointer (some ⟨R, 0, none⟩), .int .i64 (k : Nat), .string ⟨s.toArray⟩] w fun e w' => e = .returned (.bool (isT l i k s)) ∧ Fr (fun k => k = R) w w' ∧ RdW w' R A m c l (tookT l i k s) d := by
  have HH := Asd.mk h
  clear h
  go_enter Tryz.func238, Tryz.ntmps238
  go_wp2_with fail
  refine (is_calls R A m c l i d k s w hk HH.out).mono ?_
  rintro e w1 ⟨rfl, hb1⟩
  have H1 := HH.out.below hb1
  have r1 := (blk_cell H1.blk 1).trans rfl
  have z1 := blk_frozen H1.blk 1
  have hmb := H1.tok.2.1
  have hml := H1.tok.1
  have HR1 := Asd.mk H1
  have HB1 := Asd.mk hb1
  clear H1 hb1
  cases hT : isT l i k s with
  | true =>
    have HT := Asd.mk hT
    have hlt := isT_lt hT
    clear hT
    go_wp2
    go_ret
    have hs := HR1.out.set (j := i + 1) (by omega)
    refine ⟨ret_eq (by rw [HT.out]; rfl), frR_below HB1.out hs.1, ?_⟩
    unfold tookT
    rw [HT.out]
    exact hs.2
  | false =>
    have HT := Asd.mk hT
    clear hT
    go_wp2
    go_ret
    refine ⟨ret_eq (by rw [HT.out]; rfl), Fr.of_below HB1.out, ?_⟩
    unfold tookT
    rw [HT.out]
    exact HR1.out
end Go.Proofs.YtcefmhofidoloaaGreatDoor.Exp

/- The reader of expressions: stop, must. -/
set_option linter.unusedVariables false
set_option linter.unusedSimpArgs false
namespace Go.Proofs.YtcefmhofidoloaaGreatDoor.Exp
open Go.RowKit Go.Proofs.YtcefmhofidoloaaGreatDoor.Base Go.Proofs.YtcefmhofidoloaaGreatDoor.App Go.Proofs.YtcefmhofidoloaaGreatDoor.Byt Go.Proofs.YtcefmhofidoloaaGreatDoor.Lex

theorem stopAt_in {l : Toks} {i : Nat} (h : i < l.length) : stopAt l i = l[i].2 := by
  unfold stopAt
  rw [List.getElem?_eq_getElem h]
theorem stopAt_end {l : Toks} {i : Nat} (h : l.length ≤ i) (h0 : 0 < l.length) : stopAt l i = (l[l.length - 1]'(by omega)).2 + 1 := by
  unfold stopAt
  rw [List.getElem?_eq_none h, List.getLast?_eq_getElem?, List.getElem?_eq_getElem (by omega)]
theorem stopAt_no {l : Toks} {i : Nat} (h0 : l.length = 0) : stopAt l i = 0 := by
  obtain rfl : l = [] := List.length_eq_zero_iff.mp h0
  rfl
/-- The places are small. -/
def Near (l : Toks) : Prop := ∀ x ∈ l, x.2 ≤ 1048576 ∧ x.1.text.length ≤ 1048576

set_option maxRecDepth 100000 in
set_option maxHeartbeats 6400000 in
theorem stop_calls (R : Nat) (A : Option Addr) (m c : Nat) (l : Toks) (i d : Nat) (n : Int) (w : World) (hnear : Near l) (h : RdW w R A m c l i d) :
    Calls Tryz.prog 242 #[.pointer (some ⟨R, 0, none⟩), .int .i64 n] w fun e w' => Below w.heap.size w w' ∧ Thrown e w' (stopAt l i) n := by
  have hm := h.tok.1
  have hmb := h.tok.2.1
  have hi := h.le
  have HH := Asd.mk h
  have r0 := (blk_cell h.blk 0).trans rfl
  have r1 := (blk_cell h.blk 1).trans rfl
  clear h
  have hge : ¬ ((i : Int) < 0) := by omega
  go_enter Tryz.func242, Tryz.ntmps242
  by_cases hlt : i < l.length
  · have hltm : i < m := by omega
    clear hm
    go_upto_region 1 with fail
    go_quiet (fail)
    have H2 := Asd.mk (HH.out.below (below_drewN' w nq))
    have HB2 := Asd.mk (below_drewN' w nq)
    go_upto_region 2 with fail
    clear r0 r1
    generalize w.drewN nq = w2 at H2 HB2 ⊢
    have r0 := (blk_cell H2.out.blk 0).trans rfl
    have r1 := (blk_cell H2.out.blk 1).trans rfl
    obtain ⟨g, rfl, hc⟩ := H2.out.tok.2.2 (by omega)
    obtain ⟨_, _, c2, _⟩ := hc i hlt
    have HV := Asd.mk (stopAt_in hlt)
    generalize l[i] = x at c2 HV
    clear hc
    go_quiet (fail)
    have HB3 : Asd (∀ o, Below w.heap.size w ((w2.drewN nq).alloc o)) := Asd.mk fun o => below_alloc (HB2.out.trans ((below_drewN' w2 nq).mono HB2.out.size)) o
    generalize w2.drewN nq = w3 at HB3 ⊢
    go_wp2
    exact ⟨rfl, HB3.out _, ⟨_, rfl, by rw [HV.out]; exact blk_new _ _⟩⟩
  · have hgem : ¬ i < m := by omega
    have HM := Asd.mk hm
    clear hm
    go_upto_region 1 with fail
    go_quiet (fail)
    have H2 := Asd.mk (HH.out.below (below_drewN' w nq))
    have HB2 := Asd.mk (below_drewN' w nq)
    go_upto_region 3 with fail
    clear r0 r1
    generalize w.drewN nq = w2 at H2 HB2 ⊢
    have r0 := (blk_cell H2.out.blk 0).trans rfl
    have r1 := (blk_cell H2.out.blk 1).trans rfl
    by_cases h0 : 0 < l.length
    · have h0m : 0 < m := by have := HM.out; omega
      obtain ⟨g, rfl, hc⟩ := H2.out.tok.2.2 h0m
      obtain ⟨_, _, c2, _⟩ := hc (l.length - 1) (by omega)
      have HV := Asd.mk (stopAt_end (i := i) (by omega) h0)
      have hx : (l[l.length - 1]'(by omega)).2 ≤ 1048576 := (hnear _ (List.getElem_mem _)).1
      generalize (l[l.length - 1]'(by omega)) = x at c2 HV hx
      rw [← HM.out] at c2
      have hsub : ((m : Int) - 1) = ((m - 1 : Nat) : Int) := by omega
      have hm1 : m - 1 < m := by omega
      clear hc
      go_upto_region 4 with fail
      go_quiet (fail)
      have HB3 : Asd (∀ o, Below w.heap.size w ((w2.drewN nq).alloc o)) := Asd.mk fun o => below_alloc (HB2.out.trans ((below_drewN' w2 nq).mono HB2.out.size)) o
      generalize w2.drewN nq = w3 at HB3 ⊢
      go_wp2
      exact ⟨rfl, HB3.out _, ⟨_, rfl, by rw [HV.out]; exact blk_new _ _⟩⟩
    · have h0m : ¬ 0 < m := by have := HM.out; omega
      have HV := Asd.mk (stopAt_no (i := i) (show l.length = 0 by omega))
      have HB3 : Asd (∀ o, Below w.heap.size w (w2.alloc o)) := Asd.mk fun o => below_alloc HB2.out o
      go_wp2
      exact ⟨rfl, HB3.out _, ⟨_, rfl, by rw [HV.out]; exact blk_new _ _⟩⟩

theorem mustT_true {l : Toks} {i k : Nat} {s : List UInt8} (h : isT l i k s = true) : mustT l i k s = .ok (i + 1) := by unfold mustT; rw [if_pos h]
theorem mustT_false {l : Toks} {i k : Nat} {s : List UInt8} (h : isT l i k s = false) : mustT l i k s = .error (stopAt l i, 20) := by unfold mustT; rw [if_neg (by rw [h]; decide)]
set_option maxRecDepth 100000 in
set_option maxHeartbeats 3200000 in
theorem must_calls (R : Nat) (A : Option Addr) (m c : Nat) (l : Toks) (i d k : Nat) (s : List UInt8) (w : World) (hnear : Near l) (hk : 1 ≤ k) (h : RdW w R A m c l i d) :
    Calls Tryz.prog 244 #[.pointer (some ⟨R, 0, none⟩), .int .i64 (k : Nat), .string ⟨s.toArray⟩] w (Went R A m c l d w (mustT l i k s)) := by
  have HH := Asd.mk h
  have HNE := Asd.mk hnear
  clear h hnear
  go_enter Tryz.func244, Tryz.ntmps244
  go_wp2_with fail
  refine (take_calls R A m c l i d k s w hk HH.out).mono ?_
  rintro e w1 ⟨rfl, hf, hr⟩
  have HF := Asd.mk hf
  have HR := Asd.mk hr
  clear hf hr
  cases hT : isT l i k s with
  | true =>
    have HT := Asd.mk hT
    have HM := Asd.mk (mustT_true hT)
    clear hT
    go_wp2
    refine bodyPost_ret (results_none rfl _ _ _) rfl ?_
    refine ⟨HF.out, ?_⟩
    rw [HM.out]
    refine ⟨rfl, ?_⟩
    have := HR.out
    unfold tookT at this
    rw [HT.out] at this
    exact this
  | false =>
    have HT := Asd.mk hT
    have HM := Asd.mk (mustT_false hT)
    have HR2 : Asd (RdW w1 R A m c l i d) := Asd.mk (by
      have := HR.out
      unfold tookT at this
      rw [HT.out] at this
      exact this)
    clear hT
    go_wp2_with fail
    refine (stop_calls R A m c l i d 20 w1 HNE.out HR2.out).mono ?_
    rintro e w2 ⟨hb2, N, rfl, hN⟩
    refine ⟨rfl, below_frR HF.out hb2, ?_⟩
    rw [HM.out]
    exact ⟨N, rfl, hN⟩
end Go.Proofs.YtcefmhofidoloaaGreatDoor.Exp

/- Expressions held in a block of a call's own. -/
set_option linter.unusedVariables false
set_option linter.unusedSimpArgs false
namespace Go.Proofs.YtcefmhofidoloaaGreatDoor.Exp
open Go.RowKit Go.Proofs.YtcefmhofidoloaaGreatDoor.Base Go.Proofs.YtcefmhofidoloaaGreatDoor.App Go.Proofs.YtcefmhofidoloaaGreatDoor.Byt Go.Proofs.YtcefmhofidoloaaGreatDoor.Lex

def rowsC (ps : List (Ex × Value)) : List Value := ps.flatMap fun p => exC p.1 p.2
theorem exC_len (x : Ex) (s : Value) : (exC x s).length = 10 := rfl
theorem rowsC_cons (p : Ex × Value) (ps : List (Ex × Value)) : rowsC (p :: ps) = exC p.1 p.2 ++ rowsC ps := by simp [rowsC]
theorem rowsC_snoc (ps : List (Ex × Value)) (p : Ex × Value) : rowsC (ps ++ [p]) = rowsC ps ++ exC p.1 p.2 := by simp [rowsC]
theorem rowsC_at : ∀ (ps : List (Ex × Value)) (i : Nat) (hi : i < ps.length) (j : Nat) (hj : j < 10), (rowsC ps)[i * 10 + j]? = some ((exC ps[i].1 ps[i].2)[j]'(by rw [exC_len]; exact hj))
  | p :: r, 0, hi, j, hj => by
    rw [rowsC_cons, Nat.zero_mul, Nat.zero_add, List.getElem?_append_left (by rw [exC_len]; exact hj), List.getElem?_eq_getElem]
    rfl
  | p :: r, i + 1, hi, j, hj => by
    have ih := rowsC_at r i (by simpa using hi) j hj
    rw [rowsC_cons, List.getElem?_append_right (by rw [exC_len]; omega), exC_len, show (i + 1) * 10 + j - 10 = i * 10 + j by omega, ih]
    rfl
theorem held_of_cells {P : Nat → Prop} {W : World} {g c : Nat} (hP : P g) (ps : List (Ex × Value)) (h : ∀ i (hi : i < ps.length), RowC W g (0 + i * 10) ps[i].1 ps[i].2) (hs : ∀ p ∈ ps, Held P W p.1.args p.2) : Held P W (ps.map (·.1)) (.slice (some ⟨g, 0, none⟩) ps.length c) := by
  have := Held.cons (P := P) (W := W) g 0 c (ps.map (·.1)) (ps.map (·.2)) hP (by simp) (fun i hi => by
    have hi' : i < ps.length := by simpa using hi
    simpa using h i hi') (fun i hi => by
    have hi' : i < ps.length := by simpa using hi
    simpa using hs _ (List.getElem_mem hi'))
  simpa using this
theorem held_of_blk {P : Nat → Prop} {W : World} {g c : Nat} {T : TypeId} {fr : Nat × Nat} (hP : P g) (ps : List (Ex × Value)) (h : W.heap[g]? = some (.cells (rowsC ps).toArray T fr)) (hs : ∀ p ∈ ps, Held P W p.1.args p.2) : Held P W (ps.map (·.1)) (.slice (some ⟨g, 0, none⟩) ps.length c) := by
  refine held_of_cells hP ps (fun i hi j hj => ?_) hs
  rw [blk_cell h, Nat.zero_add, List.getElem?_toArray, rowsC_at ps i hi j hj]
  rfl
theorem held_of_own {P : Nat → Prop} {W : World} {B : Nat} (hP : ∀ g, B ≤ g → P g) {A : Option Addr} {m c : Nat} (ps : List (Ex × Value)) (hm : m = ps.length) (h : W.ownsRow B 58 10 (.slice A m c) m (rowsC ps)) (hs : ∀ p ∈ ps, Held P W p.1.args p.2) : Held P W (ps.map (·.1)) (.slice A m c) := by
  subst hm
  have hc := fun g => h.cells (g := g)
  rcases h.2 with ⟨he, h00⟩ | ⟨g, cap, cur, he, hb, hh, _⟩
  · have : ps = [] := List.length_eq_zero_iff.mp h00
    subst this
    exact .nil _ _
  · injection he with h1 h2 h3
    subst h1
    refine held_of_cells (hP g hb) ps (fun i hi j hj => ?_) hs
    have hg := hc g (by simp [Value.ownBlock])
    have := hg _ _ (rowsC_at ps i hi j hj)
    rw [addr_add, Nat.zero_add] at this
    rw [Nat.zero_add]
    exact this
theorem held_slice {P : Nat → Prop} {W : World} {xs : List Ex} {s : Value} (h : Held P W xs s) : ∃ A n c, s = .slice A n c := by
  cases h with
  | nil A c => exact ⟨_, _, _, rfl⟩
  | cons g o c xs ss hg hl hrow hsub => exact ⟨_, _, _, rfl⟩
theorem put10_blk {W : World} {b : Nat} {T : TypeId} {fr : Nat × Nat} {c0 c1 c2 c3 c4 c5 c6 c7 c8 c9 : Value} (h : W.heap[b]? = some (.cells #[c0, c1, c2, c3, c4, c5, c6, c7, c8, c9] T fr)) (v0 v1 v2 v3 v4 v5 v6 v7 v8 v9 : Value) : ((((((((((W.setCell ⟨b, 0, none⟩ v0).setCell ⟨b, 1, none⟩ v1).setCell ⟨b, 2, none⟩ v2).setCell ⟨b, 3, none⟩ v3).setCell ⟨b, 4, none⟩ v4).setCell ⟨b, 5, none⟩ v5).setCell ⟨b, 6, none⟩ v6).setCell ⟨b, 7, none⟩ v7).setCell ⟨b, 8, none⟩ v8).setCell ⟨b, 9, none⟩ v9).heap[b]? = some (.cells #[v0, v1, v2, v3, v4, v5, v6, v7, v8, v9] T fr) := by
  have := setCells_heap [v0, v1, v2, v3, v4, v5, v6, v7, v8, v9] 0 h
  have e : putCells #[c0, c1, c2, c3, c4, c5, c6, c7, c8, c9] 0 [v0, v1, v2, v3, v4, v5, v6, v7, v8, v9] = #[v0, v1, v2, v3, v4, v5, v6, v7, v8, v9] := by simp [putCells]
  rw [e] at this
  exact this
theorem put10_fr {W : World} {b : Nat} {S : Nat → Prop} (hb : S b) (v0 v1 v2 v3 v4 v5 v6 v7 v8 v9 : Value) : Fr S W ((((((((((W.setCell ⟨b, 0, none⟩ v0).setCell ⟨b, 1, none⟩ v1).setCell ⟨b, 2, none⟩ v2).setCell ⟨b, 3, none⟩ v3).setCell ⟨b, 4, none⟩ v4).setCell ⟨b, 5, none⟩ v5).setCell ⟨b, 6, none⟩ v6).setCell ⟨b, 7, none⟩ v7).setCell ⟨b, 8, none⟩ v8).setCell ⟨b, 9, none⟩ v9) :=
  Fr.setCell (p := ⟨b, 9, none⟩) (Fr.setCell (p := ⟨b, 8, none⟩) (Fr.setCell (p := ⟨b, 7, none⟩) (Fr.setCell (p := ⟨b, 6, none⟩) (Fr.setCell (p := ⟨b, 5, none⟩) (Fr.setCell (p := ⟨b, 4, none⟩) (Fr.setCell (p := ⟨b, 3, none⟩) (Fr.setCell (p := ⟨b, 2, none⟩) (Fr.setCell (p := ⟨b, 1, none⟩) (Fr.setCell (p := ⟨b, 0, none⟩) (Fr.refl S W) hb v0) hb v1) hb v2) hb v3) hb v4) hb v5) hb v6) hb v7) hb v8) hb v9
/-- What a new variable holds is no concern of those ahead. -/
theorem fr_new {R : Nat} {a b c : World} {S : Nat → Prop} (h : Fr (fun k => k = R) a b) (k : Fr S b c) (hs : ∀ k, S k → k = R ∨ a.heap.size ≤ k) : Fr (fun k => k = R) a c :=
  ⟨k.os.trans h.os, k.tape.trans h.tape, k.output.trans h.output, Nat.le_trans h.size k.size, fun i hi hu => (k.block i (Nat.lt_of_lt_of_le hi h.size) (fun h' => by rcases hs i h' with h | h; exact hu h; omega)).trans (h.block i hi hu)⟩
theorem ex_cells {W : World} {b : Nat} {x : Ex} {s : Value} {T : TypeId} {fr : Nat × Nat} (h : W.heap[b]? = some (.cells (exC x s).toArray T fr)) : W.cell? ⟨b, 0, none⟩ = some (.int .i64 x.kind) ∧ W.cell? ⟨b, 1, none⟩ = some (.int .i64 x.op) ∧ W.cell? ⟨b, 2, none⟩ = some (.int .i64 x.v.kind) ∧ W.cell? ⟨b, 3, none⟩ = some (.int .i64 x.v.int) ∧ W.cell? ⟨b, 4, none⟩ = some (.string ⟨x.v.text.toArray⟩) ∧ W.cell? ⟨b, 5, none⟩ = some (.string ⟨x.table.toArray⟩) ∧ W.cell? ⟨b, 6, none⟩ = some (.string ⟨x.name.toArray⟩) ∧ W.cell? ⟨b, 7, none⟩ = some (.int .i64 x.col) ∧ W.cell? ⟨b, 8, none⟩ = some (.int .i64 x.ty) ∧ W.cell? ⟨b, 9, none⟩ = some (s) :=
  ⟨(blk_cell h 0).trans rfl, (blk_cell h 1).trans rfl, (blk_cell h 2).trans rfl, (blk_cell h 3).trans rfl, (blk_cell h 4).trans rfl, (blk_cell h 5).trans rfl, (blk_cell h 6).trans rfl, (blk_cell h 7).trans rfl, (blk_cell h 8).trans rfl, (blk_cell h 9).trans rfl⟩
theorem asize (w : World) (o : Obj) : (w.alloc o).heap.size = w.heap.size + 1 := by simp
theorem nb1 (w : World) (a b : Obj) : ((w.alloc a).alloc b).heap[w.heap.size + 1]? = some b := by
  have := blk_new (w.alloc a) b
  rwa [asize] at this
theorem nb2 (w : World) (a b c : Obj) : (((w.alloc a).alloc b).alloc c).heap[w.heap.size + 1 + 1]? = some c := by
  have := nb1 (w.alloc a) b c
  rwa [asize] at this
theorem nb3 (w : World) (a b c d : Obj) : ((((w.alloc a).alloc b).alloc c).alloc d).heap[w.heap.size + 1 + 1 + 1]? = some d := by
  have := nb2 (w.alloc a) b c d
  rwa [asize] at this
end Go.Proofs.YtcefmhofidoloaaGreatDoor.Exp

/- The reader of expressions: pair, literal. -/
set_option linter.unusedVariables false
set_option linter.unusedSimpArgs false
namespace Go.Proofs.YtcefmhofidoloaaGreatDoor.Exp
open Go.RowKit Go.Proofs.YtcefmhofidoloaaGreatDoor.Base Go.Proofs.YtcefmhofidoloaaGreatDoor.App Go.Proofs.YtcefmhofidoloaaGreatDoor.Byt Go.Proofs.YtcefmhofidoloaaGreatDoor.Lex

set_option maxRecDepth 100000 in
set_option maxHeartbeats 6400000 in
theorem literal_calls (v : Vl) (w : World) :
    Calls Tryz.prog 240 #[.agg #[.int .i64 v.kind, .int .i64 v.int, .string ⟨v.text.toArray⟩]] w fun e w' => e = .returned (exV (litE v) (.slice none 0 0)) ∧ Below w.heap.size w w' := by
  go_enter Tryz.func240, Tryz.ntmps240
  go_wp2
  refine bodyPost_ret (results_cell_row rfl _ _ (w.heap.size + 1) 58 _ (0, 0) _ rfl (nb1 _ _ _) Tryz.underlying58 rfl (by kernel_rfl)) rfl ?_
  exact ⟨rfl, below_alloc (below_alloc (Below.refl _ w) _) _⟩
set_option maxRecDepth 100000 in
set_option maxHeartbeats 6400000 in
theorem pair_calls (o : Int) (a b : Ex) (sa sb : Value) (w : World) {P : Nat → Prop} (ha : Held P w a.args sa) (hb : Held P w b.args sb) :
    Calls Tryz.prog 189 #[.int .i64 o, exV a sa, exV b sb] w fun e w' => (∃ s, e = .returned (exV (pairE o a b) s) ∧ Held (fun g => P g ∨ w.heap.size ≤ g) w' [a, b] s) ∧ Below w.heap.size w w' := by
  unfold exV
  have HA := Asd.mk ha
  have HB := Asd.mk hb
  clear ha hb
  go_enter Tryz.func189, Tryz.ntmps189
  go_wp2
  refine bodyPost_ret (results_cell_row rfl _ _ (w.heap.size + 1 + 1) 58 _ (0, 0) _ rfl (blk_alloc (nb2 _ _ _ _) _) Tryz.underlying58 rfl (by kernel_rfl)) rfl ?_
  have hbel := below_alloc (below_alloc (below_alloc (below_alloc (Below.refl _ w) (.cells #[.int .i64 a.kind, .int .i64 a.op, .int .i64 a.v.kind, .int .i64 a.v.int, .string ⟨a.v.text.toArray⟩, .string ⟨a.table.toArray⟩, .string ⟨a.name.toArray⟩, .int .i64 a.col, .int .i64 a.ty, sa] 58)) (.cells #[.int .i64 b.kind, .int .i64 b.op, .int .i64 b.v.kind, .int .i64 b.v.int, .string ⟨b.v.text.toArray⟩, .string ⟨b.table.toArray⟩, .string ⟨b.name.toArray⟩, .int .i64 b.col, .int .i64 b.ty, sb] 58)) (.cells #[.int .i64 4, .int .i64 o, .int .i64 0, .int .i64 0, .string ⟨#[]⟩, .string ⟨#[]⟩, .string ⟨#[]⟩, .int .i64 0, .int .i64 0, .slice (some ⟨w.heap.size + 1 + 1 + 1, 0, none⟩) 2 2] 58)) (.cells (rowsC [(a, sa), (b, sb)]).toArray 58)
  refine ⟨⟨.slice (some ⟨w.heap.size + 1 + 1 + 1, 0, none⟩) 2 2, rfl, ?_⟩, hbel⟩
  refine held_of_blk (P := fun g => P g ∨ w.heap.size ≤ g) (c := 2) (.inr (by omega)) [(a, sa), (b, sb)] (nb3 w _ _ _ (.cells (rowsC [(a, sa), (b, sb)]).toArray 58)) ?_
  intro p hp
  simp only [List.mem_cons, List.not_mem_nil, or_false] at hp
  rcases hp with rfl | rfl
  · exact held_below (held_mono HA.out fun g _ h => .inl h) hbel
  · exact held_below (held_mono HB.out fun g _ h => .inl h) hbel
end Go.Proofs.YtcefmhofidoloaaGreatDoor.Exp

/- The reader of expressions: lines, tests, operator. -/
set_option linter.unusedVariables false
set_option linter.unusedSimpArgs false
namespace Go.Proofs.YtcefmhofidoloaaGreatDoor.Exp
open Go.RowKit Go.Proofs.YtcefmhofidoloaaGreatDoor.Base Go.Proofs.YtcefmhofidoloaaGreatDoor.App Go.Proofs.YtcefmhofidoloaaGreatDoor.Byt Go.Proofs.YtcefmhofidoloaaGreatDoor.Lex

/-- A slice of operators. -/
def SgA (W : World) (ops : List Sg) (v : Value) : Prop :=
  ∃ g c, v = .slice (some ⟨g, 0, none⟩) ops.length c ∧ ∀ i (h : i < ops.length), W.cell? ⟨g, i * 3, none⟩ = some (.int .i64 (ops[i].1 : Nat)) ∧ W.cell? ⟨g, i * 3 + 1, none⟩ = some (.string ⟨ops[i].2.1.toArray⟩) ∧ W.cell? ⟨g, i * 3 + 2, none⟩ = some (.int .i64 ops[i].2.2)
theorem SgA.below {W W' : World} {ops : List Sg} {v : Value} (h : SgA W ops v) (hb : Below W.heap.size W W') : SgA W' ops v := by
  obtain ⟨g, c, rfl, hc⟩ := h
  refine ⟨g, c, rfl, fun i hi => ?_⟩
  obtain ⟨a, b, d⟩ := hc i hi
  exact ⟨(hb.cell (World.block_lt_of_cell? W _ a)).trans a, (hb.cell (World.block_lt_of_cell? W _ b)).trans b, (hb.cell (World.block_lt_of_cell? W _ d)).trans d⟩
theorem SgA.fr {R : Nat} {W W' : World} {ops : List Sg} {v : Value} (h : SgA W ops v) (h0 : 0 < ops.length) (hf : Fr (fun k => k = R) W W') {A : Option Addr} {m c i d : Nat} (hR : W.heap[R]? = some (rdO A m c i d)) : SgA W' ops v := by
  obtain ⟨g, c, rfl, hc⟩ := h
  have hg : g ≠ R := by
    rintro rfl
    have := (hc 0 h0).1
    rw [blk_cell hR] at this
    simp at this
  refine ⟨g, c, rfl, fun i hi => ?_⟩
  obtain ⟨a, b, d⟩ := hc i hi
  exact ⟨fr_cell hf hg a, fr_cell hf hg b, fr_cell hf hg d⟩
/-- Where the reader stands behind a try to take an operator. -/
def tookO (ops : List Sg) (l : Toks) (i : Nat) : Nat := if (operT ops l i).isSome then i + 1 else i
theorem operT_no {x : Sg} {r : List Sg} {l : Toks} {i : Nat} (h : isT l i x.1 x.2.1 = false) : operT (x :: r) l i = operT r l i := by
  rw [operT, if_neg (by rw [h]; decide)]
theorem operT_yes {x : Sg} {r : List Sg} {l : Toks} {i : Nat} (h : isT l i x.1 x.2.1 = true) : operT (x :: r) l i = some x.2.2 := by
  rw [operT, if_pos h]

set_option maxRecDepth 100000 in
set_option maxHeartbeats 6400000 in
theorem operator_calls (R : Nat) (A : Option Addr) (m c : Nat) (l : Toks) (i d : Nat) (ops : List Sg) (v : Value) (w : World) (h0 : 0 < ops.length) (h1 : ∀ x ∈ ops, 1 ≤ x.1) (hl : ops.length ≤ 10) (hv : SgA w ops v) (h : RdW w R A m c l i d) :
    Calls Tryz.prog 188 #[.pointer (some ⟨R, 0, none⟩), v] w fun e w' => e = .returned (.int .i64 ((operT ops l i).getD 0)) ∧ Fr (fun k => k = R) w w' ∧ RdW w' R A m c l (tookO ops l i) d := by
  have HH := Asd.mk h
  have HV := Asd.mk hv
  have H1 := Asd.mk h1
  obtain ⟨g, cc, rfl, _⟩ := hv
  clear h h1
  have hlen := hl
  go_enter Tryz.func188, Tryz.ntmps188
  go_wp2
  generalize hn : ops.length = n at h0 hl hlen ⊢
  have HN := Asd.mk hn
  clear hn
  go_loopw [9] (fun v9 wr => ∃ k : Nat, k ≤ n ∧ v9 = .int .i64 (k : Int) ∧ Asd (operT ops l i = operT (ops.drop k) l i) ∧ Asd (Fr (fun k => k = R) w wr) ∧ Asd (RdW wr R A m c l i d)) (fun v9 _ => n - (intOf v9).toNat)
  case atStart => exact ⟨0, by omega, rfl, ⟨rfl⟩, ⟨Fr.refl _ _⟩, HH⟩
  case round =>
    obtain ⟨k, hk, rfl, HO, HF, HR⟩ := hrel
    by_cases hlt : k < n
    · have hko : k < ops.length := by rw [HN.out]; exact hlt
      have HVR := Asd.mk (HV.out.fr (by rw [HN.out]; exact h0) HF.out HH.out.blk)
      obtain ⟨g2, c2, he, hc⟩ := HVR.out
      injection he with he1 he2 he3
      injection he1 with he1
      injection he1 with he1
      subst he1
      obtain ⟨c0, c1, c2⟩ := hc k hko
      have HDR : Asd (ops.drop k = ops[k] :: ops.drop (k + 1)) := Asd.mk (List.drop_eq_getElem_cons hko)
      have HK1 := Asd.mk (H1.out _ (List.getElem_mem hko))
      generalize ops[k] = x at c0 c1 c2 HDR HK1
      obtain ⟨xk, xs, xo⟩ := x
      simp only at c0 c1 c2 HK1
      clear hc he2 he3 hko
      have HA := Asd.mk (below_alloc (Below.refl _ wr) (.cells #[.int .i64 (xk : Nat), .string ⟨xs.toArray⟩, .int .i64 xo] 232))
      have HNB := Asd.mk (blk_new wr (.cells #[.int .i64 (xk : Nat), .string ⟨xs.toArray⟩, .int .i64 xo] 232))
      go_wp2_with fail
      refine (take_calls R A m c l i d xk xs _ HK1.out (HR.out.below HA.out)).mono ?_
      rintro e w2 ⟨rfl, hf2, hr2⟩
      have HF2 := Asd.mk (frR_trans HF.out (frR_below HA.out hf2))
      have HNR : Asd (wr.heap.size ≠ R) := Asd.mk (by have := blk_lt HR.out.blk; omega)
      have x2 : w2.cell? ⟨wr.heap.size, 2, none⟩ = some (.int .i64 xo) := fr_cell hf2 HNR.out ((blk_cell HNB.out 2).trans rfl)
      have HR2 := Asd.mk hr2
      clear hf2 hr2
      cases hT : isT l i xk xs with
      | true =>
        have HOP : Asd (operT ops l i = some xo) := Asd.mk (by rw [HO.out, HDR.out]; exact operT_yes hT)
        have HT := Asd.mk hT
        clear hT
        go_wp2
        go_ret
        refine ⟨ret_eq (by rw [HOP.out]; rfl), HF2.out, ?_⟩
        have := HR2.out
        unfold tookT at this
        unfold tookO
        rw [HT.out] at this
        rw [HOP.out]
        exact this
      | false =>
        have HOP : Asd (operT ops l i = operT (ops.drop (k + 1)) l i) := Asd.mk (by rw [HO.out, HDR.out]; exact operT_no hT)
        have HT := Asd.mk hT
        have HR3 : Asd (RdW w2 R A m c l i d) := Asd.mk (by
          have := HR2.out
          unfold tookT at this
          rw [HT.out] at this
          exact this)
        clear hT
        go_wp2
        go_roundw
        case rel => exact ⟨k + 1, by omega, by go_num, HOP, HF2, HR3⟩
        case measure => simp [intOf]; omega
    · obtain rfl : k = n := by omega
      have HOP : Asd (operT ops l i = none) := Asd.mk (by rw [HO.out, List.drop_of_length_le (by rw [HN.out]; exact Nat.le_refl _)]; rfl)
      clear hlt
      go_wp2
      go_ret
      refine ⟨ret_eq (by rw [HOP.out]; rfl), HF.out, ?_⟩
      unfold tookO
      rw [HOP.out]
      exact HR.out
def sgC (ops : List Sg) : List Value := ops.flatMap fun x : Sg => [Value.int .i64 (x.1 : Nat), .string ⟨x.2.1.toArray⟩, .int .i64 x.2.2]
theorem sgA_of {W : World} {g c : Nat} {T : TypeId} {fr : Nat × Nat} (ops : List Sg) (h : W.heap[g]? = some (.cells (sgC ops).toArray T fr)) : SgA W ops (.slice (some ⟨g, 0, none⟩) ops.length c) := by
  have key : ∀ (os : List Sg) (i : Nat) (hi : i < os.length) (j : Nat), j < 3 → (os.flatMap fun x => [Value.int .i64 (x.1 : Nat), .string ⟨x.2.1.toArray⟩, .int .i64 x.2.2])[i * 3 + j]? = [Value.int .i64 (os[i].1 : Nat), .string ⟨os[i].2.1.toArray⟩, .int .i64 os[i].2.2][j]? := by
    intro os
    induction os with
    | nil => intro i hi; exact absurd hi (by simp)
    | cons x r ih =>
      intro i hi j hj
      cases i with
      | zero =>
        rw [List.flatMap_cons, Nat.zero_mul, Nat.zero_add, List.getElem?_append_left (by simpa using hj)]
        rfl
      | succ i =>
        have := ih i (by simpa using hi) j hj
        rw [List.flatMap_cons, List.getElem?_append_right (by simp; omega)]
        rw [show (i + 1) * 3 + j - [Value.int .i64 (x.1 : Nat), .string ⟨x.2.1.toArray⟩, .int .i64 x.2.2].length = i * 3 + j by simp; omega]
        exact this
  refine ⟨g, c, rfl, fun i hi => ?_⟩
  rw [blk_cell h, blk_cell h, blk_cell h, List.getElem?_toArray, List.getElem?_toArray, List.getElem?_toArray]
  exact ⟨(key ops i hi 0 (by omega)).trans rfl, (key ops i hi 1 (by omega)).trans rfl, (key ops i hi 2 (by omega)).trans rfl⟩

set_option maxRecDepth 100000 in
set_option maxHeartbeats 3200000 in
theorem tests_calls (w : World) : Calls Tryz.prog 245 #[] w fun e w' => (∃ v, e = .returned v ∧ SgA w' sgTest v) ∧ Below w.heap.size w w' := by
  go_enter Tryz.func245, Tryz.ntmps245
  go_wp2
  go_ret
  exact ⟨⟨.slice (some ⟨w.heap.size, 0, none⟩) 6 6, rfl, sgA_of (c := 6) sgTest (blk_new w (.cells (sgC sgTest).toArray 232))⟩, below_alloc (Below.refl _ w) _⟩

theorem nb4 (w : World) (a b c d e : Obj) : (((((w.alloc a).alloc b).alloc c).alloc d).alloc e).heap[w.heap.size + 1 + 1 + 1 + 1]? = some e := by
  have := nb3 (w.alloc a) b c d e
  rwa [asize] at this
theorem nb5 (w : World) (a b c d e f : Obj) : ((((((w.alloc a).alloc b).alloc c).alloc d).alloc e).alloc f).heap[w.heap.size + 1 + 1 + 1 + 1 + 1]? = some f := by
  have := nb4 (w.alloc a) b c d e f
  rwa [asize] at this
abbrev sgO (ops : List Sg) : Obj := .cells (sgC ops).toArray 232
set_option maxRecDepth 100000 in
set_option maxHeartbeats 3200000 in
theorem lines_calls (w : World) : Calls Tryz.prog 131 #[] w fun e w' => (∃ g c, e = .returned (.slice (some ⟨g, 0, none⟩) 5 c) ∧ w.heap.size ≤ g ∧ ∃ v0 v1 v2 v3 v4, w'.heap[g]? = some (.cells #[v0, v1, v2, v3, v4] 186 (0, 0)) ∧ SgA w' sgOr v0 ∧ SgA w' sgAnd v1 ∧ SgA w' sgCat v2 ∧ SgA w' sgSum v3 ∧ SgA w' sgProd v4) ∧ Below w.heap.size w w' := by
  go_enter Tryz.func131, Tryz.ntmps131
  go_wp2
  go_ret
  refine ⟨⟨w.heap.size + 1 + 1 + 1 + 1 + 1, 5, rfl, by omega, .slice (some ⟨w.heap.size, 0, none⟩) 1 1, .slice (some ⟨w.heap.size + 1, 0, none⟩) 1 1, .slice (some ⟨w.heap.size + 1 + 1, 0, none⟩) 1 1, .slice (some ⟨w.heap.size + 1 + 1 + 1, 0, none⟩) 2 2, .slice (some ⟨w.heap.size + 1 + 1 + 1 + 1, 0, none⟩) 3 3, nb5 w (sgO sgOr) (sgO sgAnd) (sgO sgCat) (sgO sgSum) (sgO sgProd) _, ?_, ?_, ?_, ?_, ?_⟩, ?_⟩
  · exact sgA_of (c := 1) sgOr (blk_alloc (blk_alloc (blk_alloc (blk_alloc (blk_alloc (blk_new w (sgO sgOr)) _) _) _) _) _)
  · exact sgA_of (c := 1) sgAnd (blk_alloc (blk_alloc (blk_alloc (blk_alloc (nb1 w (sgO sgOr) (sgO sgAnd)) _) _) _) _)
  · exact sgA_of (c := 1) sgCat (blk_alloc (blk_alloc (blk_alloc (nb2 w (sgO sgOr) (sgO sgAnd) (sgO sgCat)) _) _) _)
  · exact sgA_of (c := 2) sgSum (blk_alloc (blk_alloc (nb3 w (sgO sgOr) (sgO sgAnd) (sgO sgCat) (sgO sgSum)) _) _)
  · exact sgA_of (c := 3) sgProd (blk_alloc (nb4 w (sgO sgOr) (sgO sgAnd) (sgO sgCat) (sgO sgSum) (sgO sgProd)) _)
  · exact below_alloc (below_alloc (below_alloc (below_alloc (below_alloc (below_alloc (Below.refl _ w) _) _) _) _) _) _
end Go.Proofs.YtcefmhofidoloaaGreatDoor.Exp

/- The reader of expressions: a chain of operators. -/
set_option linter.unusedVariables false
set_option linter.unusedSimpArgs false
namespace Go.Proofs.YtcefmhofidoloaaGreatDoor.Exp
open Go.RowKit Go.Proofs.YtcefmhofidoloaaGreatDoor.Base Go.Proofs.YtcefmhofidoloaaGreatDoor.App Go.Proofs.YtcefmhofidoloaaGreatDoor.Byt Go.Proofs.YtcefmhofidoloaaGreatDoor.Lex

/-- A closure reads what f reads, d deep. -/
def OpOK (F : FuncId) (args : Array Value) (R : Nat) (A : Option Addr) (m c : Nat) (l : Toks) (f : Nat → Res Ex) (d : Nat) (w : World) : Prop :=
  ∀ w', Fr (fun k => k = R) w w' → ∀ i, RdW w' R A m c l i d → Calls Tryz.prog F args w' (Got R A m c l d w' (f i))
theorem OpOK.fr {F : FuncId} {args : Array Value} {R : Nat} {A : Option Addr} {m c : Nat} {l : Toks} {f : Nat → Res Ex} {d : Nat} {w w' : World} (h : OpOK F args R A m c l f d w) (hf : Fr (fun k => k = R) w w') : OpOK F args R A m c l f d w' := fun w'' h2 => h w'' (frR_trans hf h2)
/-- How far it is to the words' end. -/
def toEnd (l : Toks) (R : Nat) (w : World) : Nat := match w.cell? ⟨R, 1, none⟩ with
  | some (.int _ n) => l.length + 1 - n.toNat
  | _ => 0
theorem toEnd_eq {l : Toks} {R : Nat} {w : World} {A : Option Addr} {m c i d : Nat} (h : RdW w R A m c l i d) : toEnd l R w = l.length + 1 - i := by
  unfold toEnd
  rw [blk_cell h.blk 1]
  simp
theorem operT_mem {l : Toks} {i : Nat} : ∀ {ops : List Sg} {o : Int}, operT ops l i = some o → ∃ x ∈ ops, x.2.2 = o
  | [], o, h => by cases h
  | x :: r, o, h => by
    rw [operT] at h
    split at h
    · injection h with h; exact ⟨x, by simp, h⟩
    · obtain ⟨y, hy, e⟩ := operT_mem h
      exact ⟨y, by simp [hy], e⟩
theorem chainL_stop {ops : List Sg} {f : Nat → Res Ex} {l : Toks} {n : Nat} {x : Ex} {i : Nat} (h : operT ops l i = none) : chainL ops f l n x i = .ok (x, i) := by
  cases n with
  | zero => rfl
  | succ n => rw [chainL, h]
theorem chainL_go {ops : List Sg} {f : Nat → Res Ex} {l : Toks} {n : Nat} {x : Ex} {i : Nat} {o : Int} (h : operT ops l i = some o) (hn : l.length - i ≤ n) : ∃ n', l.length - (i + 1) ≤ n' ∧ chainL ops f l n x i = match f (i + 1) with
    | .error e => .error e
    | .ok (y, j) => chainL ops f l n' (pairE o x y) j := by
  have := operT_lt h
  cases n with
  | zero => omega
  | succ n =>
    refine ⟨n, by omega, ?_⟩
    rw [chainL, h] <;> rfl
/-- A function that is called by its text. -/
def IsGo (F : FuncId) : Prop := ∀ (args : Array Value) (w : World), (callFunc F args).run Tryz.prog w = .ok (.enter F args) w
theorem isGo_of {F : FuncId} {fn : Func} {c : Code} (hf : Tryz.prog.funcs[F]? = some fn) (hname : (fn.name == "runtime.NumGoroutine") = false) (hb : fn.body = some c) : IsGo F := by
  intro args w
  have h1 : ¬ fn.name = "runtime.NumGoroutine" := by simpa using hname
  simp [callFunc, hf, h1, hb]

set_option maxRecDepth 100000 in
set_option maxHeartbeats 6400000 in
theorem chain1_calls (F : FuncId) (first cap : Array Value) (b0 b1 b2 R : Nat) (A : Option Addr) (m c : Nat) (l : Toks) (f : Nat → Res Ex) (i d : Nat) (ops : List Sg) (vops : Value) (w : World) (hnear : Near l) (hf : Ahd f)
    (h0 : 0 < ops.length) (h1 : ∀ x ∈ ops, 1 ≤ x.1) (h2 : ∀ x ∈ ops, x.2.2 ≠ 0) (hl : ops.length ≤ 10)
    (p0 : w.heap[b0]? = some (.cells #[.func (.func F) first cap] 110 (0, 0))) (p1 : w.heap[b1]? = some (.cells #[.pointer (some ⟨R, 0, none⟩)] 107 (0, 0))) (p2 : w.heap[b2]? = some (.cells #[vops] 186 (0, 0)))
    (n0 : b0 ≠ R) (n1 : b1 ≠ R) (n2 : b2 ≠ R) (hv : SgA w ops vops) (hgo : IsGo F) (hop : OpOK F (first ++ cap) R A m c l f d w) (h : RdW w R A m c l i d) :
    Calls Tryz.prog 187 #[.pointer (some ⟨b0, 0, none⟩), .pointer (some ⟨b1, 0, none⟩), .pointer (some ⟨b2, 0, none⟩)] w (Got R A m c l d w (chainP ops f l i)) := by
  have HH := Asd.mk h
  have HP0 := Asd.mk p0
  have HP1 := Asd.mk p1
  have HP2 := Asd.mk p2
  have HN0 := Asd.mk n0
  have HN1 := Asd.mk n1
  have HN2 := Asd.mk n2
  have HV := Asd.mk hv
  have H1 := Asd.mk h1
  have H2 := Asd.mk h2
  have HOP := Asd.mk hop
  have HAH := Asd.mk hf
  have HNE := Asd.mk hnear
  have c0 := (blk_cell p0 0).trans rfl
  have hb0 := blk_lt p0
  clear h p0 p1 p2 n0 n1 n2 hv h1 h2 hop hf hnear
  go_enter Tryz.func187, Tryz.ntmps187
  have hcf : ∀ (args : Array Value) (w : World), (callFunc F args).run Tryz.prog w = .ok (.enter F args) w := hgo
  -- WALK
  have HBA := Asd.mk (below_alloc (Below.refl _ w) (.cells #[.int .i64 0, .int .i64 0, .int .i64 0, .int .i64 0, .string ⟨#[]⟩, .string ⟨#[]⟩, .string ⟨#[]⟩, .int .i64 0, .int .i64 0, .slice none 0 0] 58 (0, 0)))
  have HZ0 := Asd.mk (blk_new w (.cells #[.int .i64 0, .int .i64 0, .int .i64 0, .int .i64 0, .string ⟨#[]⟩, .string ⟨#[]⟩, .string ⟨#[]⟩, .int .i64 0, .int .i64 0, .slice none 0 0] 58 (0, 0)))
  have HSZ : Asd ((w.alloc (.cells #[.int .i64 0, .int .i64 0, .int .i64 0, .int .i64 0, .string ⟨#[]⟩, .string ⟨#[]⟩, .string ⟨#[]⟩, .int .i64 0, .int .i64 0, .slice none 0 0] 58 (0, 0))).heap.size = w.heap.size + 1) := Asd.mk (asize _ _)
  have HN3 : Asd (w.heap.size ≠ R) := Asd.mk (by have := blk_lt HH.out.blk; omega)
  go_wp2_with fail
  generalize w.alloc (.cells #[.int .i64 0, .int .i64 0, .int .i64 0, .int .i64 0, .string ⟨#[]⟩, .string ⟨#[]⟩, .string ⟨#[]⟩, .int .i64 0, .int .i64 0, .slice none 0 0] 58 (0, 0)) = w0 at HBA HZ0 HSZ ⊢
  refine (HOP.out w0 (Fr.of_below HBA.out) i (HH.out.below HBA.out)).mono ?_
  rintro e w1 ⟨hf1, hm⟩
  have HF1 := Asd.mk (frR_below HBA.out hf1)
  have HZ1 : Asd (w1.heap[w.heap.size]? = some (.cells #[.int .i64 0, .int .i64 0, .int .i64 0, .int .i64 0, .string ⟨#[]⟩, .string ⟨#[]⟩, .string ⟨#[]⟩, .int .i64 0, .int .i64 0, .slice none 0 0] 58 (0, 0))) := Asd.mk (blk_fr HZ0.out hf1 HN3.out)
  clear hf1
  cases hfi : f i with
  | error er =>
    rw [hfi] at hm
    have HC : Asd (chainP ops f l i = .error er) := Asd.mk (by unfold chainP; rw [hfi])
    obtain ⟨N, rfl, hN⟩ := hm
    clear hfi
    go_wp2
    refine ⟨rfl, HF1.out, ?_⟩
    rw [HC.out]
    exact ⟨N, rfl, hN⟩
  | ok y0 =>
    obtain ⟨x0, j0⟩ := y0
    rw [hfi] at hm
    obtain ⟨s0, rfl, hh0, hr0⟩ := hm
    obtain ⟨As, ms, cs, rfl⟩ := held_slice hh0
    have HC : Asd (chainP ops f l i = chainL ops f l (l.length - j0) x0 j0) := Asd.mk (by unfold chainP; rw [hfi])
    have HH0 : Asd (Held (fun g => w.heap.size < g ∧ g ≠ w1.heap.size) w1 x0.args (.slice As ms cs)) := Asd.mk (held_mono hh0 fun g h1 h2 => ⟨by have := HSZ.out; have h3 : w0.heap.size ≤ g := h2; omega, by omega⟩)
    have HR0 : Asd (RdW w1 R A m c l j0 d) := Asd.mk hr0
    clear hfi hh0 hr0
    unfold exV
    have HB4 := Asd.mk (below_alloc (Below.refl _ w1) (.cells (exC x0 (.slice As ms cs)).toArray 58 (0, 0)))
    have HE4 := Asd.mk (blk_new w1 (.cells (exC x0 (.slice As ms cs)).toArray 58 (0, 0)))
    have HN4 : Asd (w1.heap.size ≠ R) := Asd.mk (by have := blk_lt HR0.out.blk; omega)
    have HGE : Asd (w.heap.size < w1.heap.size) := Asd.mk (blk_lt HZ1.out)
    have HF2 : Asd (Fr (fun k => k = R) w (w1.alloc (.cells (exC x0 (.slice As ms cs)).toArray 58 (0, 0)))) := Asd.mk (below_frR HF1.out HB4.out)
    have HZ2 : Asd ((w1.alloc (.cells (exC x0 (.slice As ms cs)).toArray 58 (0, 0))).heap[w.heap.size]? = some (.cells #[.int .i64 0, .int .i64 0, .int .i64 0, .int .i64 0, .string ⟨#[]⟩, .string ⟨#[]⟩, .string ⟨#[]⟩, .int .i64 0, .int .i64 0, .slice none 0 0] 58 (0, 0))) := Asd.mk (blk_alloc HZ1.out _)
    have HR2 := Asd.mk (HR0.out.below HB4.out)
    have HH2 := Asd.mk (held_below HH0.out HB4.out)
    go_wp2_with fail
    change Code.wp _ _ _ _ (w1.alloc (.cells (exC x0 (.slice As ms cs)).toArray 58 (0, 0)))
    generalize w1.alloc (.cells (exC x0 (.slice As ms cs)).toArray 58 (0, 0)) = W at HF2 HZ2 HR2 HH2 HE4 ⊢
    clear HB4 HF1 HZ1 HR0 HH0 HBA HZ0 HSZ
    generalize w1.heap.size = b4 at HE4 HN4 HGE HH2 ⊢
    generalize hb3 : w.heap.size = b3 at HZ2 HN3 HGE HH2 ⊢
    have HB3 := Asd.mk hb3
    clear hb3
    go_loopw [5] (fun v5 wr => ∃ (n i' : Nat) (x : Ex) (A' : Option Addr) (m' c' : Nat), Asd (chainP ops f l i = chainL ops f l n x i') ∧ Asd (l.length - i' ≤ n) ∧ Asd (Fr (fun k => k = R) w wr) ∧ Asd (RdW wr R A m c l i' d) ∧ Asd (Held (fun g => b3 < g ∧ g ≠ b4) wr x.args (.slice A' m' c')) ∧ Asd (wr.heap[b4]? = some (.cells (exC x (.slice A' m' c')).toArray 58 (0, 0))) ∧ Asd (wr.heap[b3]? = some (.cells #[.int .i64 0, .int .i64 0, .int .i64 0, .int .i64 0, .string ⟨#[]⟩, .string ⟨#[]⟩, .string ⟨#[]⟩, .int .i64 0, .int .i64 0, .slice none 0 0] 58 (0, 0)))) (fun _ wr => toEnd l R wr)
    case atStart => exact ⟨_, j0, x0, As, ms, cs, HC, ⟨Nat.le_refl _⟩, HF2, HR2, HH2, HE4, HZ2⟩
    case round =>
      obtain ⟨n, i', x, A', m', c', HCH, HLE, HF, HR, HHX, HE, HZ⟩ := hrel
      clear HC HF2 HR2 HH2 HE4 HZ2
      have q1 := (blk_cell (blk_fr HP1.out HF.out HN1.out) 0).trans rfl
      have q2 := (blk_cell (blk_fr HP2.out HF.out HN2.out) 0).trans rfl
      have HTE := Asd.mk (toEnd_eq HR.out)
      go_wp2_with fail
      refine (operator_calls R A m c l i' d ops vops wr h0 H1.out hl (HV.out.fr h0 HF.out HH.out.blk) HR.out).mono ?_
      rintro e w2 ⟨rfl, hf2, hr2⟩
      have HFW := Asd.mk (frR_trans HF.out hf2)
      have HE2 : Asd (w2.heap[b4]? = some (.cells (exC x (.slice A' m' c')).toArray 58 (0, 0))) := Asd.mk (blk_fr HE.out hf2 HN4.out)
      have HZ2 : Asd (w2.heap[b3]? = some (.cells #[.int .i64 0, .int .i64 0, .int .i64 0, .int .i64 0, .string ⟨#[]⟩, .string ⟨#[]⟩, .string ⟨#[]⟩, .int .i64 0, .int .i64 0, .slice none 0 0] 58 (0, 0))) := Asd.mk (blk_fr HZ.out hf2 HN3.out)
      have HNR : Asd (R < b3) := Asd.mk (by rw [← HB3.out]; exact blk_lt HH.out.blk)
      have HHX2 := Asd.mk (held_frS HHX.out hf2 (fun g hg h => by have := HNR.out; have h1 := hg.1; have h2 : g = R := h; omega))
      have HRR := Asd.mk hr2
      clear hf2 hr2 q1 q2
      cases hO : operT ops l i' with
      | none =>
        have HCE : Asd (chainP ops f l i = .ok (x, i')) := Asd.mk (by rw [HCH.out, chainL_stop hO])
        have HR3 : Asd (RdW w2 R A m c l i' d) := Asd.mk (by have := HRR.out; unfold tookO at this; rw [hO] at this; exact this)
        clear hO
        rw [show (none : Option Int).getD 0 = 0 from rfl]
        obtain ⟨e0, e1, e2, e3, e4, e5, e6, e7, e8, e9⟩ := ex_cells HE2.out
        have y0 := (blk_cell HZ2.out 0).trans rfl
        have y1 := (blk_cell HZ2.out 1).trans rfl
        have y2 := (blk_cell HZ2.out 2).trans rfl
        have y3 := (blk_cell HZ2.out 3).trans rfl
        have y4 := (blk_cell HZ2.out 4).trans rfl
        have y5 := (blk_cell HZ2.out 5).trans rfl
        have y6 := (blk_cell HZ2.out 6).trans rfl
        have y7 := (blk_cell HZ2.out 7).trans rfl
        have y8 := (blk_cell HZ2.out 8).trans rfl
        have y9 := (blk_cell HZ2.out 9).trans rfl
        have z0 := blk_frozen HZ2.out 0
        have z1 := blk_frozen HZ2.out 1
        have z2 := blk_frozen HZ2.out 2
        have z3 := blk_frozen HZ2.out 3
        have z4 := blk_frozen HZ2.out 4
        have z5 := blk_frozen HZ2.out 5
        have z6 := blk_frozen HZ2.out 6
        have z7 := blk_frozen HZ2.out 7
        have z8 := blk_frozen HZ2.out 8
        have z9 := blk_frozen HZ2.out 9
        go_wp2
        refine bodyPost_ret (results_cell_row rfl _ _ b3 58 _ (0, 0) _ rfl (put10_blk HZ2.out _ _ _ _ _ _ _ _ _ _) Tryz.underlying58 rfl (by kernel_rfl)) rfl ?_
        have hfb := put10_fr (W := w2) (b := b3) (S := fun k => k = b3) rfl (.int .i64 x.kind) (.int .i64 x.op) (.int .i64 x.v.kind) (.int .i64 x.v.int) (.string ⟨x.v.text.toArray⟩) (.string ⟨x.table.toArray⟩) (.string ⟨x.name.toArray⟩) (.int .i64 x.col) (.int .i64 x.ty) (.slice A' m' c')
        have hff := fr_new HFW.out hfb (fun k hk => .inr (by rw [HB3.out]; exact Nat.le_of_eq hk.symm))
        refine ⟨hff, ?_⟩
        rw [HCE.out]
        refine ⟨.slice A' m' c', rfl, held_mono (held_frS HHX2.out hfb (fun g hg h => by have h1 := hg.1; have h2 : g = b3 := h; omega)) (fun g _ hg => by rw [HB3.out]; exact Nat.le_of_lt hg.1), ?_⟩
        exact HH.out.move hff HR3.out.le (blk_fr HR3.out.blk hfb (fun h => HN3.out h.symm))
      | some o =>
        obtain ⟨xo, hmem, hxo⟩ := operT_mem hO
        have ho : ¬ o = 0 := by rw [← hxo]; exact H2.out xo hmem
        have hob : (o == 0) = false := by simp [ho]
        have HR3 : Asd (RdW w2 R A m c l (i' + 1) d) := Asd.mk (by have := HRR.out; unfold tookO at this; rw [hO] at this; exact this)
        obtain ⟨n', hn', hch⟩ := chainL_go (x := x) (f := f) hO HLE.out
        have HN' := Asd.mk hn'
        have HLT := Asd.mk (operT_lt hO)
        clear hO hmem hxo hn'
        rw [show (some o).getD 0 = o from rfl]
        have HFD : Asd (Fr (fun k => k = R) w w2.drew) := Asd.mk HFW.out.drew
        have HED : Asd (w2.drew.heap[b4]? = some (.cells (exC x (.slice A' m' c')).toArray 58 (0, 0))) := Asd.mk HE2.out
        have HZD : Asd (w2.drew.heap[b3]? = some (.cells #[.int .i64 0, .int .i64 0, .int .i64 0, .int .i64 0, .string ⟨#[]⟩, .string ⟨#[]⟩, .string ⟨#[]⟩, .int .i64 0, .int .i64 0, .slice none 0 0] 58 (0, 0))) := Asd.mk HZ2.out
        have HHXD : Asd (Held (fun g => b3 < g ∧ g ≠ b4) w2.drew x.args (.slice A' m' c')) := Asd.mk (held_below HHX2.out (below_drewN' w2 1))
        have HRD : Asd (RdW w2.drew R A m c l (i' + 1) d) := Asd.mk (HR3.out.below (below_drewN' w2 1))
        have HB4D : Asd (b4 < w2.drew.heap.size) := Asd.mk (blk_lt HED.out)
        obtain ⟨e0, e1, e2, e3, e4, e5, e6, e7, e8, e9⟩ := ex_cells HED.out
        have k0 : w2.drew.cell? ⟨b0, 0, none⟩ = some (.func (.func F) first cap) := (blk_cell (blk_fr HP0.out HFD.out HN0.out) 0).trans rfl
        go_upto_region 5 with fail
        cases hfy : f (i' + 1) with
        | error er =>
          have HCE : Asd (chainP ops f l i = .error er) := Asd.mk (by rw [HCH.out, hch, hfy])
          have HFY := Asd.mk hfy
          clear hfy hch
          refine wp_region_held_drew (S := fun w' => w'.cell? ⟨b0, 0, none⟩ = some (.func (.func F) first cap) ∧ w'.cell? ⟨b4, 0, none⟩ = some (.int .i64 x.kind) ∧ w'.cell? ⟨b4, 1, none⟩ = some (.int .i64 x.op) ∧ w'.cell? ⟨b4, 2, none⟩ = some (.int .i64 x.v.kind) ∧ w'.cell? ⟨b4, 3, none⟩ = some (.int .i64 x.v.int) ∧ w'.cell? ⟨b4, 4, none⟩ = some (.string ⟨x.v.text.toArray⟩) ∧ w'.cell? ⟨b4, 5, none⟩ = some (.string ⟨x.table.toArray⟩) ∧ w'.cell? ⟨b4, 6, none⟩ = some (.string ⟨x.name.toArray⟩) ∧ w'.cell? ⟨b4, 7, none⟩ = some (.int .i64 x.col) ∧ w'.cell? ⟨b4, 8, none⟩ = some (.int .i64 x.ty) ∧ w'.cell? ⟨b4, 9, none⟩ = some (.slice A' m' c')) (by kernel_rfl) ⟨k0, e0, e1, e2, e3, e4, e5, e6, e7, e8, e9⟩ (fun hHeld => ?_)
          refine wpAnyH_take (i := 0) (oi := ({ dst := some 14, op := Op.move (Operand.tmp 5), type := 3, pos := "expr.go:127", after := #[], guard := none } : Oper)) (v := ?va0) rfl (by kernel_rfl) (by kernel_rfl) (by kernel_rfl) (fun _ _ _ h => h) (Or.inl ⟨by rfl, ?ha0⟩) (by assumption) ?ra0
          case ha0 => (intro w hSw; (try dsimp only at hSw); obtain ⟨g0, g1, g2, g3, g4, g5, g6, g7, g8, g9, g10⟩ := hSw; go_simp; try (with_reducible rfl))
          try simp only [Act.put, List.setIfInBounds_toArray, List.set_cons_zero, List.set_cons_succ]
          refine wpAnyH_take (i := 1) (oi := ({ dst := some 15, op := Op.load 58 (Operand.tmp 4), type := 58, pos := "expr.go:127", after := #[], guard := none } : Oper)) (v := ?va1) rfl (by kernel_rfl) (by kernel_rfl) (by kernel_rfl) (fun _ _ _ h => h) (Or.inl ⟨by rfl, ?ha1⟩) (by assumption) ?ra1
          case ha1 => (intro w hSw; (try dsimp only at hSw); obtain ⟨g0, g1, g2, g3, g4, g5, g6, g7, g8, g9, g10⟩ := hSw; go_simp; try (with_reducible rfl))
          try simp only [Act.put, List.setIfInBounds_toArray, List.set_cons_zero, List.set_cons_succ]
          refine wpAnyH_take (i := 2) (oi := ({ dst := some 16, op := Op.load 110 (Operand.tmp 0), type := 110, pos := "expr.go:127", after := #[], guard := none } : Oper)) (v := ?va2) rfl (by kernel_rfl) (by kernel_rfl) (by kernel_rfl) (fun _ _ _ h => h) (Or.inl ⟨by rfl, ?ha2⟩) (by assumption) ?ra2
          case ha2 => (intro w hSw; (try dsimp only at hSw); obtain ⟨g0, g1, g2, g3, g4, g5, g6, g7, g8, g9, g10⟩ := hSw; go_simp; try (with_reducible rfl))
          try simp only [Act.put, List.setIfInBounds_toArray, List.set_cons_zero, List.set_cons_succ]
          refine wpAnyH_ready (rs := [3]) (by kernel_rfl) (by simp) ?_
          refine AllReadyH.cons (o := ({ dst := some 17, op := Op.call { callee := Callee.value (Operand.tmp 16), args := #[], argTypes := #[] }, type := 58, pos := "expr.go:127", after := #[{ on := 2, ground := Ground.data }], guard := none } : Oper)) rfl (fun K hK => ?_) AllReadyH.nil
          go_simp
          refine (HOP.out _ HFD.out (i' + 1) HRD.out).mono ?_
          rintro e w3 ⟨hf3, hm⟩
          rw [HFY.out] at hm
          obtain ⟨N, rfl, hN⟩ := hm
          refine ⟨rfl, frR_trans HFD.out hf3, ?_⟩
          rw [HCE.out]
          exact ⟨N, rfl, hN⟩
        | ok yj =>
          obtain ⟨y, j'⟩ := yj
          have HCE : Asd (chainP ops f l i = chainL ops f l n' (pairE o x y) j') := Asd.mk (by rw [HCH.out, hch, hfy])
          have HFY := Asd.mk hfy
          have HJ := Asd.mk (HAH.out _ _ _ hfy)
          clear hfy hch
          refine wp_region_held_drew (S := fun w' => w'.cell? ⟨b0, 0, none⟩ = some (.func (.func F) first cap)) (by kernel_rfl) k0 (fun hHeld => ?_)
          refine wpAnyH_take (i := 0) (oi := ({ dst := some 14, op := Op.move (Operand.tmp 5), type := 3, pos := "expr.go:127", after := #[], guard := none } : Oper)) (v := ?vb0) rfl (by kernel_rfl) (by kernel_rfl) (by kernel_rfl) (fun _ _ _ h => h) (Or.inl ⟨by rfl, ?hb0⟩) (by assumption) ?rb0
          case hb0 => (intro w hSw; (try dsimp only at hSw); go_simp; try (with_reducible rfl))
          try simp only [Act.put, List.setIfInBounds_toArray, List.set_cons_zero, List.set_cons_succ]
          refine wpAnyH_take (i := 2) (oi := ({ dst := some 16, op := Op.load 110 (Operand.tmp 0), type := 110, pos := "expr.go:127", after := #[], guard := none } : Oper)) (v := ?vb2) rfl (by kernel_rfl) (by kernel_rfl) (by kernel_rfl) (fun _ _ _ h => h) (Or.inl ⟨by rfl, ?hb2⟩) (by assumption) ?rb2
          case hb2 => (intro w hSw; (try dsimp only at hSw); go_simp; try (with_reducible rfl))
          try simp only [Act.put, List.setIfInBounds_toArray, List.set_cons_zero, List.set_cons_succ]
          refine wpAnyH_ready (rs := [1, 3]) (by kernel_rfl) (by simp) ?_
          refine AllReadyH.cons (o := ({ dst := some 15, op := Op.load 58 (Operand.tmp 4), type := 58, pos := "expr.go:127", after := #[], guard := none } : Oper)) rfl ?aq (AllReadyH.cons (o := ({ dst := some 17, op := Op.call { callee := Callee.value (Operand.tmp 16), args := #[], argTypes := #[] }, type := 58, pos := "expr.go:127", after := #[{ on := 2, ground := Ground.data }], guard := none } : Oper)) rfl ?bq AllReadyH.nil)
          case aq =>
            intro K hK
            go_simp
            go_wp2_with fail
            refine hK.out _ _ (k0) (fun hHeld => ?_)
            clear hK K
            try simp only [Act.put, List.setIfInBounds_toArray, List.set_cons_zero, List.set_cons_succ]
            refine wpAnyH_ready (rs := [3]) (by kernel_rfl) (by simp) ?_
            refine AllReadyH.cons (o := ({ dst := some 17, op := Op.call { callee := Callee.value (Operand.tmp 16), args := #[], argTypes := #[] }, type := 58, pos := "expr.go:127", after := #[{ on := 2, ground := Ground.data }], guard := none } : Oper)) rfl (fun K hK => ?_) AllReadyH.nil
            go_simp
            refine (HOP.out _ HFD.out (i' + 1) HRD.out).mono ?_
            rintro e w3 ⟨hf3, hm⟩
            rw [HFY.out] at hm
            obtain ⟨s3, rfl, hh3, hr3⟩ := hm
            obtain ⟨A3, m3, c3, rfl⟩ := held_slice hh3
            unfold exV
            have HF3 := Asd.mk (frR_trans HFD.out hf3)
            have HE3 : Asd (w3.heap[b4]? = some (.cells (exC x (.slice A' m' c')).toArray 58 (0, 0))) := Asd.mk (blk_fr HED.out hf3 HN4.out)
            have HZ3 : Asd (w3.heap[b3]? = some (.cells #[.int .i64 0, .int .i64 0, .int .i64 0, .int .i64 0, .string ⟨#[]⟩, .string ⟨#[]⟩, .string ⟨#[]⟩, .int .i64 0, .int .i64 0, .slice none 0 0] 58 (0, 0))) := Asd.mk (blk_fr HZD.out hf3 HN3.out)
            have HHX3 := Asd.mk (held_frS HHXD.out hf3 (fun g hg h => by have := HNR.out; have h1 := hg.1; have h2 : g = R := h; omega))
            have HHY3 : Asd (Held (fun g => b3 < g ∧ g ≠ b4) w3 y.args (.slice A3 m3 c3)) := Asd.mk (held_mono hh3 fun g _ hg => by have h1 : w2.drew.heap.size ≤ g := hg; have := HB4D.out; have := HGE.out; exact ⟨by omega, by omega⟩)
            have HR4 := Asd.mk hr3
            clear hf3 hh3 hr3
            go_wp2_with fail
            refine hK.out _ _ ((blk_cell (blk_fr HP0.out HF3.out HN0.out) 0).trans rfl) (fun hHeld => ?_)
            clear hK K
            try simp only [Act.put, List.setIfInBounds_toArray, List.set_cons_zero, List.set_cons_succ]
            refine wpAnyH_ready (rs := [4]) (by kernel_rfl) (by simp) ?_
            refine AllReadyH.cons (o := ({ dst := some 18, op := Op.call { callee := Callee.value (Operand.func 189), args := #[Operand.tmp 14, Operand.tmp 15, Operand.tmp 17], argTypes := #[3, 58, 58] }, type := 58, pos := "expr.go:127", after := #[{ on := 0, ground := Ground.data }, { on := 1, ground := Ground.data }, { on := 3, ground := Ground.data }, { on := 3, ground := Ground.chain }], guard := none } : Oper)) rfl (fun K hK => ?_) AllReadyH.nil
            go_simp
            refine (pair_calls o x y (.slice A' m' c') (.slice A3 m3 c3) w3 HHX3.out HHY3.out).mono ?_
            rintro e w4 ⟨⟨s4, rfl, hh4⟩, hb4⟩
            obtain ⟨A4, m4, c4, rfl⟩ := held_slice hh4
            unfold exV
            have HF4 := Asd.mk (below_frR HF3.out hb4)
            have HE4 := Asd.mk (blk_below hb4 HE3.out)
            have HZ4 := Asd.mk (blk_below hb4 HZ3.out)
            have HH4 : Asd (Held (fun g => b3 < g ∧ g ≠ b4) w4 (pairE o x y).args (.slice A4 m4 c4)) := Asd.mk (held_mono hh4 fun g _ hg => by rcases hg with hg | hg; exact hg; have := blk_lt HE3.out; have := HGE.out; exact ⟨by omega, by omega⟩)
            have HR5 := Asd.mk (HR4.out.below hb4)
            clear hb4 hh4
            go_wp2_with fail
            refine hK.out _ _ ((blk_cell (blk_fr HP0.out HF4.out HN0.out) 0).trans rfl) (fun hHeld => ?_)
            clear hK K
            try simp only [Act.put, List.setIfInBounds_toArray, List.set_cons_zero, List.set_cons_succ]
            obtain ⟨e0, e1, e2, e3, e4, e5, e6, e7, e8, e9⟩ := ex_cells HE4.out
            have z0 := blk_frozen HE4.out 0
            have z1 := blk_frozen HE4.out 1
            have z2 := blk_frozen HE4.out 2
            have z3 := blk_frozen HE4.out 3
            have z4 := blk_frozen HE4.out 4
            have z5 := blk_frozen HE4.out 5
            have z6 := blk_frozen HE4.out 6
            have z7 := blk_frozen HE4.out 7
            have z8 := blk_frozen HE4.out 8
            have z9 := blk_frozen HE4.out 9
            have HB0 : Asd (b0 ≠ b4) := Asd.mk (by have := HB3.out; have := HGE.out; omega)
            have HP5 : Asd (Fr (fun k => k = b4) w4 ((((((((((w4.setCell ⟨b4, 0, none⟩ (.int .i64 (pairE o x y).kind)).setCell ⟨b4, 1, none⟩ (.int .i64 (pairE o x y).op)).setCell ⟨b4, 2, none⟩ (.int .i64 (pairE o x y).v.kind)).setCell ⟨b4, 3, none⟩ (.int .i64 (pairE o x y).v.int)).setCell ⟨b4, 4, none⟩ (.string ⟨(pairE o x y).v.text.toArray⟩)).setCell ⟨b4, 5, none⟩ (.string ⟨(pairE o x y).table.toArray⟩)).setCell ⟨b4, 6, none⟩ (.string ⟨(pairE o x y).name.toArray⟩)).setCell ⟨b4, 7, none⟩ (.int .i64 (pairE o x y).col)).setCell ⟨b4, 8, none⟩ (.int .i64 (pairE o x y).ty)).setCell ⟨b4, 9, none⟩ (.slice A4 m4 c4))) := Asd.mk (put10_fr (W := w4) (b := b4) (S := fun k => k = b4) rfl _ _ _ _ _ _ _ _ _ _)
            have HE5 : Asd (((((((((((w4.setCell ⟨b4, 0, none⟩ (.int .i64 (pairE o x y).kind)).setCell ⟨b4, 1, none⟩ (.int .i64 (pairE o x y).op)).setCell ⟨b4, 2, none⟩ (.int .i64 (pairE o x y).v.kind)).setCell ⟨b4, 3, none⟩ (.int .i64 (pairE o x y).v.int)).setCell ⟨b4, 4, none⟩ (.string ⟨(pairE o x y).v.text.toArray⟩)).setCell ⟨b4, 5, none⟩ (.string ⟨(pairE o x y).table.toArray⟩)).setCell ⟨b4, 6, none⟩ (.string ⟨(pairE o x y).name.toArray⟩)).setCell ⟨b4, 7, none⟩ (.int .i64 (pairE o x y).col)).setCell ⟨b4, 8, none⟩ (.int .i64 (pairE o x y).ty)).setCell ⟨b4, 9, none⟩ (.slice A4 m4 c4)).heap[b4]? = some (.cells (exC (pairE o x y) (.slice A4 m4 c4)).toArray 58 (0, 0))) := Asd.mk (put10_blk HE4.out _ _ _ _ _ _ _ _ _ _)
            refine wpAnyH_ready (rs := [5]) (by kernel_rfl) (by simp) ?_
            refine AllReadyH.cons (o := ({ dst := none, op := Op.store 58 (Operand.tmp 4) (Operand.tmp 18), type := 0, pos := "expr.go:127", after := #[{ on := 4, ground := Ground.data }, { on := 4, ground := Ground.chain }, { on := 0, ground := Ground.phase }, { on := 1, ground := Ground.phase }, { on := 2, ground := Ground.phase }, { on := 3, ground := Ground.phase }, { on := 4, ground := Ground.phase }], guard := none } : Oper)) rfl (fun K hK => ?_) AllReadyH.nil
            go_simp
            go_wp2_with fail
            refine hK.out _ _ ((blk_cell (blk_fr (blk_fr HP0.out HF4.out HN0.out) HP5.out HB0.out) 0).trans rfl) (fun hHeld => ?_)
            clear hK K
            try simp only [Act.put, List.setIfInBounds_toArray, List.set_cons_zero, List.set_cons_succ]
            refine wpAnyH_done (by kernel_rfl) ?_ _
            go_wp2
            go_roundw
            case rel =>
              have hff : Fr (fun k => k = R) w _ := fr_new HF4.out HP5.out (fun k hk => .inr (by have h1 : k = b4 := hk; have := HB3.out; have := HGE.out; omega))
              have hrr := HH.out.move hff HR5.out.le (blk_fr HR5.out.blk HP5.out (fun h => HN4.out h.symm))
              exact ⟨n', j', pairE o x y, A4, m4, c4, HCE, ⟨by have := HN'.out; have := HJ.out; omega⟩, ⟨hff⟩, ⟨hrr⟩, ⟨held_frS HH4.out HP5.out (fun g hg h => hg.2 h)⟩, HE5, ⟨blk_fr HZ4.out HP5.out (by have := HGE.out; omega)⟩⟩
            case measure =>
              have hff : Fr (fun k => k = R) w _ := fr_new HF4.out HP5.out (fun k hk => .inr (by have h1 : k = b4 := hk; have := HB3.out; have := HGE.out; omega))
              have hrr := HH.out.move hff HR5.out.le (blk_fr HR5.out.blk HP5.out (fun h => HN4.out h.symm))
              rw [toEnd_eq hrr, HTE.out]
              have := HJ.out; have := HLT.out; omega
          case bq =>
            intro K hK
            go_simp
            refine (HOP.out _ HFD.out (i' + 1) HRD.out).mono ?_
            rintro e w3 ⟨hf3, hm⟩
            rw [HFY.out] at hm
            obtain ⟨s3, rfl, hh3, hr3⟩ := hm
            obtain ⟨A3, m3, c3, rfl⟩ := held_slice hh3
            unfold exV
            have HF3 := Asd.mk (frR_trans HFD.out hf3)
            have HE3 : Asd (w3.heap[b4]? = some (.cells (exC x (.slice A' m' c')).toArray 58 (0, 0))) := Asd.mk (blk_fr HED.out hf3 HN4.out)
            have HZ3 : Asd (w3.heap[b3]? = some (.cells #[.int .i64 0, .int .i64 0, .int .i64 0, .int .i64 0, .string ⟨#[]⟩, .string ⟨#[]⟩, .string ⟨#[]⟩, .int .i64 0, .int .i64 0, .slice none 0 0] 58 (0, 0))) := Asd.mk (blk_fr HZD.out hf3 HN3.out)
            have HHX3 := Asd.mk (held_frS HHXD.out hf3 (fun g hg h => by have := HNR.out; have h1 := hg.1; have h2 : g = R := h; omega))
            have HHY3 : Asd (Held (fun g => b3 < g ∧ g ≠ b4) w3 y.args (.slice A3 m3 c3)) := Asd.mk (held_mono hh3 fun g _ hg => by have h1 : w2.drew.heap.size ≤ g := hg; have := HB4D.out; have := HGE.out; exact ⟨by omega, by omega⟩)
            have HR4 := Asd.mk hr3
            clear hf3 hh3 hr3
            go_wp2_with fail
            refine hK.out _ _ ((blk_cell (blk_fr HP0.out HF3.out HN0.out) 0).trans rfl) (fun hHeld => ?_)
            clear hK K
            try simp only [Act.put, List.setIfInBounds_toArray, List.set_cons_zero, List.set_cons_succ]
            obtain ⟨e0, e1, e2, e3, e4, e5, e6, e7, e8, e9⟩ := ex_cells HE3.out
            refine wpAnyH_ready (rs := [1]) (by kernel_rfl) (by simp) ?_
            refine AllReadyH.cons (o := ({ dst := some 15, op := Op.load 58 (Operand.tmp 4), type := 58, pos := "expr.go:127", after := #[], guard := none } : Oper)) rfl (fun K hK => ?_) AllReadyH.nil
            go_simp
            go_wp2_with fail
            refine hK.out _ _ ((blk_cell (blk_fr HP0.out HF3.out HN0.out) 0).trans rfl) (fun hHeld => ?_)
            clear hK K
            try simp only [Act.put, List.setIfInBounds_toArray, List.set_cons_zero, List.set_cons_succ]
            refine wpAnyH_ready (rs := [4]) (by kernel_rfl) (by simp) ?_
            refine AllReadyH.cons (o := ({ dst := some 18, op := Op.call { callee := Callee.value (Operand.func 189), args := #[Operand.tmp 14, Operand.tmp 15, Operand.tmp 17], argTypes := #[3, 58, 58] }, type := 58, pos := "expr.go:127", after := #[{ on := 0, ground := Ground.data }, { on := 1, ground := Ground.data }, { on := 3, ground := Ground.data }, { on := 3, ground := Ground.chain }], guard := none } : Oper)) rfl (fun K hK => ?_) AllReadyH.nil
            go_simp
            refine (pair_calls o x y (.slice A' m' c') (.slice A3 m3 c3) w3 HHX3.out HHY3.out).mono ?_
            rintro e w4 ⟨⟨s4, rfl, hh4⟩, hb4⟩
            obtain ⟨A4, m4, c4, rfl⟩ := held_slice hh4
            unfold exV
            have HF4 := Asd.mk (below_frR HF3.out hb4)
            have HE4 := Asd.mk (blk_below hb4 HE3.out)
            have HZ4 := Asd.mk (blk_below hb4 HZ3.out)
            have HH4 : Asd (Held (fun g => b3 < g ∧ g ≠ b4) w4 (pairE o x y).args (.slice A4 m4 c4)) := Asd.mk (held_mono hh4 fun g _ hg => by rcases hg with hg | hg; exact hg; have := blk_lt HE3.out; have := HGE.out; exact ⟨by omega, by omega⟩)
            have HR5 := Asd.mk (HR4.out.below hb4)
            clear hb4 hh4
            go_wp2_with fail
            refine hK.out _ _ ((blk_cell (blk_fr HP0.out HF4.out HN0.out) 0).trans rfl) (fun hHeld => ?_)
            clear hK K
            try simp only [Act.put, List.setIfInBounds_toArray, List.set_cons_zero, List.set_cons_succ]
            obtain ⟨e0, e1, e2, e3, e4, e5, e6, e7, e8, e9⟩ := ex_cells HE4.out
            have z0 := blk_frozen HE4.out 0
            have z1 := blk_frozen HE4.out 1
            have z2 := blk_frozen HE4.out 2
            have z3 := blk_frozen HE4.out 3
            have z4 := blk_frozen HE4.out 4
            have z5 := blk_frozen HE4.out 5
            have z6 := blk_frozen HE4.out 6
            have z7 := blk_frozen HE4.out 7
            have z8 := blk_frozen HE4.out 8
            have z9 := blk_frozen HE4.out 9
            have HB0 : Asd (b0 ≠ b4) := Asd.mk (by have := HB3.out; have := HGE.out; omega)
            have HP5 : Asd (Fr (fun k => k = b4) w4 ((((((((((w4.setCell ⟨b4, 0, none⟩ (.int .i64 (pairE o x y).kind)).setCell ⟨b4, 1, none⟩ (.int .i64 (pairE o x y).op)).setCell ⟨b4, 2, none⟩ (.int .i64 (pairE o x y).v.kind)).setCell ⟨b4, 3, none⟩ (.int .i64 (pairE o x y).v.int)).setCell ⟨b4, 4, none⟩ (.string ⟨(pairE o x y).v.text.toArray⟩)).setCell ⟨b4, 5, none⟩ (.string ⟨(pairE o x y).table.toArray⟩)).setCell ⟨b4, 6, none⟩ (.string ⟨(pairE o x y).name.toArray⟩)).setCell ⟨b4, 7, none⟩ (.int .i64 (pairE o x y).col)).setCell ⟨b4, 8, none⟩ (.int .i64 (pairE o x y).ty)).setCell ⟨b4, 9, none⟩ (.slice A4 m4 c4))) := Asd.mk (put10_fr (W := w4) (b := b4) (S := fun k => k = b4) rfl _ _ _ _ _ _ _ _ _ _)
            have HE5 : Asd (((((((((((w4.setCell ⟨b4, 0, none⟩ (.int .i64 (pairE o x y).kind)).setCell ⟨b4, 1, none⟩ (.int .i64 (pairE o x y).op)).setCell ⟨b4, 2, none⟩ (.int .i64 (pairE o x y).v.kind)).setCell ⟨b4, 3, none⟩ (.int .i64 (pairE o x y).v.int)).setCell ⟨b4, 4, none⟩ (.string ⟨(pairE o x y).v.text.toArray⟩)).setCell ⟨b4, 5, none⟩ (.string ⟨(pairE o x y).table.toArray⟩)).setCell ⟨b4, 6, none⟩ (.string ⟨(pairE o x y).name.toArray⟩)).setCell ⟨b4, 7, none⟩ (.int .i64 (pairE o x y).col)).setCell ⟨b4, 8, none⟩ (.int .i64 (pairE o x y).ty)).setCell ⟨b4, 9, none⟩ (.slice A4 m4 c4)).heap[b4]? = some (.cells (exC (pairE o x y) (.slice A4 m4 c4)).toArray 58 (0, 0))) := Asd.mk (put10_blk HE4.out _ _ _ _ _ _ _ _ _ _)
            refine wpAnyH_ready (rs := [5]) (by kernel_rfl) (by simp) ?_
            refine AllReadyH.cons (o := ({ dst := none, op := Op.store 58 (Operand.tmp 4) (Operand.tmp 18), type := 0, pos := "expr.go:127", after := #[{ on := 4, ground := Ground.data }, { on := 4, ground := Ground.chain }, { on := 0, ground := Ground.phase }, { on := 1, ground := Ground.phase }, { on := 2, ground := Ground.phase }, { on := 3, ground := Ground.phase }, { on := 4, ground := Ground.phase }], guard := none } : Oper)) rfl (fun K hK => ?_) AllReadyH.nil
            go_simp
            go_wp2_with fail
            refine hK.out _ _ ((blk_cell (blk_fr (blk_fr HP0.out HF4.out HN0.out) HP5.out HB0.out) 0).trans rfl) (fun hHeld => ?_)
            clear hK K
            try simp only [Act.put, List.setIfInBounds_toArray, List.set_cons_zero, List.set_cons_succ]
            refine wpAnyH_done (by kernel_rfl) ?_ _
            go_wp2
            go_roundw
            case rel =>
              have hff : Fr (fun k => k = R) w _ := fr_new HF4.out HP5.out (fun k hk => .inr (by have h1 : k = b4 := hk; have := HB3.out; have := HGE.out; omega))
              have hrr := HH.out.move hff HR5.out.le (blk_fr HR5.out.blk HP5.out (fun h => HN4.out h.symm))
              exact ⟨n', j', pairE o x y, A4, m4, c4, HCE, ⟨by have := HN'.out; have := HJ.out; omega⟩, ⟨hff⟩, ⟨hrr⟩, ⟨held_frS HH4.out HP5.out (fun g hg h => hg.2 h)⟩, HE5, ⟨blk_fr HZ4.out HP5.out (by have := HGE.out; omega)⟩⟩
            case measure =>
              have hff : Fr (fun k => k = R) w _ := fr_new HF4.out HP5.out (fun k hk => .inr (by have h1 : k = b4 := hk; have := HB3.out; have := HGE.out; omega))
              have hrr := HH.out.move hff HR5.out.le (blk_fr HR5.out.blk HP5.out (fun h => HN4.out h.symm))
              rw [toEnd_eq hrr, HTE.out]
              have := HJ.out; have := HLT.out; omega
end Go.Proofs.YtcefmhofidoloaaGreatDoor.Exp

/- The reader of expressions: chain makes a closure; within. -/
set_option linter.unusedVariables false
set_option linter.unusedSimpArgs false
namespace Go.Proofs.YtcefmhofidoloaaGreatDoor.Exp
open Go.RowKit Go.Proofs.YtcefmhofidoloaaGreatDoor.Base Go.Proofs.YtcefmhofidoloaaGreatDoor.App Go.Proofs.YtcefmhofidoloaaGreatDoor.Byt Go.Proofs.YtcefmhofidoloaaGreatDoor.Lex

theorem mk_func (fn : Fn) (first cap : Array Value) (w : World) : (Instr.makeFunc fn first cap).run Tryz.prog w = .ok (.func fn first cap) w := rfl
theorem st_func (a : Addr) (fn : Fn) (first cap : Array Value) (w : World) : (store a (.func fn first cap)).run Tryz.prog w = stored Tryz.prog w a (.func fn first cap) .plain := run_store _ _ _ _ _ rfl
/-- A list of operators that a chain may take. -/
structure SgOK (ops : List Sg) : Prop where
  pos : 0 < ops.length
  kind : ∀ x ∈ ops, 1 ≤ x.1
  op : ∀ x ∈ ops, x.2.2 ≠ 0
  few : ops.length ≤ 10
theorem sgOr_ok : SgOK sgOr := ⟨by decide, by decide, by decide, by decide⟩
theorem sgAnd_ok : SgOK sgAnd := ⟨by decide, by decide, by decide, by decide⟩
theorem sgCat_ok : SgOK sgCat := ⟨by decide, by decide, by decide, by decide⟩
theorem sgSum_ok : SgOK sgSum := ⟨by decide, by decide, by decide, by decide⟩
theorem sgProd_ok : SgOK sgProd := ⟨by decide, by decide, by decide, by decide⟩
theorem isGo_chain : IsGo 187 := isGo_of Tryz.func187 (by kernel_rfl) rfl

/-- A slice of operators that is not in the reader's block. -/
def SgN (R : Nat) (W : World) (ops : List Sg) (v : Value) : Prop := SgA W ops v ∧ ∀ g A m, v = .slice (some ⟨g, 0, none⟩) A m → g ≠ R
/-- A closure that 'chain' has made. -/
def ChainAt (R : Nat) (F : FuncId) (first cap : Array Value) (ops : List Sg) (cap' : Array Value) (w : World) : Prop :=
  ∃ b0 b1 b2 vops, cap' = #[.pointer (some ⟨b0, 0, none⟩), .pointer (some ⟨b1, 0, none⟩), .pointer (some ⟨b2, 0, none⟩)] ∧ w.heap[b0]? = some (.cells #[.func (.func F) first cap] 110 (0, 0)) ∧ w.heap[b1]? = some (.cells #[.pointer (some ⟨R, 0, none⟩)] 107 (0, 0)) ∧
    w.heap[b2]? = some (.cells #[vops] 186 (0, 0)) ∧ b0 ≠ R ∧ b1 ≠ R ∧ b2 ≠ R ∧ SgN R w ops vops
theorem SgN.frS {R : Nat} {S : Nat → Prop} {w w' : World} {ops : List Sg} {v : Value} (h : SgN R w ops v) (hf : Fr S w w') (hS : ∀ g A m, v = .slice (some ⟨g, 0, none⟩) A m → ¬ S g) : SgN R w' ops v := by
  obtain ⟨⟨g, c, rfl, hc⟩, hg⟩ := h
  have hgS := hS g _ _ rfl
  refine ⟨⟨g, c, rfl, fun i hi => ?_⟩, hg⟩
  obtain ⟨a, b, d⟩ := hc i hi
  exact ⟨cell_frS hf hgS a, cell_frS hf hgS b, cell_frS hf hgS d⟩
theorem ChainAt.fr {R : Nat} {F : FuncId} {first cap : Array Value} {ops : List Sg} {cap' : Array Value} {w w' : World} (h : ChainAt R F first cap ops cap' w) (hf : Fr (fun k => k = R) w w') : ChainAt R F first cap ops cap' w' := by
  obtain ⟨b0, b1, b2, vops, rfl, h0, h1, h2, n0, n1, n2, hs⟩ := h
  exact ⟨b0, b1, b2, vops, rfl, blk_fr h0 hf n0, blk_fr h1 hf n1, blk_fr h2 hf n2, n0, n1, n2, hs.frS hf hs.2⟩
theorem ChainAt.below {R : Nat} {F : FuncId} {first cap : Array Value} {ops : List Sg} {cap' : Array Value} {w w' : World} (h : ChainAt R F first cap ops cap' w) (hb : Below w.heap.size w w') : ChainAt R F first cap ops cap' w' := h.fr (Fr.of_below hb)
/-- A store into a variable that held no function yet is no concern of a closure's. -/
theorem ChainAt.store {R : Nat} {F : FuncId} {first cap : Array Value} {ops : List Sg} {cap' : Array Value} {w : World} (h : ChainAt R F first cap ops cap' w) (hp : 0 < ops.length) {b : Nat} (hb : w.heap[b]? = some (.cells #[.nilFunc] 110 (0, 0))) (v : Value) : ChainAt R F first cap ops cap' (w.setCell ⟨b, 0, none⟩ v) := by
  have hf := Fr.setCell (S := fun k => k = b) (Fr.refl _ w) (p := ⟨b, 0, none⟩) rfl v
  obtain ⟨b0, b1, b2, vops, rfl, h0, h1, h2, n0, n1, n2, hs⟩ := h
  have m0 : ¬ b0 = b := by rintro rfl; rw [hb] at h0; simp at h0
  have m1 : ¬ b1 = b := by rintro rfl; rw [hb] at h1; simp at h1
  have m2 : ¬ b2 = b := by
    rintro rfl
    obtain ⟨⟨g, c, rfl, _⟩, _⟩ := hs
    rw [hb] at h2; simp at h2
  refine ⟨b0, b1, b2, vops, rfl, blk_fr h0 hf m0, blk_fr h1 hf m1, blk_fr h2 hf m2, n0, n1, n2, hs.frS hf ?_⟩
  intro g A m e
  rintro rfl
  obtain ⟨⟨g', c, rfl, hc⟩, _⟩ := hs
  injection e with e1
  injection e1 with e1
  injection e1 with e1
  subst e1
  have := (hc 0 hp).1
  rw [blk_cell hb] at this
  simp at this

set_option maxRecDepth 100000 in
set_option maxHeartbeats 3200000 in
theorem chain_calls (F : FuncId) (first cap : Array Value) (R : Nat) (ops : List Sg) (vops : Value) (w : World) {A0 : Option Addr} {m0 c0 i0 d0 : Nat} (hRd : w.heap[R]? = some (rdO A0 m0 c0 i0 d0)) (ho : 0 < ops.length) (hv : SgA w ops vops) :
    Calls Tryz.prog 132 #[.pointer (some ⟨R, 0, none⟩), vops, .func (.func F) first cap] w fun e w' => (∃ cap', e = .returned (.func (.func 187) #[] cap') ∧ ChainAt R F first cap ops cap' w') ∧ Below w.heap.size w w' := by
  have HV := Asd.mk hv
  have hR := blk_lt hRd
  have HRD := Asd.mk hRd
  have HO := Asd.mk ho
  clear hRd ho
  obtain ⟨g, cc, rfl, _⟩ := hv
  have hmf := mk_func
  have hst := st_func
  go_enter Tryz.func132, Tryz.ntmps132
  go_wp2
  go_ret
  have hb := below_alloc (below_alloc (below_alloc (Below.refl _ w) (.cells #[.pointer (some ⟨R, 0, none⟩)] 107)) (.cells #[.slice (some ⟨g, 0, none⟩) ops.length cc] 186)) (.cells #[.func (.func F) first cap] 110)
  refine ⟨⟨#[.pointer (some ⟨w.heap.size + 1 + 1, 0, none⟩), .pointer (some ⟨w.heap.size, 0, none⟩), .pointer (some ⟨w.heap.size + 1, 0, none⟩)], rfl, ?_⟩, hb⟩
  have p0 := nb2 w (.cells #[.pointer (some ⟨R, 0, none⟩)] 107) (.cells #[.slice (some ⟨g, 0, none⟩) ops.length cc] 186) (.cells #[.func (.func F) first cap] 110)
  have p1 := blk_alloc (blk_alloc (blk_new w (.cells #[.pointer (some ⟨R, 0, none⟩)] 107)) (.cells #[.slice (some ⟨g, 0, none⟩) ops.length cc] 186)) (.cells #[.func (.func F) first cap] 110)
  have p2 := blk_alloc (nb1 w (.cells #[.pointer (some ⟨R, 0, none⟩)] 107) (.cells #[.slice (some ⟨g, 0, none⟩) ops.length cc] 186)) (.cells #[.func (.func F) first cap] 110)
  refine ⟨_, _, _, _, rfl, p0, p1, p2, by omega, by omega, by omega, HV.out.below hb, ?_⟩
  intro g' A m e
  rintro rfl
  obtain ⟨g2, c2, he, hc⟩ := HV.out
  rw [e] at he
  injection he with he1
  injection he1 with he1
  injection he1 with he1
  subst he1
  have := (hc 0 HO.out).1
  rw [blk_cell HRD.out] at this
  simp at this
/-- What such a closure reads. -/
theorem ChainAt.op {R : Nat} {F : FuncId} {first cap : Array Value} {ops : List Sg} {cap' : Array Value} {w : World} (h : ChainAt R F first cap ops cap' w) (ho : SgOK ops) (hgo : IsGo F) {A : Option Addr} {m c : Nat} {l : Toks} {f : Nat → Res Ex} {d : Nat} (hnear : Near l) (hf : Ahd f) (hop : OpOK F (first ++ cap) R A m c l f d w) : OpOK 187 cap' R A m c l (chainP ops f l) d w := by
  intro w' hfw i hrd
  have h' := h.fr hfw
  obtain ⟨b0, b1, b2, vops, rfl, h0, h1, h2, n0, n1, n2, hs⟩ := h'
  exact chain1_calls F first cap b0 b1 b2 R A m c l f i d ops vops w' hnear hf ho.pos ho.kind ho.op ho.few h0 h1 h2 n0 n1 n2 hs.1 hgo (hop.fr hfw) hrd
end Go.Proofs.YtcefmhofidoloaaGreatDoor.Exp
