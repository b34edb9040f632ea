/- Tokens: the walk. -/
import Derived.Test.YtcefmhofidoloaaGreatDoorLx11
import Derived.Test.YtcefmhofidoloaaGreatDoorLx12
import Derived.Test.YtcefmhofidoloaaGreatDoorRlit
import Derived.WalkMore
set_option linter.unusedVariables false
set_option linter.unusedSimpArgs false
namespace Go.Proofs.YtcefmhofidoloaaGreatDoor.Lex
open Go.RowKit Go.Proofs.YtcefmhofidoloaaGreatDoor.Base Go.Proofs.YtcefmhofidoloaaGreatDoor.App Go.Proofs.YtcefmhofidoloaaGreatDoor.Byt

theorem infoT : (Tryz.prog.info? 52).map (fun i => (i.zero, i.size, i.bytes)) = some (some (.agg #[.int .i64 0, .string ⟨#[]⟩, .int .i64 0, .int .i64 0]), 4, 40) := by kernel_rfl
theorem rowT : RowT Tryz.prog 40 52 4 40 := ⟨Tryz.underlying40, by obtain ⟨i, h1, h2, h3, h4⟩ := info_parts infoT; exact ⟨i, _, h1, h2, h3, h4, rfl⟩, by decide⟩
def tcells (x : Tk × Nat) : List Value := [.int .i64 (x.1.kind : Int), .string ⟨x.1.text.toArray⟩, .int .i64 (x.2 : Nat), .int .i64 x.1.num]
def tkCells (l : List (Tk × Nat)) : List Value := l.flatMap tcells
theorem tkCells_snoc (l : List (Tk × Nat)) (x : Tk × Nat) : tkCells (l ++ [x]) = tkCells l ++ tcells x := by simp [tkCells]
/-- An error with a place. -/
def FaultE (w : World) (e : Ending) (w' : World) (k : Nat) (n : Int) : Prop :=
  ∃ N, e = .returned (.tuple #[.slice none 0 0, .iface 93 (.pointer (some ⟨N, 0, none⟩))]) ∧ w.heap.size ≤ N ∧ w'.heap[N]? = some (.cells #[.int .i64 (k : Int), .iface 33 (.int .i64 n)] 95 (0, 0))
def LexEnd (l : List UInt8) (w : World) (e : Ending) (w' : World) : Prop :=
  Below w.heap.size w w' ∧ if 16384 < l.length then FaultE w e w' 0 8 else match lexT l with
  | .ok ts => ∃ A m c, e = .returned (.tuple #[.slice A m c, .nilIface]) ∧ m = ts.length ∧ w'.ownsRow w.heap.size 52 4 (.slice A m c) m (tkCells ts)
  | .error k => FaultE w e w' k 20
theorem lex_ok {l : List UInt8} {w w' : World} {e : Ending} {ts : List (Tk × Nat)} {A : Option Addr} {m c : Nat} (h : ¬ 16384 < l.length) (hl : lexT l = .ok ts) (hb : Below w.heap.size w w') (he : e = .returned (.tuple #[.slice A m c, .nilIface])) (hm : m = ts.length) (ho : w'.ownsRow w.heap.size 52 4 (.slice A m c) m (tkCells ts)) : LexEnd l w e w' :=
  ⟨hb, by rw [if_neg h, hl]; exact ⟨A, m, c, he, hm, ho⟩⟩
theorem lex_bad {l : List UInt8} {w w' : World} {e : Ending} {k : Nat} (h : ¬ 16384 < l.length) (hl : lexT l = .error k) (hb : Below w.heap.size w w') (he : FaultE w e w' k 20) : LexEnd l w e w' :=
  ⟨hb, by rw [if_neg h, hl]; exact he⟩
theorem lex_long {l : List UInt8} {w w' : World} {e : Ending} (h : 16384 < l.length) (hb : Below w.heap.size w w') (he : FaultE w e w' 0 8) : LexEnd l w e w' :=
  ⟨hb, by rw [if_pos h]; exact he⟩

set_option maxRecDepth 100000 in
set_option maxHeartbeats 1600000 in
theorem tokens_long (s : ByteArray) (w : World) (hs : 16384 < s.size) :
    Calls Tryz.prog 14 #[.string s] w fun e w' => LexEnd s.data.toList w e w' := by
  have HL := Asd.mk (show 16384 < s.data.toList.length from hs)
  have HB := Asd.mk (below_alloc (Below.refl w.heap.size w) (.cells #[.int .i64 0, .iface 33 (.int .i64 8)] 95))
  have HN := Asd.mk (blk_new w (.cells #[.int .i64 0, .iface 33 (.int .i64 8)] 95))
  go_enter Tryz.func14, Tryz.ntmps14
  go_wp2
  go_step3
  go_wp2
  (try rw [Exit.noGoto_ret])
  refine bodyPost_ret (results_tmp2 rfl _ _ _) rfl ?_
  exact lex_long HL.out HB.out ⟨_, rfl, Nat.le_refl _, HN.out⟩

set_option maxRecDepth 100000 in
set_option maxHeartbeats 6400000 in
theorem tokens_short (s : ByteArray) (w : World) (hs : ¬ 16384 < s.size) (hw : LexW w) :
    Calls Tryz.prog 14 #[.string s] w fun e w' => LexEnd s.data.toList w e w' := by
  have HW := Asd.mk hw
  clear hw
  have HNL := Asd.mk (show ¬ 16384 < s.data.toList.length from hs)
  have HLN : Asd (s.data.toList.length = s.size) := Asd.mk rfl
  go_enter Tryz.func14, Tryz.ntmps14
  go_wp2
  go_step3
  go_wp2
  go_step3
  go_wp2
  go_loopw [4, 5] (fun v4 v5 wr => ∃ (k : Nat) (done : List (Tk × Nat)) (A : Option Addr) (m c : Nat), k ≤ s.size ∧ v4 = .slice A m c ∧ v5 = .int .i64 (k : Int) ∧ Asd (m = done.length) ∧ Asd (done.length ≤ k) ∧ Asd (LexSt s.data.toList done k) ∧ Asd (wr.ownsRow w.heap.size 52 4 (.slice A m c) m (tkCells done)) ∧ Asd (Below w.heap.size w wr)) (fun _ v5 _ => s.size - (intOf v5).toNat)
  case atStart => exact ⟨0, [], none, 0, 0, by omega, rfl, rfl, ⟨rfl⟩, ⟨Nat.le_refl _⟩, ⟨LexSt.start _⟩, ⟨World.ownsRow_nil _ _ _ _⟩, ⟨Below.refl _ _⟩⟩
  case round =>
    obtain ⟨k, done, A, m, c, hk, rfl, rfl, HM, HDK, HS, HO, HB⟩ := hrel
    by_cases hlt : k < s.size
    · have HD := Asd.mk (drop_cons s k hlt)
      have hc8 := s[k].toNat_lt
      have HXL : Asd ((s.extract k s.size).data.toList = s.data.toList.drop k) := Asd.mk (by
        rw [ext_list, List.take_of_length_le (Nat.le_of_eq (show s.data.toList.length = s.size from rfl))])
      have HX1 : Asd (1 ≤ (s.extract k s.size).size) := Asd.mk (by rw [ext_size]; omega)
      have HXS : Asd ((s.extract k s.size).size ≤ 1048576) := Asd.mk (by rw [ext_size]; omega)
      have HWR := Asd.mk (HW.out.below HB.out)
      by_cases hb32 : s[k].toNat = 32
      · have HS2 := Asd.mk (HS.out.blank HD.out (by unfold isBl; rw [show s[k] = 32 from UInt8.toNat_inj.mp hb32]; decide))
        clear HWR HX1 HXS HXL
        go_wp2
        go_roundw
        case rel => exact ⟨k + 1, done, A, m, c, by omega, rfl, by go_num, HM, ⟨by have := HDK.out; omega⟩, HS2, HO, HB⟩
        case measure => simp [intOf]; omega
      · by_cases hb9 : s[k].toNat = 9
        · have HS2 := Asd.mk (HS.out.blank HD.out (by unfold isBl; rw [show s[k] = 9 from UInt8.toNat_inj.mp hb9]; decide))
          clear HWR HX1 HXS HXL
          go_wp2
          go_roundw
          case rel => exact ⟨k + 1, done, A, m, c, by omega, rfl, by go_num, HM, ⟨by have := HDK.out; omega⟩, HS2, HO, HB⟩
          case measure => simp [intOf]; omega
        · by_cases hb10 : s[k].toNat = 10
          · have HS2 := Asd.mk (HS.out.blank HD.out (by unfold isBl; rw [show s[k] = 10 from UInt8.toNat_inj.mp hb10]; decide))
            clear HWR HX1 HXS HXL
            go_wp2
            go_roundw
            case rel => exact ⟨k + 1, done, A, m, c, by omega, rfl, by go_num, HM, ⟨by have := HDK.out; omega⟩, HS2, HO, HB⟩
            case measure => simp [intOf]; omega
          · by_cases hb13 : s[k].toNat = 13
            · have HS2 := Asd.mk (HS.out.blank HD.out (by unfold isBl; rw [show s[k] = 13 from UInt8.toNat_inj.mp hb13]; decide))
              clear HWR HX1 HXS HXL
              go_wp2
              go_roundw
              case rel => exact ⟨k + 1, done, A, m, c, by omega, rfl, by go_num, HM, ⟨by have := HDK.out; omega⟩, HS2, HO, HB⟩
              case measure => simp [intOf]; omega
            · by_cases hb45 : s[k].toNat = 45
              · have h45 : s[k] = 45 := UInt8.toNat_inj.mp hb45
                by_cases hp : (s.data.toList.drop (k + 1)).head? = some 45
                · have HP : Asd (Lib.hasPrefix (s.data.toList.drop k) [45, 45] = true) := Asd.mk (by
                    rw [HD.out, h45, pre2]
                    cases hh : s.data.toList.drop (k + 1) with
                    | nil => rw [hh] at hp; cases hp
                    | cons a b => rw [hh] at hp; injection hp with hp; exact ⟨b, by rw [hp]⟩)
                  by_cases hm : (10 : UInt8) ∈ s.data.toList.drop k
                  · have HS2 := Asd.mk (HS.out.note HD.out h45 hp hm)
                    have HIX := Asd.mk (index_take _ _ hm)
                    have HJL : Asd (k + ((s.data.toList.drop k).takeWhile (· != 10)).length ≤ s.size ∧ 1 ≤ ((s.data.toList.drop k).takeWhile (· != 10)).length) := Asd.mk (by
                      have h := takeW_le (· != (10 : UInt8)) (s.data.toList.drop k)
                      rw [List.length_drop, HLN.out] at h
                      refine ⟨by omega, ?_⟩
                      rw [HD.out, h45, List.takeWhile_cons]
                      simp)
                    generalize ((s.data.toList.drop k).takeWhile (· != 10)).length = j at HS2 HIX HJL
                    obtain ⟨hj, hj1⟩ := HJL.out
                    clear hm hp h45
                    go_wp2_with fail
                    refine (Tryz.strings_HasPrefix (s.extract k s.size) ⟨#[45, 45]⟩ _).mono ?_
                    rintro e w' ⟨rfl, rfl⟩
                    rw [HXL.out, show (⟨#[45, 45]⟩ : ByteArray).data.toList = [45, 45] from rfl, HP.out]
                    go_wp2_with fail
                    refine (Tryz.strings_IndexByte (s.extract k s.size) 10 _).mono ?_
                    rintro e w' ⟨rfl, rfl⟩
                    rw [HXL.out, show ((10 : Int).toNat.toUInt8) = 10 by decide, HIX.out]
                    have hj0 : (0 : Int) ≤ (j : Int) := by omega
                    go_wp2
                    go_roundw
                    case rel => exact ⟨k + j, done, A, m, c, hj, rfl, by go_num, HM, ⟨by have := HDK.out; omega⟩, HS2, HO, HB⟩
                    case measure => simp [intOf]; omega
                  · have HR := Asd.mk (HS.out.last HD.out h45 hp hm)
                    have HIX := Asd.mk (index_not _ _ hm)
                    clear hm hp h45
                    go_wp2_with fail
                    refine (Tryz.strings_HasPrefix (s.extract k s.size) ⟨#[45, 45]⟩ _).mono ?_
                    rintro e w' ⟨rfl, rfl⟩
                    rw [HXL.out, show (⟨#[45, 45]⟩ : ByteArray).data.toList = [45, 45] from rfl, HP.out]
                    go_wp2_with fail
                    refine (Tryz.strings_IndexByte (s.extract k s.size) 10 _).mono ?_
                    rintro e w' ⟨rfl, rfl⟩
                    rw [HXL.out, show ((10 : Int).toNat.toUInt8) = 10 by decide, HIX.out]
                    go_wp2
                    (try rw [Exit.noGoto_ret])
                    refine bodyPost_ret (results_tmp2 rfl _ _ _) rfl ?_
                    exact lex_ok HNL.out HR.out HB.out rfl HM.out HO.out
                · have HP : Asd (Lib.hasPrefix (s.data.toList.drop k) [45, 45] = false) := Asd.mk (by
                    cases hh : Lib.hasPrefix (s.data.toList.drop k) [45, 45] with
                    | false => rfl
                    | true =>
                      obtain ⟨r, hr⟩ := (pre2 _ _ _).mp hh
                      rw [HD.out] at hr
                      injection hr with _ hr
                      exact absurd (by rw [hr]; rfl) hp)
                  have HNB : Asd (¬ isBl s[k]) := Asd.mk (by intro h; unfold isBl at h; rcases h with h | h | h | h; exact hb32 (by rw [h]; rfl); exact hb9 (by rw [h]; rfl); exact hb10 (by rw [h]; rfl); exact hb13 (by rw [h]; rfl))
                  have HNN : Asd (¬ (s[k] = 45 ∧ (s.data.toList.drop (k + 1)).head? = some 45)) := Asd.mk (by intro h; exact hp h.2)
                  clear hp h45
                  go_wp2_with fail
                  refine (Tryz.strings_HasPrefix (s.extract k s.size) ⟨#[45, 45]⟩ _).mono ?_
                  rintro e w' ⟨rfl, rfl⟩
                  rw [HXL.out, show (⟨#[45, 45]⟩ : ByteArray).data.toList = [45, 45] from rfl, HP.out]
                  go_wp2_with fail
                  refine (token_calls (s.extract k s.size) _ HX1.out HXS.out HWR.out).mono ?_
                  rintro e w1 ⟨hb1, he⟩
                  rw [HXL.out] at he
                  have HB1 : Asd (Below w.heap.size w w1) := Asd.mk (HB.out.trans (hb1.mono HB.out.size))
                  have HO1 := Asd.mk (own_below HO.out hb1)
                  clear hb1
                  cases hx : tokP (s.data.toList.drop k) with
                  | none =>
                    rw [hx] at he
                    obtain ⟨kd, tx, nm, rfl⟩ := he
                    have HR := Asd.mk (HS.out.bad HD.out HNB.out HNN.out hx)
                    clear hx
                    have HB2 := Asd.mk (below_alloc (below_alloc HB1.out (.cells #[.int .i64 kd, .string tx, .int .i64 0, .int .i64 nm] 52)) (.cells #[.int .i64 (k : Int), .iface 33 (.int .i64 20)] 95))
                    have HN2 := Asd.mk (blk_new (w1.alloc (.cells #[.int .i64 kd, .string tx, .int .i64 0, .int .i64 nm] 52)) (.cells #[.int .i64 (k : Int), .iface 33 (.int .i64 20)] 95))
                    have HNW : Asd (w.heap.size ≤ (w1.alloc (.cells #[.int .i64 kd, .string tx, .int .i64 0, .int .i64 nm] 52)).heap.size) := Asd.mk (by have := HB1.out.size; simp; omega)
                    rw [show (w1.alloc (.cells #[.int .i64 kd, .string tx, .int .i64 0, .int .i64 nm] 52)).heap.size = w1.heap.size + 1 by simp] at HN2 HNW
                    go_wp2
                    (try rw [Exit.noGoto_ret])
                    refine bodyPost_ret (results_tmp2 rfl _ _ _) rfl ?_
                    exact lex_bad HNL.out HR.out HB2.out ⟨_, rfl, HNW.out, HN2.out⟩
                  | some x =>
                    rw [hx] at he
                    obtain ⟨t, n⟩ := x
                    obtain rfl := he
                    have HS2 := Asd.mk (HS.out.word HD.out HNB.out HNN.out hx)
                    have hn := tokP_le hx
                    rw [List.length_drop, HLN.out] at hn
                    obtain ⟨hn1, hn2⟩ := hn
                    simp only at hn1 hn2
                    have hn0 : 0 < n := hn1
                    have hnk : k + n ≤ s.size := by omega
                    clear hx
                    have HB2 := Asd.mk (below_alloc HB1.out (.cells #[.int .i64 (t.kind : Int), .string ⟨t.text.toArray⟩, .int .i64 0, .int .i64 t.num] 52))
                    have HB12 := Asd.mk (below_alloc (Below.refl w1.heap.size w1) (.cells #[.int .i64 (t.kind : Int), .string ⟨t.text.toArray⟩, .int .i64 0, .int .i64 t.num] 52))
                    have HN2 := Asd.mk (blk_new w1 (.cells #[.int .i64 (t.kind : Int), .string ⟨t.text.toArray⟩, .int .i64 0, .int .i64 t.num] 52))
                    have HNW : Asd (w.heap.size ≤ w1.heap.size) := Asd.mk HB1.out.size
                    go_upto_region 18 with fail
                    generalize w1.alloc (.cells #[.int .i64 (t.kind : Int), .string ⟨t.text.toArray⟩, .int .i64 0, .int .i64 t.num] 52) = W2 at HB2 HB12 HN2 ⊢
                    have x2 := (blk_cell HN2.out 2).trans rfl
                    have z2 := blk_frozen HN2.out 2
                    go_upto_region 21 with fail
                    have HB13 := Asd.mk (HB12.out.setCell (p := ⟨w1.heap.size, 2, none⟩) (Nat.le_refl _) (.int .i64 (k : Int)))
                    have HB3 := Asd.mk (HB2.out.setCell (p := ⟨w1.heap.size, 2, none⟩) HNW.out (.int .i64 (k : Int)))
                    have HN3 := Asd.mk ((blk_set HN2.out 2 (.int .i64 (k : Int))).trans rfl)
                    have HO3 := Asd.mk (own_below HO1.out HB13.out)
                    generalize W2.setCell ⟨w1.heap.size, 2, none⟩ (.int .i64 (k : Int)) = W3 at HB3 HN3 HO3 ⊢
                    have y0 := (blk_cell HN3.out 0).trans rfl
                    have y1 := (blk_cell HN3.out 1).trans rfl
                    have y2 := (blk_cell HN3.out 2).trans rfl
                    have y3 := (blk_cell HN3.out 3).trans rfl
                    have HO4 := Asd.mk (HO3.out.alloc (.cells #[.int .i64 (t.kind : Int), .string ⟨t.text.toArray⟩, .int .i64 (k : Int), .int .i64 t.num] 52))
                    have HF := Asd.mk (Feeds.of_block (size := 4) (m := 1) (c := 1) (blk_new W3 (.cells #[.int .i64 (t.kind : Int), .string ⟨t.text.toArray⟩, .int .i64 (k : Int), .int .i64 t.num] 52)) rfl (by simp [Value.oneCell']))
                    have hmm : m ≤ 16384 := by have := HM.out; have := HDK.out; omega
                    have HWS : Asd (w.heap.size ≤ (W3.alloc (.cells #[.int .i64 (t.kind : Int), .string ⟨t.text.toArray⟩, .int .i64 (k : Int), .int .i64 t.num] 52)).heap.size) := Asd.mk (by have := HB3.out.size; simp; omega)
                    clear HB13 HB12 HB2 HN2
                    go_wp2_with (at_builtin; refine wpList_src rfl (.tmp 61) (.tmp 63) _ rfl rowT _ rfl HO4.out (some ⟨W3.heap.size, 0, none⟩) 1 1 rfl HF.out (by unfold maxLen; omega) (by omega) HWS.out ?_)
                    intro A9 c9 w9 ho9 hg9
                    have HB9 : Asd (Below w.heap.size w w9) := Asd.mk (below_own (below_alloc HB3.out _) HO4.out hg9 (Nat.le_refl _))
                    have HO9 : Asd (w9.ownsRow w.heap.size 52 4 (.slice A9 (m + 1) c9) (m + 1) (tkCells (done ++ [(t, k)]))) := Asd.mk (by rw [tkCells_snoc]; exact ho9)
                    clear ho9 hg9
                    go_wp2
                    go_roundw
                    case rel => exact ⟨k + n, done ++ [(t, k)], A9, m + 1, c9, hnk, rfl, by go_num, ⟨by have := HM.out; simp; omega⟩, ⟨by have := HDK.out; simp; omega⟩, HS2, HO9, HB9⟩
                    case measure => simp [intOf]; omega
              · have HNB : Asd (¬ isBl s[k]) := Asd.mk (by intro h; unfold isBl at h; rcases h with h | h | h | h; exact hb32 (by rw [h]; rfl); exact hb9 (by rw [h]; rfl); exact hb10 (by rw [h]; rfl); exact hb13 (by rw [h]; rfl))
                have HNN : Asd (¬ (s[k] = 45 ∧ (s.data.toList.drop (k + 1)).head? = some 45)) := Asd.mk (by intro h; exact hb45 (by rw [h.1]; rfl))
                go_wp2_with fail
                refine (token_calls (s.extract k s.size) _ HX1.out HXS.out HWR.out).mono ?_
                rintro e w1 ⟨hb1, he⟩
                rw [HXL.out] at he
                have HB1 : Asd (Below w.heap.size w w1) := Asd.mk (HB.out.trans (hb1.mono HB.out.size))
                have HO1 := Asd.mk (own_below HO.out hb1)
                clear hb1
                cases hx : tokP (s.data.toList.drop k) with
                | none =>
                  rw [hx] at he
                  obtain ⟨kd, tx, nm, rfl⟩ := he
                  have HR := Asd.mk (HS.out.bad HD.out HNB.out HNN.out hx)
                  clear hx
                  have HB2 := Asd.mk (below_alloc (below_alloc HB1.out (.cells #[.int .i64 kd, .string tx, .int .i64 0, .int .i64 nm] 52)) (.cells #[.int .i64 (k : Int), .iface 33 (.int .i64 20)] 95))
                  have HN2 := Asd.mk (blk_new (w1.alloc (.cells #[.int .i64 kd, .string tx, .int .i64 0, .int .i64 nm] 52)) (.cells #[.int .i64 (k : Int), .iface 33 (.int .i64 20)] 95))
                  have HNW : Asd (w.heap.size ≤ (w1.alloc (.cells #[.int .i64 kd, .string tx, .int .i64 0, .int .i64 nm] 52)).heap.size) := Asd.mk (by have := HB1.out.size; simp; omega)
                  rw [show (w1.alloc (.cells #[.int .i64 kd, .string tx, .int .i64 0, .int .i64 nm] 52)).heap.size = w1.heap.size + 1 by simp] at HN2 HNW
                  go_wp2
                  (try rw [Exit.noGoto_ret])
                  refine bodyPost_ret (results_tmp2 rfl _ _ _) rfl ?_
                  exact lex_bad HNL.out HR.out HB2.out ⟨_, rfl, HNW.out, HN2.out⟩
                | some x =>
                  rw [hx] at he
                  obtain ⟨t, n⟩ := x
                  obtain rfl := he
                  have HS2 := Asd.mk (HS.out.word HD.out HNB.out HNN.out hx)
                  have hn := tokP_le hx
                  rw [List.length_drop, HLN.out] at hn
                  obtain ⟨hn1, hn2⟩ := hn
                  simp only at hn1 hn2
                  have hn0 : 0 < n := hn1
                  have hnk : k + n ≤ s.size := by omega
                  clear hx
                  have HB2 := Asd.mk (below_alloc HB1.out (.cells #[.int .i64 (t.kind : Int), .string ⟨t.text.toArray⟩, .int .i64 0, .int .i64 t.num] 52))
                  have HB12 := Asd.mk (below_alloc (Below.refl w1.heap.size w1) (.cells #[.int .i64 (t.kind : Int), .string ⟨t.text.toArray⟩, .int .i64 0, .int .i64 t.num] 52))
                  have HN2 := Asd.mk (blk_new w1 (.cells #[.int .i64 (t.kind : Int), .string ⟨t.text.toArray⟩, .int .i64 0, .int .i64 t.num] 52))
                  have HNW : Asd (w.heap.size ≤ w1.heap.size) := Asd.mk HB1.out.size
                  go_upto_region 18 with fail
                  generalize w1.alloc (.cells #[.int .i64 (t.kind : Int), .string ⟨t.text.toArray⟩, .int .i64 0, .int .i64 t.num] 52) = W2 at HB2 HB12 HN2 ⊢
                  have x2 := (blk_cell HN2.out 2).trans rfl
                  have z2 := blk_frozen HN2.out 2
                  go_upto_region 21 with fail
                  have HB13 := Asd.mk (HB12.out.setCell (p := ⟨w1.heap.size, 2, none⟩) (Nat.le_refl _) (.int .i64 (k : Int)))
                  have HB3 := Asd.mk (HB2.out.setCell (p := ⟨w1.heap.size, 2, none⟩) HNW.out (.int .i64 (k : Int)))
                  have HN3 := Asd.mk ((blk_set HN2.out 2 (.int .i64 (k : Int))).trans rfl)
                  have HO3 := Asd.mk (own_below HO1.out HB13.out)
                  generalize W2.setCell ⟨w1.heap.size, 2, none⟩ (.int .i64 (k : Int)) = W3 at HB3 HN3 HO3 ⊢
                  have y0 := (blk_cell HN3.out 0).trans rfl
                  have y1 := (blk_cell HN3.out 1).trans rfl
                  have y2 := (blk_cell HN3.out 2).trans rfl
                  have y3 := (blk_cell HN3.out 3).trans rfl
                  have HO4 := Asd.mk (HO3.out.alloc (.cells #[.int .i64 (t.kind : Int), .string ⟨t.text.toArray⟩, .int .i64 (k : Int), .int .i64 t.num] 52))
                  have HF := Asd.mk (Feeds.of_block (size := 4) (m := 1) (c := 1) (blk_new W3 (.cells #[.int .i64 (t.kind : Int), .string ⟨t.text.toArray⟩, .int .i64 (k : Int), .int .i64 t.num] 52)) rfl (by simp [Value.oneCell']))
                  have hmm : m ≤ 16384 := by have := HM.out; have := HDK.out; omega
                  have HWS : Asd (w.heap.size ≤ (W3.alloc (.cells #[.int .i64 (t.kind : Int), .string ⟨t.text.toArray⟩, .int .i64 (k : Int), .int .i64 t.num] 52)).heap.size) := Asd.mk (by have := HB3.out.size; simp; omega)
                  clear HB13 HB12 HB2 HN2
                  go_wp2_with (at_builtin; refine wpList_src rfl (.tmp 61) (.tmp 63) _ rfl rowT _ rfl HO4.out (some ⟨W3.heap.size, 0, none⟩) 1 1 rfl HF.out (by unfold maxLen; omega) (by omega) HWS.out ?_)
                  intro A9 c9 w9 ho9 hg9
                  have HB9 : Asd (Below w.heap.size w w9) := Asd.mk (below_own (below_alloc HB3.out _) HO4.out hg9 (Nat.le_refl _))
                  have HO9 : Asd (w9.ownsRow w.heap.size 52 4 (.slice A9 (m + 1) c9) (m + 1) (tkCells (done ++ [(t, k)]))) := Asd.mk (by rw [tkCells_snoc]; exact ho9)
                  clear ho9 hg9
                  go_wp2
                  go_roundw
                  case rel => exact ⟨k + n, done ++ [(t, k)], A9, m + 1, c9, hnk, rfl, by go_num, ⟨by have := HM.out; simp; omega⟩, ⟨by have := HDK.out; simp; omega⟩, HS2, HO9, HB9⟩
                  case measure => simp [intOf]; omega
    · obtain rfl : k = s.size := by omega
      have HR := Asd.mk (HS.out.fin (by rw [List.drop_of_length_le (Nat.le_of_eq HLN.out)]))
      clear hlt
      go_wp2
      (try rw [Exit.noGoto_ret])
      refine bodyPost_ret (results_tmp2 rfl _ _ _) rfl ?_
      exact lex_ok HNL.out HR.out HB.out rfl HM.out HO.out
theorem tokens_calls (s : ByteArray) (w : World) (hw : LexW w) :
    Calls Tryz.prog 14 #[.string s] w fun e w' => LexEnd s.data.toList w e w' := by
  by_cases h : 16384 < s.size
  · exact tokens_long s w h
  · exact tokens_short s w h hw
end Go.Proofs.YtcefmhofidoloaaGreatDoor.Lex
