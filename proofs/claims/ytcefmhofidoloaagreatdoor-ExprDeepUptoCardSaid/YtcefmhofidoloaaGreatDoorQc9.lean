/- Texts put together: Prt1, Fit, Prt2, Prt3, Prt4, Prt5, Prt6, Rd28. -/
import Derived.Test.YtcefmhofidoloaaGreatDoorQc8
import Derived.Lib.ItoaLen
import Derived.Lib.AppendIntMem
/- The operands of a call as expr.Print writes them. -/
set_option linter.unusedVariables false
set_option linter.unusedSimpArgs false
namespace Go.Proofs.YtcefmhofidoloaaGreatDoor.Exp
open Go.RowKit Go.Proofs.YtcefmhofidoloaaGreatDoor.Base Go.Proofs.YtcefmhofidoloaaGreatDoor.App Go.Proofs.YtcefmhofidoloaaGreatDoor.Byt Go.Proofs.YtcefmhofidoloaaGreatDoor.Lex

theorem infoStr : (Tryz.prog.info? 9).map (fun i => (i.zero, i.size, i.bytes)) = some (some (.string ⟨#[]⟩), 1, 16) := by kernel_rfl
def strV (t : List UInt8) : Value := .string ⟨t.toArray⟩
theorem own_join {w : World} {B : Nat} {v : Value} {k : Nat} (ts : List (List UInt8)) (h : w.ownsRow B 9 1 v k (ts.map strV)) (hn : k ≤ 1048576) (hk : ts.length = k) (hlen : (Lib.join ts [44, 32]).length ≤ 140737488355328) :
    Calls Tryz.prog 34 #[v, .string ⟨#[44, 32]⟩] w fun e w' => e = .returned (strV (Lib.join ts [44, 32])) ∧ Below w.heap.size w w' := by
  rcases h with ⟨hl, ⟨rfl, rfl⟩ | ⟨g, cap, cur, rfl, hbg, hh, hcap, _, hsz, ht⟩⟩
  · have : ts = [] := List.length_eq_zero_iff.mp hk
    subst this
    exact (Tryz.strings_Join_none none 0 ⟨#[44, 32]⟩ w).mono fun e w' ⟨he, hw⟩ => ⟨he, hw ▸ Below.refl _ _⟩
  · have hl2 : (ts.map fun t => (⟨t.toArray⟩ : ByteArray)).length = k := by simpa using hk
    have e1 : (ts.map fun t => (⟨t.toArray⟩ : ByteArray)).map (·.data.toList) = ts := by
      rw [List.map_map]
      exact (List.map_congr_left fun _ _ => rfl).trans (List.map_id ts)
    have hj := Tryz.strings_Join g 0 cap (ts.map fun t => (⟨t.toArray⟩ : ByteArray)) ⟨#[44, 32]⟩ w (fun j x hx => by
      rw [Nat.zero_add, blk_cell hh]
      have hj : j < ts.length := by have := (List.getElem?_eq_some_iff.mp hx).1; simpa using this
      have h1 : (cur.toList.take (k * 1))[j]? = (ts.map strV)[j]? := by rw [ht]
      rw [List.getElem?_take, if_pos (by omega), Array.getElem?_toList] at h1
      rw [h1]
      rw [List.getElem?_map] at hx ⊢
      obtain ⟨y, hy, rfl⟩ := Option.map_eq_some_iff.mp hx
      rw [hy]
      rfl) (blk_lt hh) (by rw [hl2]; omega) (by rw [hl2]; exact hcap) (by rw [e1]; exact hlen)
    rw [hl2, e1] at hj
    exact hj
theorem take_map_snoc {es : List Ex} (lit : Vl → List UInt8) (k : Nat) (hk : k < es.length) : (((prL lit es).take (k + 1)).map (·.2)).map strV = (((prL lit es).take k).map (·.2)).map strV ++ [strV (prE lit es[k])] := by
  rw [List.take_succ_eq_append_getElem (by rw [prL_len]; exact hk), prL_at lit es k hk]
  simp
set_option maxRecDepth 100000 in
set_option maxHeartbeats 6400000 in
theorem all_calls (lit : Vl → List UInt8) (es : List Ex) (P : Nat → Prop) (E : Nat) (A : Option Addr) (c : Nat) (w : World) (hE : w.cell? ⟨E, 9, none⟩ = some (.slice A es.length c)) (hh : Held P w es (.slice A es.length c))
    (hp : ∀ i (h : i < es.length), PrintOK lit es[i]) (hn : es.length ≤ 1048576) (hsz : (Lib.join ((prL lit es).map (·.2)) [44, 32]).length ≤ 1099511627776) (hsh : PrW w) :
    Calls Tryz.prog 61 #[.pointer (some ⟨E, 0, none⟩)] w (PrintR (allT (prL lit es)) w) := by
  obtain ⟨i0, hi, hz0, hz1, hz2⟩ := info_parts infoStr
  have HH := Asd.mk hh
  have HP := Asd.mk hp
  have HSH := Asd.mk hsh
  have HEL := World.block_lt_of_cell? w _ hE
  have HJ := Asd.mk hsz
  generalize hm : es.length = m at hE hh hn ⊢
  have HM := Asd.mk hm
  have HTS : Asd (((prL lit es).map (·.2)).length = m) := Asd.mk (by rw [List.length_map, prL_len, hm])
  have hE0 := Asd.mk hE
  clear hh hp hsh hm hsz
  rw [HM.out] at HH
  go_enter Tryz.func61, Tryz.ntmps61
  go_wp2
  go_loopw [2, 8] (fun v i wr => ∃ (k : Nat), k ≤ m ∧ i = .int .i64 (k : Int) ∧ Asd (wr.ownsRow w.heap.size 9 1 v k ((((prL lit es).take k).map (·.2)).map strV)) ∧ Asd (Below w.heap.size w wr)) (fun _ i _ => m - (intOf i).toNat)
  case atStart => exact ⟨0, by omega, rfl, ⟨World.ownsRow_nil _ _ _ _⟩, ⟨Below.refl _ _⟩⟩
  case round =>
    obtain ⟨k, hk, rfl, HO, HB⟩ := hrel
    have hE2 := (HB.out.cell HEL).trans hE0.out
    by_cases hlt : k < m
    · have hkx : k < es.length := by rw [HM.out]; exact hlt
      obtain ⟨g, o, A1, n1, c1, he1, hr1, hh1⟩ := held_at (held_below HH.out HB.out) k hkx
      cases he1
      have HPK := Asd.mk (HP.out k hkx)
      have HSN := Asd.mk (take_map_snoc lit k hkx)
      generalize es[k] = x at HPK HSN hr1 hh1
      have HH1 := Asd.mk hh1
      have hgl := World.block_lt_of_cell? wr _ (hr1 0 (by omega))
      have hk0 : (0 : Int) ≤ (k : Int) := by omega
      have x0 : wr.cell? ⟨g, o + k * 10, none⟩ = some (.int .i64 x.kind) := hr1 0 (by omega)
      have x1 : wr.cell? ⟨g, o + k * 10 + 1, none⟩ = some (.int .i64 x.op) := hr1 1 (by omega)
      have x2 : wr.cell? ⟨g, o + k * 10 + 2, none⟩ = some (.int .i64 x.v.kind) := hr1 2 (by omega)
      have x3 : wr.cell? ⟨g, o + k * 10 + 3, none⟩ = some (.int .i64 x.v.int) := hr1 3 (by omega)
      have x4 : wr.cell? ⟨g, o + k * 10 + 4, none⟩ = some (.string ⟨x.v.text.toArray⟩) := hr1 4 (by omega)
      have x5 : wr.cell? ⟨g, o + k * 10 + 5, none⟩ = some (.string ⟨x.table.toArray⟩) := hr1 5 (by omega)
      have x6 : wr.cell? ⟨g, o + k * 10 + 6, none⟩ = some (.string ⟨x.name.toArray⟩) := hr1 6 (by omega)
      have x7 : wr.cell? ⟨g, o + k * 10 + 7, none⟩ = some (.int .i64 x.col) := hr1 7 (by omega)
      have x8 : wr.cell? ⟨g, o + k * 10 + 8, none⟩ = some (.int .i64 x.ty) := hr1 8 (by omega)
      have x9 : wr.cell? ⟨g, o + k * 10 + 9, none⟩ = some (.slice A1 n1 c1) := hr1 9 (by omega)
      clear hr1 hh1 hkx
      have HA1 := Asd.mk (blk_new wr (.cells #[.int .i64 x.kind, .int .i64 x.op, .int .i64 x.v.kind, .int .i64 x.v.int, .string ⟨x.v.text.toArray⟩, .string ⟨x.table.toArray⟩, .string ⟨x.name.toArray⟩, .int .i64 x.col, .int .i64 x.ty, .slice A1 n1 c1] 58 (0, 0)))
      have HB1 : Asd (Below wr.heap.size wr _) := Asd.mk (below_alloc (Below.refl _ wr) (.cells #[.int .i64 x.kind, .int .i64 x.op, .int .i64 x.v.kind, .int .i64 x.v.int, .string ⟨x.v.text.toArray⟩, .string ⟨x.table.toArray⟩, .string ⟨x.name.toArray⟩, .int .i64 x.col, .int .i64 x.ty, .slice A1 n1 c1] 58 (0, 0)))
      go_upto_region 5 with fail
      generalize wr.alloc (.cells #[.int .i64 x.kind, .int .i64 x.op, .int .i64 x.v.kind, .int .i64 x.v.int, .string ⟨x.v.text.toArray⟩, .string ⟨x.table.toArray⟩, .string ⟨x.name.toArray⟩, .int .i64 x.col, .int .i64 x.ty, .slice A1 n1 c1] 58 (0, 0)) = w1 at HA1 HB1 ⊢
      clear x0 x1 x2 x3 x4 x5 x6 x7 x8 x9 hE2
      have u0 := (blk_cell HA1.out 0).trans rfl
      have u1 := (blk_cell HA1.out 1).trans rfl
      have u2 := (blk_cell HA1.out 2).trans rfl
      have u3 := (blk_cell HA1.out 3).trans rfl
      have u4 := (blk_cell HA1.out 4).trans rfl
      have u5 := (blk_cell HA1.out 5).trans rfl
      have u6 := (blk_cell HA1.out 6).trans rfl
      have u7 := (blk_cell HA1.out 7).trans rfl
      have u8 := (blk_cell HA1.out 8).trans rfl
      have u9 := (blk_cell HA1.out 9).trans rfl
      go_wp2_with fail
      refine (HPK.out P (.slice A1 n1 c1) w1 (prw_below HSH.out (HB.out.trans (HB1.out.mono HB.out.size))) (held_below HH1.out HB1.out)).mono ?_
      rintro e w3 ⟨rfl, hb3⟩
      have HB3 : Asd (Below wr.heap.size wr w3) := Asd.mk (HB1.out.trans (hb3.mono HB1.out.size))
      have HO3 := Asd.mk (own_below HO.out HB3.out)
      have HBT : Asd (Below w.heap.size w w3) := Asd.mk (HB.out.trans (HB3.out.mono HB.out.size))
      clear hb3 u0 u1 u2 u3 u4 u5 u6 u7 u8 u9
      generalize prE lit x = t at HSN ⊢
      have HOWN := Asd.mk (HO3.out.alloc (.cells #[.string ⟨t.toArray⟩] 9))
      go_wp2_with (at_builtin; refine wpList_append_own _ rfl (.tmp 12) (.tmp 15) 27 rfl w.heap.size 9 i0 (.string ⟨#[]⟩) 1 16 Tryz.underlying27 hi hz0 hz1 hz2 rfl (by decide) _ _ _ rfl HOWN.out ⟨w3.heap.size, 0, none⟩ 1 1 [.string ⟨t.toArray⟩] rfl rfl ?c0 ?c00 ?c1 ?c2 ?c3 ?_)
      case c0 =>
        intro j u hj
        match j, hj with
        | 0, hj => simp at hj; subst hj; simp [Addr.add]
      case c00 => intro u hu; simp at hu; subst hu; rfl
      case c1 => unfold maxLen; omega
      case c2 => omega
      case c3 => have := HBT.out.size; simp; omega
      · intro v' w4 hown' hgr _
        have HO4 : Asd (w4.ownsRow w.heap.size 9 1 v' (k + 1) ((((prL lit es).take (k + 1)).map (·.2)).map strV)) := Asd.mk (by
          rw [HSN.out]
          simp only [List.map_map, List.map_take] at hown' ⊢
          exact hown')
        have HB4 : Asd (Below w.heap.size w w4) := Asd.mk (below_own (below_alloc HBT.out _) HOWN.out hgr (Nat.le_refl _))
        clear hown' hgr
        go_wp2
        go_roundw
        case rel => exact ⟨k + 1, by omega, by go_num, HO4, HB4⟩
        case measure => simp [intOf]; omega
    · obtain rfl : k = m := by omega
      have hge : ¬ (k : Int) < (k : Int) := by omega
      have HO5 : Asd (wr.ownsRow w.heap.size 9 1 _ k (((prL lit es).map (·.2)).map strV)) := Asd.mk (by
        have := HO.out
        rwa [List.take_of_length_le (by have := HTS.out; rw [List.length_map] at this; omega)] at this)
      have hjl := HJ.out
      have HAT : Asd (allT (prL lit es) = [40] ++ Lib.join ((prL lit es).map (·.2)) [44, 32] ++ [41]) := Asd.mk rfl
      generalize (prL lit es).map (·.2) = ts at HTS HO5 hjl HAT
      clear HO hlt HJ
      have HJC := Asd.mk (own_join ts HO5.out hn HTS.out (by omega))
      clear HO5
      generalize Lib.join ts [44, 32] = tj at hjl HJC HAT
      go_wp2_with fail
      refine HJC.out.mono ?_
      rintro e w5 ⟨rfl, hb5⟩
      have HB5 : Asd (Below w.heap.size w w5) := Asd.mk (HB.out.trans (hb5.mono HB.out.size))
      clear hb5
      unfold strV
      have hs2 : (⟨tj.toArray⟩ : ByteArray).size ≤ 1099511627776 := by show tj.toArray.size ≤ _; simpa using hjl
      go_wp2
      go_ret
      refine ⟨ret_eq ?_, HB5.out⟩
      rw [HAT.out]
      show Value.string _ = _
      congr 1
end Go.Proofs.YtcefmhofidoloaaGreatDoor.Exp

/- What is read fits the grammar's line and the depths that are left; how long it is when it is written. -/
set_option linter.unusedVariables false
set_option linter.unusedSimpArgs false
namespace Go.Proofs.YtcefmhofidoloaaGreatDoor.Exp
open Go.Proofs.YtcefmhofidoloaaGreatDoor.Lex

/-- How a value is written. -/
def litV (v : Vl) : List UInt8 :=
  if v.kind = 0 then [78, 85, 76, 76]
  else if v.kind = 1 then (if v.int = 1 then [84, 82, 85, 69] else [70, 65, 76, 83, 69])
  else if v.kind = 2 then Lib.itoa v.int
  else if v.kind = 3 then litText v.text
  else litBlob v.text
/-- A value of a literal that is read. -/
def GoodV (v : Vl) : Prop := v = vNull ∨ v = ⟨1, 1, []⟩ ∨ v = ⟨1, 0, []⟩ ∨ (∃ n, 0 ≤ n ∧ n ≤ 9223372036854775807 ∧ v = ⟨2, n, []⟩) ∨ (∃ s, s.length ≤ 1048576 ∧ v = ⟨3, 0, s⟩) ∨ (∃ s, s.length ≤ 1048576 ∧ v = ⟨4, 0, s⟩)
/-- A name that is read. -/
def GoodN (nm : List UInt8 → Bool) (s : List UInt8) : Prop := GoodT ⟨1, s, 0⟩ ∧ nm s = true
def lftL (l : Int) : Int := if l = 4 then 5 else l
/-- An expression that stands at a line and is read with so many depths left, brackets only where they must be. -/
inductive Fit (nm : List UInt8 → Bool) : Nat → Int → Ex → Prop
  | lit (k : Nat) (L : Int) (v : Vl) : GoodV v → L ≤ 9 → Fit nm k L (litE v)
  | col0 (k : Nat) (L : Int) (n : List UInt8) : GoodN nm n → L ≤ 9 → Fit nm k L (colE [] n)
  | col (k : Nat) (L : Int) (t n : List UInt8) : GoodN nm t → GoodN nm n → L ≤ 9 → Fit nm k L (colE t n)
  | neg (k : Nat) (L : Int) (a : Ex) : L ≤ 8 → Fit nm k 8 a → Fit nm (k + 1) L (unE 1 a)
  | not (k : Nat) (L : Int) (a : Ex) : L ≤ 3 → Fit nm k 3 a → Fit nm (k + 1) L (unE 2 a)
  | null (k : Nat) (L o : Int) (a : Ex) : L ≤ 4 → (o = 0 ∨ o = 1) → Fit nm k 5 a → Fit nm k L (nullE o a)
  | pair (k : Nat) (L o : Int) (a b : Ex) : L ≤ pairLn o.toNat → 3 ≤ o ∧ o ≤ 16 → Fit nm k (lftL (pairLn o.toNat)) a → Fit nm k (pairLn o.toNat + 1) b → Fit nm k L (pairE o a b)
  | call (k : Nat) (L : Int) (s : List UInt8) (f : Int × Int × Nat) (es : List Ex) : L ≤ 9 → funT s = some f → es.length = f.2.2 → (∀ x ∈ es, Fit nm k 1 x) → Fit nm (k + 1) L (callE f.1 f.2.1 es)
  | star (k : Nat) (L : Int) : L ≤ 9 → Fit nm (k + 1) L (callE 6 1 [])
  | br (k : Nat) (L : Int) (x : Ex) : lnE x < L → L ≤ 9 → Fit nm k 1 x → Fit nm (k + 1) L x

theorem ln_lit (v : Vl) : lnE (litE v) = 9 := rfl
theorem ln_col (t n : List UInt8) : lnE (colE t n) = 9 := rfl
theorem ln_neg (a : Ex) : lnE (unE 1 a) = 8 := rfl
theorem ln_not (a : Ex) : lnE (unE 2 a) = 3 := rfl
theorem ln_null {o : Int} (h : o = 0 ∨ o = 1) (a : Ex) : lnE (nullE o a) = 4 := by rcases h with rfl | rfl <;> rfl
theorem ln_pair (o : Int) (a b : Ex) : lnE (pairE o a b) = pairLn o.toNat := rfl
theorem funT_cases {s : List UInt8} {f : Int × Int × Nat} (h : funT s = some f) :
    (s = [108, 101, 110, 103, 116, 104] ∧ f = (5, 1, 1)) ∨ (s = [97, 98, 115] ∧ f = (5, 2, 1)) ∨ (s = [117, 112, 112, 101, 114] ∧ f = (5, 3, 1)) ∨ (s = [108, 111, 119, 101, 114] ∧ f = (5, 4, 1)) ∨ (s = [115, 117, 98, 115, 116, 114] ∧ f = (5, 5, 3)) ∨ (s = [99, 111, 97, 108, 101, 115, 99, 101] ∧ f = (5, 6, 2)) ∨ (s = [99, 111, 117, 110, 116] ∧ f = (6, 1, 1)) ∨ (s = [115, 117, 109] ∧ f = (6, 2, 1)) ∨ (s = [109, 105, 110] ∧ f = (6, 3, 1)) ∨ (s = [109, 97, 120] ∧ f = (6, 4, 1)) := by
  unfold funT at h
  repeat' split at h
  all_goals first
    | (cases h; done)
    | (injection h with h; subst h; simp_all; done)
theorem ln_callT {k o : Int} {n : Nat} (es : List Ex) (h : es.length = n) : lnE (callE k o es) = lnN k o n := by
  subst h; rfl
theorem ln_call {s : List UInt8} {f : Int × Int × Nat} (h : funT s = some f) {es : List Ex} (he : es.length = f.2.2) : lnE (callE f.1 f.2.1 es) = 9 := by
  rw [ln_callT es he]
  rcases funT_cases h with ⟨_, rfl⟩ | ⟨_, rfl⟩ | ⟨_, rfl⟩ | ⟨_, rfl⟩ | ⟨_, rfl⟩ | ⟨_, rfl⟩ | ⟨_, rfl⟩ | ⟨_, rfl⟩ | ⟨_, rfl⟩ | ⟨_, rfl⟩ <;> decide
theorem ln_star : lnE (callE 6 1 []) = 9 := rfl
theorem pairLn_le {o : Int} (h : 3 ≤ o ∧ o ≤ 16) : 1 ≤ pairLn o.toNat ∧ pairLn o.toNat ≤ 7 ∧ pairLn o.toNat ≠ 3 := by
  have : ∀ j : Fin 17, 3 ≤ j.val → 1 ≤ pairLn j.val ∧ pairLn j.val ≤ 7 ∧ pairLn j.val ≠ 3 := by decide
  exact this ⟨o.toNat, by omega⟩ (by show 3 ≤ o.toNat; omega)
section
variable {nm : List UInt8 → Bool}
theorem fit_ln {k : Nat} {L : Int} {x : Ex} (h : Fit nm k L x) : 1 ≤ lnE x ∧ lnE x ≤ 9 := by
  induction h with
  | lit => rw [ln_lit]; decide
  | col0 => rw [ln_col]; decide
  | col => rw [ln_col]; decide
  | neg => rw [ln_neg]; decide
  | not => rw [ln_not]; decide
  | null k L o a h1 h2 => rw [ln_null h2]; decide
  | pair k L o a b h1 h2 => rw [ln_pair]; have := pairLn_le h2; omega
  | call k L s f es h1 h2 h3 => rw [ln_call h2 h3]; decide
  | star => rw [ln_star]; decide
  | br k L x h1 h2 h3 ih => exact ih
theorem fit_le {k : Nat} {L : Int} {x : Ex} (h : Fit nm k L x) : L ≤ 9 := by
  cases h with
  | lit _ _ _ _ h => exact h
  | col0 _ _ _ _ h => exact h
  | col _ _ _ _ _ _ h => exact h
  | neg _ _ _ h => omega
  | not _ _ _ h => omega
  | null _ _ _ _ h => omega
  | pair k L o a b h1 h2 => have := pairLn_le h2; omega
  | call _ _ _ _ _ h => exact h
  | star _ _ h => exact h
  | br _ _ _ _ h => exact h
theorem fit_mono {k : Nat} {L : Int} {x : Ex} (h : Fit nm k L x) : Fit nm (k + 1) L x := by
  induction h with
  | lit k L v h1 h2 => exact .lit _ _ _ h1 h2
  | col0 k L n h1 h2 => exact .col0 _ _ _ h1 h2
  | col k L t n h0 h1 h2 => exact .col _ _ _ _ h0 h1 h2
  | neg k L a h1 h2 ih => exact .neg _ _ _ h1 ih
  | not k L a h1 h2 ih => exact .not _ _ _ h1 ih
  | null k L o a h1 h2 h3 ih => exact .null _ _ _ _ h1 h2 ih
  | pair k L o a b h1 h2 h3 h4 ih1 ih2 => exact .pair _ _ _ _ _ h1 h2 ih1 ih2
  | call k L s f es h1 h2 h3 h4 ih => exact .call _ _ s f es h1 h2 h3 ih
  | star k L h => exact .star _ _ h
  | br k L x h1 h2 h3 ih => exact .br _ _ _ h1 h2 ih
theorem fit_raise {k : Nat} {M : Int} {x : Ex} (h : Fit nm k M x) : ∀ L, L ≤ lnE x → Fit nm k L x := by
  induction h with
  | lit k L v h1 h2 => intro L' hl; exact .lit _ _ _ h1 (by rw [ln_lit] at hl; exact hl)
  | col0 k L n h1 h2 => intro L' hl; exact .col0 _ _ _ h1 (by rw [ln_col] at hl; exact hl)
  | col k L t n h0 h1 h2 => intro L' hl; exact .col _ _ _ _ h0 h1 (by rw [ln_col] at hl; exact hl)
  | neg k L a h1 h2 ih => intro L' hl; exact .neg _ _ _ (by rw [ln_neg] at hl; exact hl) h2
  | not k L a h1 h2 ih => intro L' hl; exact .not _ _ _ (by rw [ln_not] at hl; exact hl) h2
  | null k L o a h1 h2 h3 ih => intro L' hl; exact .null _ _ _ _ (by rw [ln_null h2] at hl; exact hl) h2 h3
  | pair k L o a b h1 h2 h3 h4 ih1 ih2 => intro L' hl; exact .pair _ _ _ _ _ (by rw [ln_pair] at hl; exact hl) h2 h3 h4
  | call k L s f es h1 h2 h3 h4 ih => intro L' hl; exact .call _ _ s f es (by rw [ln_call h2 h3] at hl; exact hl) h2 h3 h4
  | star k L h => intro L' hl; exact .star _ _ (by rw [ln_star] at hl; exact hl)
  | br k L x h1 h2 h3 ih => intro L' hl; exact fit_mono (ih L' hl)
theorem fit_low {k : Nat} {M L : Int} {x : Ex} (h : Fit nm k M x) (hl : L ≤ M) : Fit nm k L x := by
  cases h with
  | lit _ _ v h1 h2 => exact .lit _ _ _ h1 (by omega)
  | col0 _ _ n h1 h2 => exact .col0 _ _ _ h1 (by omega)
  | col _ _ t n h0 h1 h2 => exact .col _ _ _ _ h0 h1 (by omega)
  | neg k _ a h1 h2 => exact .neg _ _ _ (by omega) h2
  | not k _ a h1 h2 => exact .not _ _ _ (by omega) h2
  | null _ _ o a h1 h2 h3 => exact .null _ _ _ _ (by omega) h2 h3
  | pair _ _ o a b h1 h2 h3 h4 => exact .pair _ _ _ _ _ (by omega) h2 h3 h4
  | call k _ s f es h1 h2 h3 h4 => exact .call _ _ s f es (by omega) h2 h3 h4
  | star k _ h => exact .star _ _ (by omega)
  | br k _ x h1 h2 h3 =>
    by_cases hx : lnE x < L
    · exact .br _ _ _ hx (by omega) h3
    · exact fit_mono (fit_raise h3 L (by omega))
/-- In brackets: at the last line, one deeper. -/
theorem fit_brack {k : Nat} {x : Ex} (h : Fit nm k 1 x) : Fit nm (k + 1) 9 x := by
  have := fit_ln h
  by_cases hx : lnE x < 9
  · exact .br _ _ _ hx (by omega) h
  · exact fit_mono (fit_raise h 9 (by omega))

/-! How long. -/
theorem brT_len (L : Int) (p : Int × List UInt8) : (brT L p).length ≤ p.2.length + 2 := by
  unfold brT
  split
  · simp
  · omega
theorem opT_len : ∀ n : Nat, (opT.getD n []).length ≤ 3 := by
  have : ∀ j : Fin 17, (opT.getD j.val []).length ≤ 3 := by decide
  intro n
  by_cases h : n < 17
  · exact this ⟨n, h⟩
  · rw [List.getD_eq_getElem?_getD, List.getElem?_eq_none (by show 17 ≤ n; omega)]; simp
theorem fnT_len : ∀ n : Nat, (fnT.getD n []).length ≤ 8 := by
  have : ∀ j : Fin 7, (fnT.getD j.val []).length ≤ 8 := by decide
  intro n
  by_cases h : n < 7
  · exact this ⟨n, h⟩
  · rw [List.getD_eq_getElem?_getD, List.getElem?_eq_none (by show 7 ≤ n; omega)]; simp
theorem agT_len : ∀ n : Nat, (agT.getD n []).length ≤ 8 := by
  have : ∀ j : Fin 5, (agT.getD j.val []).length ≤ 8 := by decide
  intro n
  by_cases h : n < 5
  · exact this ⟨n, h⟩
  · rw [List.getD_eq_getElem?_getD, List.getElem?_eq_none (by show 5 ≤ n; omega)]; simp
variable (lit : Vl → List UInt8)
def lnP (x : Ex) : Nat := (prE lit x).length
/-- The operands' lengths, two more for each. -/
def lnL : List Ex → Nat
  | [] => 0
  | x :: xs => lnP lit x + 2 + lnL xs
theorem lnL_snoc : ∀ (es : List Ex) (x : Ex), lnL lit (es ++ [x]) = lnL lit es + (lnP lit x + 2)
  | [], x => by simp [lnL]
  | y :: es, x => by rw [List.cons_append, lnL, lnL_snoc es x, lnL]; omega
theorem joinTail_len : ∀ es : List Ex, (Lib.joinTail [44, 32] ((prL lit es).map (·.2))).length = lnL lit es
  | [] => rfl
  | x :: es => by
    have := joinTail_len es
    rw [prL, List.map_cons]
    simp only [Lib.joinTail, List.map_cons, List.flatten_cons, List.length_append, List.length_cons, List.length_nil] at this ⊢
    rw [lnL, lnP, this]
    omega
theorem join_len : ∀ es : List Ex, (Lib.join ((prL lit es).map (·.2)) [44, 32]).length ≤ lnL lit es
  | [] => by simp [prL, Lib.join, lnL]
  | x :: es => by
    have h := joinTail_len lit es
    rw [prL, List.map_cons, Lib.join_cons, List.length_append, h, lnL, lnP]
    simp only
    omega
theorem all_len (es : List Ex) : (allT (prL lit es)).length ≤ lnL lit es + 2 := by
  have := join_len lit es
  unfold allT
  simp only [List.length_append, List.length_cons, List.length_nil]
  omega
theorem len_un {o : Int} (h : o = 1 ∨ o = 2) (a : Ex) : lnP lit (unE o a) ≤ lnP lit a + 6 := by
  have hb := fun L => brT_len L (lnE a, prE lit a)
  unfold lnP
  rcases h with rfl | rfl
  · rw [show prE lit (unE 1 a) = [45, 32] ++ brT 8 (lnE a, prE lit a) by rw [prE_eq]; simp [unE, Ex.args, Ex.kind, Ex.op, prL, prK, lnN, lineTab]]
    have := hb 8
    simp only [List.length_append, List.length_cons, List.length_nil] at this ⊢
    omega
  · rw [show prE lit (unE 2 a) = [78, 79, 84, 32] ++ brT 3 (lnE a, prE lit a) by rw [prE_eq]; simp [unE, Ex.args, Ex.kind, Ex.op, prL, prK, lnN, lineTab]]
    have := hb 3
    simp only [List.length_append, List.length_cons, List.length_nil] at this ⊢
    omega
theorem pr_null {o : Int} (h : o = 0 ∨ o = 1) (a : Ex) : prE lit (nullE o a) = brT 5 (lnE a, prE lit a) ++ (if o = 0 then [32, 73, 83, 32, 78, 85, 76, 76] else [32, 73, 83, 32, 78, 79, 84, 32, 78, 85, 76, 76]) := by
  rw [prE_eq]
  rcases h with rfl | rfl <;> simp [nullE, Ex.args, Ex.kind, Ex.op, prL, prK, lnN, lineTab]
theorem len_null {o : Int} (h : o = 0 ∨ o = 1) (a : Ex) : lnP lit (nullE o a) ≤ lnP lit a + 14 := by
  have hb := brT_len 5 (lnE a, prE lit a)
  unfold lnP
  rw [pr_null lit h, List.length_append]
  have : (if o = 0 then [32, 73, 83, 32, 78, 85, 76, 76] else ([32, 73, 83, 32, 78, 79, 84, 32, 78, 85, 76, 76] : List UInt8)).length ≤ 12 := by split <;> simp
  simp only at hb
  omega
theorem pr_pair {o : Int} (h : 3 ≤ o ∧ o ≤ 16) (a b : Ex) : prE lit (pairE o a b) = brT (lftL (pairLn o.toNat)) (lnE a, prE lit a) ++ [32] ++ opT.getD o.toNat [] ++ [32] ++ brT (pairLn o.toNat + 1) (lnE b, prE lit b) := by
  have hne := pairLn_le h
  have e : lnN 4 o 2 = pairLn o.toNat := rfl
  rw [prE_eq]
  simp only [pairE, Ex.args, Ex.kind, Ex.op, prL, prK, List.length_cons, List.length_nil, Nat.zero_add, Nat.reduceAdd, e]
  rw [if_neg (by omega), if_neg (by decide), if_neg (by decide), if_neg (by decide), if_neg (by decide), if_neg (by decide), if_neg (by decide)]
  rfl
theorem len_pair {o : Int} (h : 3 ≤ o ∧ o ≤ 16) (a b : Ex) : lnP lit (pairE o a b) ≤ lnP lit a + lnP lit b + 9 := by
  unfold lnP
  rw [pr_pair lit h]
  have h1 := brT_len (lftL (pairLn o.toNat)) (lnE a, prE lit a)
  have h2 := brT_len (pairLn o.toNat + 1) (lnE b, prE lit b)
  have h3 := opT_len o.toNat
  simp only [List.length_append, List.length_cons, List.length_nil] at h1 h2 ⊢
  omega
theorem pr_call {s : List UInt8} {f : Int × Int × Nat} (h : funT s = some f) {es : List Ex} (he : es.length = f.2.2) : prE lit (callE f.1 f.2.1 es) = (if f.1 = 5 then fnT.getD f.2.1.toNat [] else agT.getD f.2.1.toNat []) ++ allT (prL lit es) := by
  have hl := ln_call h he
  rw [prE_eq]
  unfold lnE at hl
  simp only [callE, Ex.args, Ex.kind, Ex.op] at hl ⊢
  unfold prK
  simp only [prL_len]
  rw [hl, if_neg (by decide)]
  have hne : prL lit es ≠ [] := by
    intro e
    have := prL_len lit es
    rw [e] at this
    have hb : 1 ≤ f.2.2 := by rcases funT_cases h with ⟨_, rfl⟩ | ⟨_, rfl⟩ | ⟨_, rfl⟩ | ⟨_, rfl⟩ | ⟨_, rfl⟩ | ⟨_, rfl⟩ | ⟨_, rfl⟩ | ⟨_, rfl⟩ | ⟨_, rfl⟩ | ⟨_, rfl⟩ <;> decide
    simp at this
    omega
  rcases funT_cases h with ⟨_, rfl⟩ | ⟨_, rfl⟩ | ⟨_, rfl⟩ | ⟨_, rfl⟩ | ⟨_, rfl⟩ | ⟨_, rfl⟩ | ⟨_, rfl⟩ | ⟨_, rfl⟩ | ⟨_, rfl⟩ | ⟨_, rfl⟩
  all_goals simp [hne]
theorem len_call {s : List UInt8} {f : Int × Int × Nat} (h : funT s = some f) {es : List Ex} (he : es.length = f.2.2) : lnP lit (callE f.1 f.2.1 es) ≤ lnL lit es + 10 := by
  unfold lnP
  rw [pr_call lit h he, List.length_append]
  have h1 := all_len lit es
  have h2 := fnT_len f.2.1.toNat
  have h3 := agT_len f.2.1.toNat
  split <;> omega
end
theorem quotes_len : ∀ s : List UInt8, (quotes s).length ≤ 2 * s.length
  | [] => by simp [quotes]
  | c :: s => by
    have := quotes_len s
    rw [quotes_cons, List.length_append, List.length_cons]
    unfold quote1
    split <;> simp <;> omega
theorem hexs_len : ∀ s : List UInt8, (hexs s).length = 2 * s.length
  | [] => by simp [hexs]
  | c :: s => by
    have := hexs_len s
    show (hexB (c.toNat / 16) :: hexB (c.toNat % 16) :: hexs s).length = _
    simp only [List.length_cons]
    omega
theorem len_lit {v : Vl} (h : GoodV v) : (litV v).length ≤ 2 * v.text.length + 21 := by
  rcases h with rfl | rfl | rfl | ⟨n, h0, h1, rfl⟩ | ⟨s, _, rfl⟩ | ⟨s, _, rfl⟩
  · simp [litV, vNull]
  · simp [litV]
  · simp [litV]
  · have := Lib.itoa_length_le n (by omega) h1
    simp [litV]
    omega
  · have := quotes_len s
    simp [litV, litText]
    omega
  · have := hexs_len s
    simp [litV, litBlob]
    omega
end Go.Proofs.YtcefmhofidoloaaGreatDoor.Exp

/- expr.Print of literals and columns. -/
set_option linter.unusedVariables false
set_option linter.unusedSimpArgs false
namespace Go.Proofs.YtcefmhofidoloaaGreatDoor.Exp
open Go.RowKit Go.Proofs.YtcefmhofidoloaaGreatDoor.Base Go.Proofs.YtcefmhofidoloaaGreatDoor.App Go.Proofs.YtcefmhofidoloaaGreatDoor.Byt Go.Proofs.YtcefmhofidoloaaGreatDoor.Lex

set_option maxRecDepth 100000 in
set_option maxHeartbeats 12800000 in
theorem print_lit (lit : Vl → List UInt8) (v : Vl) (tb nm : List UInt8) (col tp : Int) (A : Option Addr) (c : Nat) (w : World) (hV : ∀ W, Below w.heap.size w W → Calls Tryz.prog 57 #[.agg #[.int .i64 v.kind, .int .i64 v.int, .string ⟨v.text.toArray⟩]] W (PrintR (lit v) W)) :
    Calls Tryz.prog 23 #[.agg #[.int .i64 1, .int .i64 0, .int .i64 v.kind, .int .i64 v.int, .string ⟨v.text.toArray⟩, .string ⟨tb.toArray⟩, .string ⟨nm.toArray⟩, .int .i64 col, .int .i64 tp, .slice A 0 c]] w (PrintR (lit v) w) := by
  have HV := Asd.mk hV
  clear hV
  have HB : Asd (Below w.heap.size w (w.alloc (.cells #[.int .i64 1, .int .i64 0, .int .i64 v.kind, .int .i64 v.int, .string ⟨v.text.toArray⟩, .string ⟨tb.toArray⟩, .string ⟨nm.toArray⟩, .int .i64 col, .int .i64 tp, .slice A 0 c] 58 (0, 0)))) := Asd.mk (below_alloc (Below.refl _ w) _)
  have HN := Asd.mk (blk_new w (.cells #[.int .i64 1, .int .i64 0, .int .i64 v.kind, .int .i64 v.int, .string ⟨v.text.toArray⟩, .string ⟨tb.toArray⟩, .string ⟨nm.toArray⟩, .int .i64 col, .int .i64 tp, .slice A 0 c] 58 (0, 0)))
  have HL : Asd (∀ W, Calls Tryz.prog 60 #[.agg #[.int .i64 1, .int .i64 0, .int .i64 v.kind, .int .i64 v.int, .string ⟨v.text.toArray⟩, .string ⟨tb.toArray⟩, .string ⟨nm.toArray⟩, .int .i64 col, .int .i64 tp, .slice A 0 c]] W (LineR 9 W)) := Asd.mk (fun W => line_tab v.kind v.int col tp ⟨v.text.toArray⟩ ⟨tb.toArray⟩ ⟨nm.toArray⟩ A c W (1, 0, 0, 9) (by simp [lineTab]))
  go_enter Tryz.func23, Tryz.ntmps23
  go_upto_region 1 with fail
  generalize (w.alloc (.cells #[.int .i64 1, .int .i64 0, .int .i64 v.kind, .int .i64 v.int, .string ⟨v.text.toArray⟩, .string ⟨tb.toArray⟩, .string ⟨nm.toArray⟩, .int .i64 col, .int .i64 tp, .slice A 0 c] 58 (0, 0))) = w1 at HB HN ⊢
  have e0 := (blk_cell HN.out 0).trans rfl
  have e1 := (blk_cell HN.out 1).trans rfl
  have e2 := (blk_cell HN.out 2).trans rfl
  have e3 := (blk_cell HN.out 3).trans rfl
  have e4 := (blk_cell HN.out 4).trans rfl
  have e5 := (blk_cell HN.out 5).trans rfl
  have e6 := (blk_cell HN.out 6).trans rfl
  have e7 := (blk_cell HN.out 7).trans rfl
  have e8 := (blk_cell HN.out 8).trans rfl
  have e9 := (blk_cell HN.out 9).trans rfl
  go_wp2_with fail
  refine (HL.out w1).mono ?_
  rintro e w2 ⟨rfl, hb2⟩
  have HB2 : Asd (Below w.heap.size w w2) := Asd.mk (HB.out.trans (hb2.mono HB.out.size))
  have HN2 := Asd.mk (blk_below hb2 HN.out)
  clear hb2 e0 e1 e2 e3 e4 e5 e6 e7 e8 e9
  have e0 := (blk_cell HN2.out 0).trans rfl
  have e1 := (blk_cell HN2.out 1).trans rfl
  have e2 := (blk_cell HN2.out 2).trans rfl
  have e3 := (blk_cell HN2.out 3).trans rfl
  have e4 := (blk_cell HN2.out 4).trans rfl
  have e5 := (blk_cell HN2.out 5).trans rfl
  have e6 := (blk_cell HN2.out 6).trans rfl
  have e7 := (blk_cell HN2.out 7).trans rfl
  have e8 := (blk_cell HN2.out 8).trans rfl
  have e9 := (blk_cell HN2.out 9).trans rfl
  go_wp2_with fail
  refine (HV.out w2 HB2.out).mono ?_
  rintro e w3 ⟨rfl, hb3⟩
  have HB3 := Asd.mk (HB2.out.trans (hb3.mono HB2.out.size))
  clear hb3 e0 e1 e2 e3 e4 e5 e6 e7 e8 e9
  go_wp2
  go_ret
  exact ⟨rfl, HB3.out⟩
/-- A column as it is written. -/
def colS (st sn : ByteArray) : ByteArray := if st.toList = [] then sn else st ++ ⟨#[46]⟩ ++ sn
set_option maxRecDepth 100000 in
set_option maxHeartbeats 12800000 in
theorem print_col0 (v : Vl) (col tp : Int) (st sn : ByteArray) (A : Option Addr) (c : Nat) (w : World) (h1 : st.size ≤ 1099511627776) (h2 : sn.size ≤ 1099511627776) :
    Calls Tryz.prog 23 #[.agg #[.int .i64 2, .int .i64 0, .int .i64 v.kind, .int .i64 v.int, .string ⟨v.text.toArray⟩, .string st, .string sn, .int .i64 col, .int .i64 tp, .slice A 0 c]] w fun e w' => e = .returned (.string (colS st sn)) ∧ Below w.heap.size w w' := by
  have HB : Asd (Below w.heap.size w (w.alloc (.cells #[.int .i64 2, .int .i64 0, .int .i64 v.kind, .int .i64 v.int, .string ⟨v.text.toArray⟩, .string st, .string sn, .int .i64 col, .int .i64 tp, .slice A 0 c] 58 (0, 0)))) := Asd.mk (below_alloc (Below.refl _ w) _)
  have HN := Asd.mk (blk_new w (.cells #[.int .i64 2, .int .i64 0, .int .i64 v.kind, .int .i64 v.int, .string ⟨v.text.toArray⟩, .string st, .string sn, .int .i64 col, .int .i64 tp, .slice A 0 c] 58 (0, 0)))
  have HL : Asd (∀ W, Calls Tryz.prog 60 #[.agg #[.int .i64 2, .int .i64 0, .int .i64 v.kind, .int .i64 v.int, .string ⟨v.text.toArray⟩, .string st, .string sn, .int .i64 col, .int .i64 tp, .slice A 0 c]] W (LineR 9 W)) := Asd.mk (fun W => line_tab v.kind v.int col tp ⟨v.text.toArray⟩ st sn A c W (2, 0, 0, 9) (by simp [lineTab]))
  go_enter Tryz.func23, Tryz.ntmps23
  go_upto_region 1 with fail
  generalize (w.alloc (.cells #[.int .i64 2, .int .i64 0, .int .i64 v.kind, .int .i64 v.int, .string ⟨v.text.toArray⟩, .string st, .string sn, .int .i64 col, .int .i64 tp, .slice A 0 c] 58 (0, 0))) = w1 at HB HN ⊢
  have e0 := (blk_cell HN.out 0).trans rfl
  have e1 := (blk_cell HN.out 1).trans rfl
  have e2 := (blk_cell HN.out 2).trans rfl
  have e3 := (blk_cell HN.out 3).trans rfl
  have e4 := (blk_cell HN.out 4).trans rfl
  have e5 := (blk_cell HN.out 5).trans rfl
  have e6 := (blk_cell HN.out 6).trans rfl
  have e7 := (blk_cell HN.out 7).trans rfl
  have e8 := (blk_cell HN.out 8).trans rfl
  have e9 := (blk_cell HN.out 9).trans rfl
  go_wp2_with fail
  refine (HL.out w1).mono ?_
  rintro e w2 ⟨rfl, hb2⟩
  have HB2 : Asd (Below w.heap.size w w2) := Asd.mk (HB.out.trans (hb2.mono HB.out.size))
  have HN2 := Asd.mk (blk_below hb2 HN.out)
  clear hb2 e0 e1 e2 e3 e4 e5 e6 e7 e8 e9
  have e0 := (blk_cell HN2.out 0).trans rfl
  have e1 := (blk_cell HN2.out 1).trans rfl
  have e2 := (blk_cell HN2.out 2).trans rfl
  have e3 := (blk_cell HN2.out 3).trans rfl
  have e4 := (blk_cell HN2.out 4).trans rfl
  have e5 := (blk_cell HN2.out 5).trans rfl
  have e6 := (blk_cell HN2.out 6).trans rfl
  have e7 := (blk_cell HN2.out 7).trans rfl
  have e8 := (blk_cell HN2.out 8).trans rfl
  have e9 := (blk_cell HN2.out 9).trans rfl
  by_cases ht : st.toList = []
  · have HI : Asd (colS st sn = sn) := Asd.mk (if_pos ht)
    have hne : st.toList.isEmpty = true := by rw [ht]; rfl
    clear ht
    go_wp2
    go_ret
    exact ⟨ret_eq (by rw [HI.out]; rfl), HB2.out⟩
  · have HI : Asd (colS st sn = st ++ ⟨#[46]⟩ ++ sn) := Asd.mk (if_neg ht)
    have hne : st.toList.isEmpty = false := by cases hl : st.toList with | nil => exact absurd hl ht | cons => rfl
    clear ht
    go_wp2
    go_ret
    exact ⟨ret_eq (by rw [HI.out]; rfl), HB2.out⟩
set_option maxRecDepth 100000 in
set_option maxHeartbeats 12800000 in
theorem print_col (v : Vl) (tb nm : List UInt8) (col tp : Int) (A : Option Addr) (c : Nat) (w : World) (h1 : tb.length ≤ 1099511627776) (h2 : nm.length ≤ 1099511627776) :
    Calls Tryz.prog 23 #[.agg #[.int .i64 2, .int .i64 0, .int .i64 v.kind, .int .i64 v.int, .string ⟨v.text.toArray⟩, .string ⟨tb.toArray⟩, .string ⟨nm.toArray⟩, .int .i64 col, .int .i64 tp, .slice A 0 c]] w (PrintR (if tb = [] then nm else tb ++ [46] ++ nm) w) := by
  have hs1 : (⟨tb.toArray⟩ : ByteArray).size ≤ 1099511627776 := by show tb.toArray.size ≤ _; simpa using h1
  have hs2 : (⟨nm.toArray⟩ : ByteArray).size ≤ 1099511627776 := by show nm.toArray.size ≤ _; simpa using h2
  refine (print_col0 v col tp ⟨tb.toArray⟩ ⟨nm.toArray⟩ A c w hs1 hs2).mono ?_
  rintro e w' ⟨rfl, hb⟩
  refine ⟨ret_eq ?_, hb⟩
  unfold colS
  rw [Lib.toList_data]
  by_cases ht : tb = []
  · rw [if_pos ht, if_pos (by simpa using ht)]
  · rw [if_neg ht, if_neg (by simpa using ht)]
    show Value.string _ = _
    congr 1
end Go.Proofs.YtcefmhofidoloaaGreatDoor.Exp

/- expr.Print of what has a sign or a NOT. -/
set_option linter.unusedVariables false
set_option linter.unusedSimpArgs false
namespace Go.Proofs.YtcefmhofidoloaaGreatDoor.Exp
open Go.RowKit Go.Proofs.YtcefmhofidoloaaGreatDoor.Base Go.Proofs.YtcefmhofidoloaaGreatDoor.App Go.Proofs.YtcefmhofidoloaaGreatDoor.Byt Go.Proofs.YtcefmhofidoloaaGreatDoor.Lex

set_option maxRecDepth 100000 in
set_option maxHeartbeats 12800000 in
theorem print_neg (lit : Vl → List UInt8) (v : Vl) (tb nm : List UInt8) (col tp : Int) (P : Nat → Prop) (x : Ex) (A : Option Addr) (c : Nat) (w : World) (hok : okE x) (hp : PrintOK lit x) (hsz : (prE lit x).length ≤ 1099511627776) (hsh : PrW w) (hh : Held P w [x] (.slice A 1 c)) :
    Calls Tryz.prog 23 #[.agg #[.int .i64 3, .int .i64 1, .int .i64 v.kind, .int .i64 v.int, .string ⟨v.text.toArray⟩, .string ⟨tb.toArray⟩, .string ⟨nm.toArray⟩, .int .i64 col, .int .i64 tp, .slice A 1 c]] w (PrintR ([45, 32] ++ brT 8 (lnE x, prE lit x)) w) := by
  obtain ⟨g, o, A1, n1, c1, he1, hr1, hh1⟩ := held_at hh 0 (by simp)
  simp only [List.getElem_cons_zero] at hr1 hh1
  cases he1
  have HR := Asd.mk hr1
  have hgl := World.block_lt_of_cell? w _ (hr1 0 (by omega))
  have HK := Asd.mk (fun W (hb : Below w.heap.size w W) => brack_calls lit x P (.slice A1 n1 c1) 8 W hok hp hsz (prw_below hsh hb) (held_below hh1 hb))
  have hbl : (brT 8 (lnE x, prE lit x)).length ≤ 1099511627778 := by unfold brT; split <;> simp <;> omega
  generalize brT 8 (lnE x, prE lit x) = bt at HK hbl ⊢
  unfold exV at HK
  clear hok hp hsz hsh hh hr1 hh1
  have HB : Asd (Below w.heap.size w (w.alloc (.cells #[.int .i64 3, .int .i64 1, .int .i64 v.kind, .int .i64 v.int, .string ⟨v.text.toArray⟩, .string ⟨tb.toArray⟩, .string ⟨nm.toArray⟩, .int .i64 col, .int .i64 tp, .slice (some ⟨g, o, none⟩) 1 c] 58 (0, 0)))) := Asd.mk (below_alloc (Below.refl _ w) _)
  have HN := Asd.mk (blk_new w (.cells #[.int .i64 3, .int .i64 1, .int .i64 v.kind, .int .i64 v.int, .string ⟨v.text.toArray⟩, .string ⟨tb.toArray⟩, .string ⟨nm.toArray⟩, .int .i64 col, .int .i64 tp, .slice (some ⟨g, o, none⟩) 1 c] 58 (0, 0)))
  have HL : Asd (∀ W, Calls Tryz.prog 60 #[.agg #[.int .i64 3, .int .i64 1, .int .i64 v.kind, .int .i64 v.int, .string ⟨v.text.toArray⟩, .string ⟨tb.toArray⟩, .string ⟨nm.toArray⟩, .int .i64 col, .int .i64 tp, .slice (some ⟨g, o, none⟩) 1 c]] W (LineR 8 W)) := Asd.mk (fun W => line_tab v.kind v.int col tp ⟨v.text.toArray⟩ ⟨tb.toArray⟩ ⟨nm.toArray⟩ (some ⟨g, o, none⟩) c W (3, 1, 1, 8) (by simp [lineTab]))
  go_enter Tryz.func23, Tryz.ntmps23
  go_upto_region 1 with fail
  generalize (w.alloc (.cells #[.int .i64 3, .int .i64 1, .int .i64 v.kind, .int .i64 v.int, .string ⟨v.text.toArray⟩, .string ⟨tb.toArray⟩, .string ⟨nm.toArray⟩, .int .i64 col, .int .i64 tp, .slice (some ⟨g, o, none⟩) 1 c] 58 (0, 0))) = w1 at HB HN ⊢
  have e0 := (blk_cell HN.out 0).trans rfl
  have e1 := (blk_cell HN.out 1).trans rfl
  have e2 := (blk_cell HN.out 2).trans rfl
  have e3 := (blk_cell HN.out 3).trans rfl
  have e4 := (blk_cell HN.out 4).trans rfl
  have e5 := (blk_cell HN.out 5).trans rfl
  have e6 := (blk_cell HN.out 6).trans rfl
  have e7 := (blk_cell HN.out 7).trans rfl
  have e8 := (blk_cell HN.out 8).trans rfl
  have e9 := (blk_cell HN.out 9).trans rfl
  go_wp2_with fail
  refine (HL.out w1).mono ?_
  rintro e w2 ⟨rfl, hb2⟩
  have HB2 : Asd (Below w.heap.size w w2) := Asd.mk (HB.out.trans (hb2.mono HB.out.size))
  have HN2 := Asd.mk (blk_below hb2 HN.out)
  clear hb2 e0 e1 e2 e3 e4 e5 e6 e7 e8 e9
  have e0 := (blk_cell HN2.out 0).trans rfl
  have e1 := (blk_cell HN2.out 1).trans rfl
  have e2 := (blk_cell HN2.out 2).trans rfl
  have e3 := (blk_cell HN2.out 3).trans rfl
  have e4 := (blk_cell HN2.out 4).trans rfl
  have e5 := (blk_cell HN2.out 5).trans rfl
  have e6 := (blk_cell HN2.out 6).trans rfl
  have e7 := (blk_cell HN2.out 7).trans rfl
  have e8 := (blk_cell HN2.out 8).trans rfl
  have e9 := (blk_cell HN2.out 9).trans rfl
  have hr1 := HR.out.below HB2.out
  have y0 : w2.cell? ⟨g, o, none⟩ = some (.int .i64 x.kind) := hr1 0 (by omega)
  have y1 : w2.cell? ⟨g, o + 1, none⟩ = some (.int .i64 x.op) := hr1 1 (by omega)
  have y2 : w2.cell? ⟨g, o + 2, none⟩ = some (.int .i64 x.v.kind) := hr1 2 (by omega)
  have y3 : w2.cell? ⟨g, o + 3, none⟩ = some (.int .i64 x.v.int) := hr1 3 (by omega)
  have y4 : w2.cell? ⟨g, o + 4, none⟩ = some (.string ⟨x.v.text.toArray⟩) := hr1 4 (by omega)
  have y5 : w2.cell? ⟨g, o + 5, none⟩ = some (.string ⟨x.table.toArray⟩) := hr1 5 (by omega)
  have y6 : w2.cell? ⟨g, o + 6, none⟩ = some (.string ⟨x.name.toArray⟩) := hr1 6 (by omega)
  have y7 : w2.cell? ⟨g, o + 7, none⟩ = some (.int .i64 x.col) := hr1 7 (by omega)
  have y8 : w2.cell? ⟨g, o + 8, none⟩ = some (.int .i64 x.ty) := hr1 8 (by omega)
  have y9 : w2.cell? ⟨g, o + 9, none⟩ = some (.slice A1 n1 c1) := hr1 9 (by omega)
  clear hr1
  go_wp2_with fail
  refine (HK.out w2 HB2.out).mono ?_
  rintro e w3 ⟨rfl, hb3⟩
  have HB3 := Asd.mk (HB2.out.trans (hb3.mono HB2.out.size))
  clear hb3 e0 e1 e2 e3 e4 e5 e6 e7 e8 e9 y0 y1 y2 y3 y4 y5 y6 y7 y8 y9
  have hs2 : (⟨bt.toArray⟩ : ByteArray).size ≤ 1099511627778 := by show bt.toArray.size ≤ _; simpa using hbl
  go_wp2
  go_ret
  refine ⟨ret_eq ?_, HB3.out⟩
  show Value.string _ = _
  congr 1
set_option maxRecDepth 100000 in
set_option maxHeartbeats 12800000 in
theorem print_not (lit : Vl → List UInt8) (v : Vl) (tb nm : List UInt8) (col tp : Int) (P : Nat → Prop) (x : Ex) (A : Option Addr) (c : Nat) (w : World) (hok : okE x) (hp : PrintOK lit x) (hsz : (prE lit x).length ≤ 1099511627776) (hsh : PrW w) (hh : Held P w [x] (.slice A 1 c)) :
    Calls Tryz.prog 23 #[.agg #[.int .i64 3, .int .i64 2, .int .i64 v.kind, .int .i64 v.int, .string ⟨v.text.toArray⟩, .string ⟨tb.toArray⟩, .string ⟨nm.toArray⟩, .int .i64 col, .int .i64 tp, .slice A 1 c]] w (PrintR ([78, 79, 84, 32] ++ brT 3 (lnE x, prE lit x)) w) := by
  obtain ⟨g, o, A1, n1, c1, he1, hr1, hh1⟩ := held_at hh 0 (by simp)
  simp only [List.getElem_cons_zero] at hr1 hh1
  cases he1
  have HR := Asd.mk hr1
  have hgl := World.block_lt_of_cell? w _ (hr1 0 (by omega))
  have HK := Asd.mk (fun W (hb : Below w.heap.size w W) => brack_calls lit x P (.slice A1 n1 c1) 3 W hok hp hsz (prw_below hsh hb) (held_below hh1 hb))
  have hbl : (brT 3 (lnE x, prE lit x)).length ≤ 1099511627778 := by unfold brT; split <;> simp <;> omega
  generalize brT 3 (lnE x, prE lit x) = bt at HK hbl ⊢
  unfold exV at HK
  clear hok hp hsz hsh hh hr1 hh1
  have HB : Asd (Below w.heap.size w (w.alloc (.cells #[.int .i64 3, .int .i64 2, .int .i64 v.kind, .int .i64 v.int, .string ⟨v.text.toArray⟩, .string ⟨tb.toArray⟩, .string ⟨nm.toArray⟩, .int .i64 col, .int .i64 tp, .slice (some ⟨g, o, none⟩) 1 c] 58 (0, 0)))) := Asd.mk (below_alloc (Below.refl _ w) _)
  have HN := Asd.mk (blk_new w (.cells #[.int .i64 3, .int .i64 2, .int .i64 v.kind, .int .i64 v.int, .string ⟨v.text.toArray⟩, .string ⟨tb.toArray⟩, .string ⟨nm.toArray⟩, .int .i64 col, .int .i64 tp, .slice (some ⟨g, o, none⟩) 1 c] 58 (0, 0)))
  have HL : Asd (∀ W, Calls Tryz.prog 60 #[.agg #[.int .i64 3, .int .i64 2, .int .i64 v.kind, .int .i64 v.int, .string ⟨v.text.toArray⟩, .string ⟨tb.toArray⟩, .string ⟨nm.toArray⟩, .int .i64 col, .int .i64 tp, .slice (some ⟨g, o, none⟩) 1 c]] W (LineR 3 W)) := Asd.mk (fun W => line_tab v.kind v.int col tp ⟨v.text.toArray⟩ ⟨tb.toArray⟩ ⟨nm.toArray⟩ (some ⟨g, o, none⟩) c W (3, 2, 1, 3) (by simp [lineTab]))
  go_enter Tryz.func23, Tryz.ntmps23
  go_upto_region 1 with fail
  generalize (w.alloc (.cells #[.int .i64 3, .int .i64 2, .int .i64 v.kind, .int .i64 v.int, .string ⟨v.text.toArray⟩, .string ⟨tb.toArray⟩, .string ⟨nm.toArray⟩, .int .i64 col, .int .i64 tp, .slice (some ⟨g, o, none⟩) 1 c] 58 (0, 0))) = w1 at HB HN ⊢
  have e0 := (blk_cell HN.out 0).trans rfl
  have e1 := (blk_cell HN.out 1).trans rfl
  have e2 := (blk_cell HN.out 2).trans rfl
  have e3 := (blk_cell HN.out 3).trans rfl
  have e4 := (blk_cell HN.out 4).trans rfl
  have e5 := (blk_cell HN.out 5).trans rfl
  have e6 := (blk_cell HN.out 6).trans rfl
  have e7 := (blk_cell HN.out 7).trans rfl
  have e8 := (blk_cell HN.out 8).trans rfl
  have e9 := (blk_cell HN.out 9).trans rfl
  go_wp2_with fail
  refine (HL.out w1).mono ?_
  rintro e w2 ⟨rfl, hb2⟩
  have HB2 : Asd (Below w.heap.size w w2) := Asd.mk (HB.out.trans (hb2.mono HB.out.size))
  have HN2 := Asd.mk (blk_below hb2 HN.out)
  clear hb2 e0 e1 e2 e3 e4 e5 e6 e7 e8 e9
  have e0 := (blk_cell HN2.out 0).trans rfl
  have e1 := (blk_cell HN2.out 1).trans rfl
  have e2 := (blk_cell HN2.out 2).trans rfl
  have e3 := (blk_cell HN2.out 3).trans rfl
  have e4 := (blk_cell HN2.out 4).trans rfl
  have e5 := (blk_cell HN2.out 5).trans rfl
  have e6 := (blk_cell HN2.out 6).trans rfl
  have e7 := (blk_cell HN2.out 7).trans rfl
  have e8 := (blk_cell HN2.out 8).trans rfl
  have e9 := (blk_cell HN2.out 9).trans rfl
  have hr1 := HR.out.below HB2.out
  have y0 : w2.cell? ⟨g, o, none⟩ = some (.int .i64 x.kind) := hr1 0 (by omega)
  have y1 : w2.cell? ⟨g, o + 1, none⟩ = some (.int .i64 x.op) := hr1 1 (by omega)
  have y2 : w2.cell? ⟨g, o + 2, none⟩ = some (.int .i64 x.v.kind) := hr1 2 (by omega)
  have y3 : w2.cell? ⟨g, o + 3, none⟩ = some (.int .i64 x.v.int) := hr1 3 (by omega)
  have y4 : w2.cell? ⟨g, o + 4, none⟩ = some (.string ⟨x.v.text.toArray⟩) := hr1 4 (by omega)
  have y5 : w2.cell? ⟨g, o + 5, none⟩ = some (.string ⟨x.table.toArray⟩) := hr1 5 (by omega)
  have y6 : w2.cell? ⟨g, o + 6, none⟩ = some (.string ⟨x.name.toArray⟩) := hr1 6 (by omega)
  have y7 : w2.cell? ⟨g, o + 7, none⟩ = some (.int .i64 x.col) := hr1 7 (by omega)
  have y8 : w2.cell? ⟨g, o + 8, none⟩ = some (.int .i64 x.ty) := hr1 8 (by omega)
  have y9 : w2.cell? ⟨g, o + 9, none⟩ = some (.slice A1 n1 c1) := hr1 9 (by omega)
  clear hr1
  go_wp2_with fail
  refine (HK.out w2 HB2.out).mono ?_
  rintro e w3 ⟨rfl, hb3⟩
  have HB3 := Asd.mk (HB2.out.trans (hb3.mono HB2.out.size))
  clear hb3 e0 e1 e2 e3 e4 e5 e6 e7 e8 e9 y0 y1 y2 y3 y4 y5 y6 y7 y8 y9
  have hs2 : (⟨bt.toArray⟩ : ByteArray).size ≤ 1099511627778 := by show bt.toArray.size ≤ _; simpa using hbl
  go_wp2
  go_ret
  refine ⟨ret_eq ?_, HB3.out⟩
  show Value.string _ = _
  congr 1
end Go.Proofs.YtcefmhofidoloaaGreatDoor.Exp

/- expr.Print of IS NULL. -/
set_option linter.unusedVariables false
set_option linter.unusedSimpArgs false
namespace Go.Proofs.YtcefmhofidoloaaGreatDoor.Exp
open Go.RowKit Go.Proofs.YtcefmhofidoloaaGreatDoor.Base Go.Proofs.YtcefmhofidoloaaGreatDoor.App Go.Proofs.YtcefmhofidoloaaGreatDoor.Byt Go.Proofs.YtcefmhofidoloaaGreatDoor.Lex

set_option maxRecDepth 100000 in
set_option maxHeartbeats 12800000 in
theorem print_is (lit : Vl → List UInt8) (v : Vl) (tb nm : List UInt8) (col tp : Int) (P : Nat → Prop) (x : Ex) (A : Option Addr) (c : Nat) (w : World) (hok : okE x) (hp : PrintOK lit x) (hsz : (prE lit x).length ≤ 1099511627776) (hsh : PrW w) (hh : Held P w [x] (.slice A 1 c)) :
    Calls Tryz.prog 23 #[.agg #[.int .i64 7, .int .i64 0, .int .i64 v.kind, .int .i64 v.int, .string ⟨v.text.toArray⟩, .string ⟨tb.toArray⟩, .string ⟨nm.toArray⟩, .int .i64 col, .int .i64 tp, .slice A 1 c]] w (PrintR (brT 5 (lnE x, prE lit x) ++ [32, 73, 83, 32, 78, 85, 76, 76]) w) := by
  obtain ⟨g, o, A1, n1, c1, he1, hr1, hh1⟩ := held_at hh 0 (by simp)
  simp only [List.getElem_cons_zero] at hr1 hh1
  cases he1
  have HR := Asd.mk hr1
  have hgl := World.block_lt_of_cell? w _ (hr1 0 (by omega))
  have HK := Asd.mk (fun W (hb : Below w.heap.size w W) => brack_calls lit x P (.slice A1 n1 c1) 5 W hok hp hsz (prw_below hsh hb) (held_below hh1 hb))
  have hbl : (brT 5 (lnE x, prE lit x)).length ≤ 1099511627778 := by unfold brT; split <;> simp <;> omega
  generalize brT 5 (lnE x, prE lit x) = bt at HK hbl ⊢
  unfold exV at HK
  clear hok hp hsz hsh hh hr1 hh1
  have hs2 : (⟨bt.toArray⟩ : ByteArray).size ≤ 1099511627778 := by show bt.toArray.size ≤ _; simpa using hbl
  have hix : ∀ W, (Instr.index 114 (.agg #[.string ⟨#[32, 73, 83, 32, 78, 85, 76, 76]⟩, .string ⟨#[32, 73, 83, 32, 78, 79, 84, 32, 78, 85, 76, 76]⟩]) (.int .i64 0)).run Tryz.prog W = .ok (.string ⟨#[32, 73, 83, 32, 78, 85, 76, 76]⟩) W := fun _ => by kernel_rfl
  have HB : Asd (Below w.heap.size w (w.alloc (.cells #[.int .i64 7, .int .i64 0, .int .i64 v.kind, .int .i64 v.int, .string ⟨v.text.toArray⟩, .string ⟨tb.toArray⟩, .string ⟨nm.toArray⟩, .int .i64 col, .int .i64 tp, .slice (some ⟨g, o, none⟩) 1 c] 58 (0, 0)))) := Asd.mk (below_alloc (Below.refl _ w) _)
  have HN := Asd.mk (blk_new w (.cells #[.int .i64 7, .int .i64 0, .int .i64 v.kind, .int .i64 v.int, .string ⟨v.text.toArray⟩, .string ⟨tb.toArray⟩, .string ⟨nm.toArray⟩, .int .i64 col, .int .i64 tp, .slice (some ⟨g, o, none⟩) 1 c] 58 (0, 0)))
  have HL : Asd (∀ W, Calls Tryz.prog 60 #[.agg #[.int .i64 7, .int .i64 0, .int .i64 v.kind, .int .i64 v.int, .string ⟨v.text.toArray⟩, .string ⟨tb.toArray⟩, .string ⟨nm.toArray⟩, .int .i64 col, .int .i64 tp, .slice (some ⟨g, o, none⟩) 1 c]] W (LineR 4 W)) := Asd.mk (fun W => line_tab v.kind v.int col tp ⟨v.text.toArray⟩ ⟨tb.toArray⟩ ⟨nm.toArray⟩ (some ⟨g, o, none⟩) c W (7, 0, 1, 4) (by simp [lineTab]))
  go_enter Tryz.func23, Tryz.ntmps23
  go_upto_region 1 with fail
  generalize (w.alloc (.cells #[.int .i64 7, .int .i64 0, .int .i64 v.kind, .int .i64 v.int, .string ⟨v.text.toArray⟩, .string ⟨tb.toArray⟩, .string ⟨nm.toArray⟩, .int .i64 col, .int .i64 tp, .slice (some ⟨g, o, none⟩) 1 c] 58 (0, 0))) = w1 at HB HN ⊢
  have e0 := (blk_cell HN.out 0).trans rfl
  have e1 := (blk_cell HN.out 1).trans rfl
  have e2 := (blk_cell HN.out 2).trans rfl
  have e3 := (blk_cell HN.out 3).trans rfl
  have e4 := (blk_cell HN.out 4).trans rfl
  have e5 := (blk_cell HN.out 5).trans rfl
  have e6 := (blk_cell HN.out 6).trans rfl
  have e7 := (blk_cell HN.out 7).trans rfl
  have e8 := (blk_cell HN.out 8).trans rfl
  have e9 := (blk_cell HN.out 9).trans rfl
  go_wp2_with fail
  refine (HL.out w1).mono ?_
  rintro e w2 ⟨rfl, hb2⟩
  have HB2 : Asd (Below w.heap.size w w2) := Asd.mk (HB.out.trans (hb2.mono HB.out.size))
  have HN2 := Asd.mk (blk_below hb2 HN.out)
  clear hb2 e0 e1 e2 e3 e4 e5 e6 e7 e8 e9
  have e0 := (blk_cell HN2.out 0).trans rfl
  have e1 := (blk_cell HN2.out 1).trans rfl
  have e2 := (blk_cell HN2.out 2).trans rfl
  have e3 := (blk_cell HN2.out 3).trans rfl
  have e4 := (blk_cell HN2.out 4).trans rfl
  have e5 := (blk_cell HN2.out 5).trans rfl
  have e6 := (blk_cell HN2.out 6).trans rfl
  have e7 := (blk_cell HN2.out 7).trans rfl
  have e8 := (blk_cell HN2.out 8).trans rfl
  have e9 := (blk_cell HN2.out 9).trans rfl
  have hr1 := HR.out.below HB2.out
  have y0 : w2.cell? ⟨g, o, none⟩ = some (.int .i64 x.kind) := hr1 0 (by omega)
  have y1 : w2.cell? ⟨g, o + 1, none⟩ = some (.int .i64 x.op) := hr1 1 (by omega)
  have y2 : w2.cell? ⟨g, o + 2, none⟩ = some (.int .i64 x.v.kind) := hr1 2 (by omega)
  have y3 : w2.cell? ⟨g, o + 3, none⟩ = some (.int .i64 x.v.int) := hr1 3 (by omega)
  have y4 : w2.cell? ⟨g, o + 4, none⟩ = some (.string ⟨x.v.text.toArray⟩) := hr1 4 (by omega)
  have y5 : w2.cell? ⟨g, o + 5, none⟩ = some (.string ⟨x.table.toArray⟩) := hr1 5 (by omega)
  have y6 : w2.cell? ⟨g, o + 6, none⟩ = some (.string ⟨x.name.toArray⟩) := hr1 6 (by omega)
  have y7 : w2.cell? ⟨g, o + 7, none⟩ = some (.int .i64 x.col) := hr1 7 (by omega)
  have y8 : w2.cell? ⟨g, o + 8, none⟩ = some (.int .i64 x.ty) := hr1 8 (by omega)
  have y9 : w2.cell? ⟨g, o + 9, none⟩ = some (.slice A1 n1 c1) := hr1 9 (by omega)
  have HS : Asd (∀ w', Below w2.heap.size w2 w' → w'.cell? ⟨w.heap.size, 1, none⟩ = some (.int .i64 0) ∧ w'.cell? ⟨w.heap.size, 9, none⟩ = some (.slice (some ⟨g, o, none⟩) 1 c) ∧ w'.cell? ⟨g, o, none⟩ = some (.int .i64 x.kind) ∧ w'.cell? ⟨g, o + 1, none⟩ = some (.int .i64 x.op) ∧ w'.cell? ⟨g, o + 2, none⟩ = some (.int .i64 x.v.kind) ∧ w'.cell? ⟨g, o + 3, none⟩ = some (.int .i64 x.v.int) ∧ w'.cell? ⟨g, o + 4, none⟩ = some (.string ⟨x.v.text.toArray⟩) ∧ w'.cell? ⟨g, o + 5, none⟩ = some (.string ⟨x.table.toArray⟩) ∧ w'.cell? ⟨g, o + 6, none⟩ = some (.string ⟨x.name.toArray⟩) ∧ w'.cell? ⟨g, o + 7, none⟩ = some (.int .i64 x.col) ∧ w'.cell? ⟨g, o + 8, none⟩ = some (.int .i64 x.ty) ∧ w'.cell? ⟨g, o + 9, none⟩ = some (.slice A1 n1 c1) ∧ Below w2.heap.size w2 w') := Asd.mk fun w' h => ⟨(h.cell (World.block_lt_of_cell? w2 _ e1)).trans e1, (h.cell (World.block_lt_of_cell? w2 _ e9)).trans e9, (h.cell (World.block_lt_of_cell? w2 _ y0)).trans y0, (h.cell (World.block_lt_of_cell? w2 _ y1)).trans y1, (h.cell (World.block_lt_of_cell? w2 _ y2)).trans y2, (h.cell (World.block_lt_of_cell? w2 _ y3)).trans y3, (h.cell (World.block_lt_of_cell? w2 _ y4)).trans y4, (h.cell (World.block_lt_of_cell? w2 _ y5)).trans y5, (h.cell (World.block_lt_of_cell? w2 _ y6)).trans y6, (h.cell (World.block_lt_of_cell? w2 _ y7)).trans y7, (h.cell (World.block_lt_of_cell? w2 _ y8)).trans y8, (h.cell (World.block_lt_of_cell? w2 _ y9)).trans y9, h⟩
  clear hr1
  have hcc : ¬ 9223372036854775807 < bt.length + 8 := by omega
  go_upto_region 17 with fail
  refine wp_region_held_drew (S := fun w' => w'.cell? ⟨w.heap.size, 1, none⟩ = some (.int .i64 0) ∧ w'.cell? ⟨w.heap.size, 9, none⟩ = some (.slice (some ⟨g, o, none⟩) 1 c) ∧ w'.cell? ⟨g, o, none⟩ = some (.int .i64 x.kind) ∧ w'.cell? ⟨g, o + 1, none⟩ = some (.int .i64 x.op) ∧ w'.cell? ⟨g, o + 2, none⟩ = some (.int .i64 x.v.kind) ∧ w'.cell? ⟨g, o + 3, none⟩ = some (.int .i64 x.v.int) ∧ w'.cell? ⟨g, o + 4, none⟩ = some (.string ⟨x.v.text.toArray⟩) ∧ w'.cell? ⟨g, o + 5, none⟩ = some (.string ⟨x.table.toArray⟩) ∧ w'.cell? ⟨g, o + 6, none⟩ = some (.string ⟨x.name.toArray⟩) ∧ w'.cell? ⟨g, o + 7, none⟩ = some (.int .i64 x.col) ∧ w'.cell? ⟨g, o + 8, none⟩ = some (.int .i64 x.ty) ∧ w'.cell? ⟨g, o + 9, none⟩ = some (.slice A1 n1 c1) ∧ Below w2.heap.size w2 w') (by kernel_rfl) (HS.out _ (Below.refl _ _).drew) (fun hHeld => ?_)
  refine wpAnyH_take (i := 0) (oi := ({ dst := some 54, op := Op.fieldAddr 58 (Operand.tmp 1) 7, type := 0, pos := "expr.go:367", after := #[], guard := none } : Oper)) (v := ?va0) rfl (by kernel_rfl) (by kernel_rfl) (by kernel_rfl) (fun _ _ _ h => h) (Or.inl ⟨by rfl, ?ha0⟩) (by assumption) ?ra0
  case ha0 => (intro w hSw; (try dsimp only at hSw); go_simp; try (with_reducible rfl))
  try simp only [Act.put, List.setIfInBounds_toArray, List.set_cons_zero, List.set_cons_succ]
  refine wpAnyH_take (i := 1) (oi := ({ dst := some 55, op := Op.load 24 (Operand.tmp 54), type := 24, pos := "expr.go:367", after := #[{ on := 0, ground := Ground.data }], guard := none } : Oper)) (v := ?va1) rfl (by kernel_rfl) (by kernel_rfl) (by kernel_rfl) (fun _ _ _ h => h) (Or.inl ⟨by rfl, ?ha1⟩) (by assumption) ?ra1
  case ha1 => (intro w hSw; (try dsimp only at hSw); go_simp; try (with_reducible rfl))
  try simp only [Act.put, List.setIfInBounds_toArray, List.set_cons_zero, List.set_cons_succ]
  refine wpAnyH_take (i := 2) (oi := ({ dst := some 56, op := Op.indexAddr 24 (Operand.tmp 55) (Operand.const (Value.int IntKind.i64 0)), type := 0, pos := "expr.go:367", after := #[{ on := 1, ground := Ground.data }], guard := none } : Oper)) (v := ?va2) rfl (by kernel_rfl) (by kernel_rfl) (by kernel_rfl) (fun _ _ _ h => h) (Or.inl ⟨by rfl, ?ha2⟩) (by assumption) ?ra2
  case ha2 => (intro w hSw; (try dsimp only at hSw); go_simp; try (with_reducible rfl))
  try simp only [Act.put, List.setIfInBounds_toArray, List.set_cons_zero, List.set_cons_succ]
  refine wpAnyH_take (i := 3) (oi := ({ dst := some 57, op := Op.load 58 (Operand.tmp 56), type := 58, pos := "expr.go:367", after := #[{ on := 2, ground := Ground.data }], guard := none } : Oper)) (v := ?va3) rfl (by kernel_rfl) (by kernel_rfl) (by kernel_rfl) (fun _ _ _ h => h) (Or.inl ⟨by rfl, ?ha3⟩) (by assumption) ?ra3
  case ha3 => (intro w hSw; (try dsimp only at hSw); go_simp; try (with_reducible rfl))
  try simp only [Act.put, List.setIfInBounds_toArray, List.set_cons_zero, List.set_cons_succ]
  refine wpAnyH_take (i := 5) (oi := ({ dst := some 59, op := Op.build 114 #[(0, Operand.const (Value.string { data := #[32, 73, 83, 32, 78, 85, 76, 76] })), (1, Operand.const (Value.string { data := #[32, 73, 83, 32, 78, 79, 84, 32, 78, 85, 76, 76] }))], type := 114, pos := "expr.go:367", after := #[], guard := none } : Oper)) (v := ?va5) rfl (by kernel_rfl) (by kernel_rfl) (by kernel_rfl) (fun _ _ _ h => h) (Or.inl ⟨by rfl, ?ha5⟩) (by assumption) ?ra5
  case ha5 => (intro w hSw; (try dsimp only at hSw); go_simp; try (with_reducible rfl))
  try simp only [Act.put, List.setIfInBounds_toArray, List.set_cons_zero, List.set_cons_succ]
  refine wpAnyH_take (i := 6) (oi := ({ dst := some 60, op := Op.fieldAddr 58 (Operand.tmp 1) 1, type := 0, pos := "expr.go:367", after := #[], guard := none } : Oper)) (v := ?va6) rfl (by kernel_rfl) (by kernel_rfl) (by kernel_rfl) (fun _ _ _ h => h) (Or.inl ⟨by rfl, ?ha6⟩) (by assumption) ?ra6
  case ha6 => (intro w hSw; (try dsimp only at hSw); go_simp; try (with_reducible rfl))
  try simp only [Act.put, List.setIfInBounds_toArray, List.set_cons_zero, List.set_cons_succ]
  refine wpAnyH_take (i := 7) (oi := ({ dst := some 61, op := Op.load 3 (Operand.tmp 60), type := 3, pos := "expr.go:367", after := #[{ on := 6, ground := Ground.data }], guard := none } : Oper)) (v := ?va7) rfl (by kernel_rfl) (by kernel_rfl) (by kernel_rfl) (fun _ _ _ h => h) (Or.inl ⟨by rfl, ?ha7⟩) (by assumption) ?ra7
  case ha7 => (intro w hSw; (try dsimp only at hSw); go_simp; try (with_reducible rfl))
  try simp only [Act.put, List.setIfInBounds_toArray, List.set_cons_zero, List.set_cons_succ]
  refine wpAnyH_take (i := 8) (oi := ({ dst := some 62, op := Op.index 114 (Operand.tmp 59) (Operand.tmp 61), type := 9, pos := "expr.go:367", after := #[{ on := 5, ground := Ground.data }, { on := 7, ground := Ground.data }], guard := none } : Oper)) (v := ?va8) rfl (by kernel_rfl) (by kernel_rfl) (by kernel_rfl) (fun _ _ _ h => h) (Or.inl ⟨by rfl, ?ha8⟩) (by assumption) ?ra8
  case ha8 => (intro w hSw; (try dsimp only at hSw); go_simp; try (with_reducible rfl))
  try simp only [Act.put, List.setIfInBounds_toArray, List.set_cons_zero, List.set_cons_succ]
  refine wpAnyH_ready (rs := [4]) (by kernel_rfl) (by simp) ?_
  refine AllReadyH.cons (o := ({ dst := some 58, op := Op.call { callee := Callee.value (Operand.func 62), args := #[Operand.tmp 57, Operand.const (Value.int IntKind.i64 5)], argTypes := #[58, 3] }, type := 9, pos := "expr.go:367", after := #[{ on := 3, ground := Ground.data }], guard := none } : Oper)) rfl (fun K hK => ?_) AllReadyH.nil
  go_simp
  refine (HK.out _ (HB2.out.trans ((Below.refl w2.heap.size w2).drew.mono HB2.out.size))).mono ?_
  rintro e w3 ⟨rfl, hb3⟩
  go_wp2_with fail
  refine hK.out _ _ (HS.out _ (below_step (Below.refl _ _).drew hb3)) (fun hHeld => ?_)
  clear hK K
  try simp only [Act.put, List.setIfInBounds_toArray, List.set_cons_zero, List.set_cons_succ]
  refine wpAnyH_take (i := 9) (oi := ({ dst := some 63, op := Op.binOp BinOp.add 9 (Operand.tmp 58) (Operand.tmp 62) 9, type := 9, pos := "expr.go:367", after := #[{ on := 4, ground := Ground.data }, { on := 8, ground := Ground.data }], guard := none } : Oper)) (v := ?va9) rfl (by kernel_rfl) (by kernel_rfl) (by kernel_rfl) (fun _ _ _ h => h) (Or.inl ⟨by rfl, ?ha9⟩) (by assumption) ?ra9
  case ha9 => (intro w hSw; (try dsimp only at hSw); go_simp; try (with_reducible rfl))
  try simp only [Act.put, List.setIfInBounds_toArray, List.set_cons_zero, List.set_cons_succ]
  refine wpAnyH_take (i := 10) (oi := ({ dst := some 2, op := Op.assign (Operand.tmp 63), type := 9, pos := "expr.go:367", after := #[{ on := 9, ground := Ground.data }, { on := 4, ground := Ground.chain }, { on := 0, ground := Ground.phase }, { on := 1, ground := Ground.phase }, { on := 2, ground := Ground.phase }, { on := 3, ground := Ground.phase }, { on := 4, ground := Ground.phase }, { on := 5, ground := Ground.phase }, { on := 6, ground := Ground.phase }, { on := 7, ground := Ground.phase }, { on := 8, ground := Ground.phase }, { on := 9, ground := Ground.phase }], guard := none } : Oper)) (v := ?va10) rfl (by kernel_rfl) (by kernel_rfl) (by kernel_rfl) (fun _ _ _ h => h) (Or.inl ⟨by rfl, ?ha10⟩) (by assumption) ?ra10
  case ha10 => (intro w hSw; (try dsimp only at hSw); go_simp; try (with_reducible rfl))
  try simp only [Act.put, List.setIfInBounds_toArray, List.set_cons_zero, List.set_cons_succ]
  refine wpAnyH_done (by kernel_rfl) ?_ _
  have HB3 : Asd (Below w.heap.size w _) := Asd.mk (HB2.out.trans (hHeld.2.2.2.2.2.2.2.2.2.2.2.2.mono HB2.out.size))
  clear hHeld HS
  go_wp2
  go_ret
  refine ⟨ret_eq ?_, HB3.out⟩
  show Value.string _ = _
  congr 1
set_option maxRecDepth 100000 in
set_option maxHeartbeats 12800000 in
theorem print_isnot (lit : Vl → List UInt8) (v : Vl) (tb nm : List UInt8) (col tp : Int) (P : Nat → Prop) (x : Ex) (A : Option Addr) (c : Nat) (w : World) (hok : okE x) (hp : PrintOK lit x) (hsz : (prE lit x).length ≤ 1099511627776) (hsh : PrW w) (hh : Held P w [x] (.slice A 1 c)) :
    Calls Tryz.prog 23 #[.agg #[.int .i64 7, .int .i64 1, .int .i64 v.kind, .int .i64 v.int, .string ⟨v.text.toArray⟩, .string ⟨tb.toArray⟩, .string ⟨nm.toArray⟩, .int .i64 col, .int .i64 tp, .slice A 1 c]] w (PrintR (brT 5 (lnE x, prE lit x) ++ [32, 73, 83, 32, 78, 79, 84, 32, 78, 85, 76, 76]) w) := by
  obtain ⟨g, o, A1, n1, c1, he1, hr1, hh1⟩ := held_at hh 0 (by simp)
  simp only [List.getElem_cons_zero] at hr1 hh1
  cases he1
  have HR := Asd.mk hr1
  have hgl := World.block_lt_of_cell? w _ (hr1 0 (by omega))
  have HK := Asd.mk (fun W (hb : Below w.heap.size w W) => brack_calls lit x P (.slice A1 n1 c1) 5 W hok hp hsz (prw_below hsh hb) (held_below hh1 hb))
  have hbl : (brT 5 (lnE x, prE lit x)).length ≤ 1099511627778 := by unfold brT; split <;> simp <;> omega
  generalize brT 5 (lnE x, prE lit x) = bt at HK hbl ⊢
  unfold exV at HK
  clear hok hp hsz hsh hh hr1 hh1
  have hs2 : (⟨bt.toArray⟩ : ByteArray).size ≤ 1099511627778 := by show bt.toArray.size ≤ _; simpa using hbl
  have hix : ∀ W, (Instr.index 114 (.agg #[.string ⟨#[32, 73, 83, 32, 78, 85, 76, 76]⟩, .string ⟨#[32, 73, 83, 32, 78, 79, 84, 32, 78, 85, 76, 76]⟩]) (.int .i64 1)).run Tryz.prog W = .ok (.string ⟨#[32, 73, 83, 32, 78, 79, 84, 32, 78, 85, 76, 76]⟩) W := fun _ => by kernel_rfl
  have HB : Asd (Below w.heap.size w (w.alloc (.cells #[.int .i64 7, .int .i64 1, .int .i64 v.kind, .int .i64 v.int, .string ⟨v.text.toArray⟩, .string ⟨tb.toArray⟩, .string ⟨nm.toArray⟩, .int .i64 col, .int .i64 tp, .slice (some ⟨g, o, none⟩) 1 c] 58 (0, 0)))) := Asd.mk (below_alloc (Below.refl _ w) _)
  have HN := Asd.mk (blk_new w (.cells #[.int .i64 7, .int .i64 1, .int .i64 v.kind, .int .i64 v.int, .string ⟨v.text.toArray⟩, .string ⟨tb.toArray⟩, .string ⟨nm.toArray⟩, .int .i64 col, .int .i64 tp, .slice (some ⟨g, o, none⟩) 1 c] 58 (0, 0)))
  have HL : Asd (∀ W, Calls Tryz.prog 60 #[.agg #[.int .i64 7, .int .i64 1, .int .i64 v.kind, .int .i64 v.int, .string ⟨v.text.toArray⟩, .string ⟨tb.toArray⟩, .string ⟨nm.toArray⟩, .int .i64 col, .int .i64 tp, .slice (some ⟨g, o, none⟩) 1 c]] W (LineR 4 W)) := Asd.mk (fun W => line_tab v.kind v.int col tp ⟨v.text.toArray⟩ ⟨tb.toArray⟩ ⟨nm.toArray⟩ (some ⟨g, o, none⟩) c W (7, 1, 1, 4) (by simp [lineTab]))
  go_enter Tryz.func23, Tryz.ntmps23
  go_upto_region 1 with fail
  generalize (w.alloc (.cells #[.int .i64 7, .int .i64 1, .int .i64 v.kind, .int .i64 v.int, .string ⟨v.text.toArray⟩, .string ⟨tb.toArray⟩, .string ⟨nm.toArray⟩, .int .i64 col, .int .i64 tp, .slice (some ⟨g, o, none⟩) 1 c] 58 (0, 0))) = w1 at HB HN ⊢
  have e0 := (blk_cell HN.out 0).trans rfl
  have e1 := (blk_cell HN.out 1).trans rfl
  have e2 := (blk_cell HN.out 2).trans rfl
  have e3 := (blk_cell HN.out 3).trans rfl
  have e4 := (blk_cell HN.out 4).trans rfl
  have e5 := (blk_cell HN.out 5).trans rfl
  have e6 := (blk_cell HN.out 6).trans rfl
  have e7 := (blk_cell HN.out 7).trans rfl
  have e8 := (blk_cell HN.out 8).trans rfl
  have e9 := (blk_cell HN.out 9).trans rfl
  go_wp2_with fail
  refine (HL.out w1).mono ?_
  rintro e w2 ⟨rfl, hb2⟩
  have HB2 : Asd (Below w.heap.size w w2) := Asd.mk (HB.out.trans (hb2.mono HB.out.size))
  have HN2 := Asd.mk (blk_below hb2 HN.out)
  clear hb2 e0 e1 e2 e3 e4 e5 e6 e7 e8 e9
  have e0 := (blk_cell HN2.out 0).trans rfl
  have e1 := (blk_cell HN2.out 1).trans rfl
  have e2 := (blk_cell HN2.out 2).trans rfl
  have e3 := (blk_cell HN2.out 3).trans rfl
  have e4 := (blk_cell HN2.out 4).trans rfl
  have e5 := (blk_cell HN2.out 5).trans rfl
  have e6 := (blk_cell HN2.out 6).trans rfl
  have e7 := (blk_cell HN2.out 7).trans rfl
  have e8 := (blk_cell HN2.out 8).trans rfl
  have e9 := (blk_cell HN2.out 9).trans rfl
  have hr1 := HR.out.below HB2.out
  have y0 : w2.cell? ⟨g, o, none⟩ = some (.int .i64 x.kind) := hr1 0 (by omega)
  have y1 : w2.cell? ⟨g, o + 1, none⟩ = some (.int .i64 x.op) := hr1 1 (by omega)
  have y2 : w2.cell? ⟨g, o + 2, none⟩ = some (.int .i64 x.v.kind) := hr1 2 (by omega)
  have y3 : w2.cell? ⟨g, o + 3, none⟩ = some (.int .i64 x.v.int) := hr1 3 (by omega)
  have y4 : w2.cell? ⟨g, o + 4, none⟩ = some (.string ⟨x.v.text.toArray⟩) := hr1 4 (by omega)
  have y5 : w2.cell? ⟨g, o + 5, none⟩ = some (.string ⟨x.table.toArray⟩) := hr1 5 (by omega)
  have y6 : w2.cell? ⟨g, o + 6, none⟩ = some (.string ⟨x.name.toArray⟩) := hr1 6 (by omega)
  have y7 : w2.cell? ⟨g, o + 7, none⟩ = some (.int .i64 x.col) := hr1 7 (by omega)
  have y8 : w2.cell? ⟨g, o + 8, none⟩ = some (.int .i64 x.ty) := hr1 8 (by omega)
  have y9 : w2.cell? ⟨g, o + 9, none⟩ = some (.slice A1 n1 c1) := hr1 9 (by omega)
  have HS : Asd (∀ w', Below w2.heap.size w2 w' → w'.cell? ⟨w.heap.size, 1, none⟩ = some (.int .i64 1) ∧ w'.cell? ⟨w.heap.size, 9, none⟩ = some (.slice (some ⟨g, o, none⟩) 1 c) ∧ w'.cell? ⟨g, o, none⟩ = some (.int .i64 x.kind) ∧ w'.cell? ⟨g, o + 1, none⟩ = some (.int .i64 x.op) ∧ w'.cell? ⟨g, o + 2, none⟩ = some (.int .i64 x.v.kind) ∧ w'.cell? ⟨g, o + 3, none⟩ = some (.int .i64 x.v.int) ∧ w'.cell? ⟨g, o + 4, none⟩ = some (.string ⟨x.v.text.toArray⟩) ∧ w'.cell? ⟨g, o + 5, none⟩ = some (.string ⟨x.table.toArray⟩) ∧ w'.cell? ⟨g, o + 6, none⟩ = some (.string ⟨x.name.toArray⟩) ∧ w'.cell? ⟨g, o + 7, none⟩ = some (.int .i64 x.col) ∧ w'.cell? ⟨g, o + 8, none⟩ = some (.int .i64 x.ty) ∧ w'.cell? ⟨g, o + 9, none⟩ = some (.slice A1 n1 c1) ∧ Below w2.heap.size w2 w') := Asd.mk fun w' h => ⟨(h.cell (World.block_lt_of_cell? w2 _ e1)).trans e1, (h.cell (World.block_lt_of_cell? w2 _ e9)).trans e9, (h.cell (World.block_lt_of_cell? w2 _ y0)).trans y0, (h.cell (World.block_lt_of_cell? w2 _ y1)).trans y1, (h.cell (World.block_lt_of_cell? w2 _ y2)).trans y2, (h.cell (World.block_lt_of_cell? w2 _ y3)).trans y3, (h.cell (World.block_lt_of_cell? w2 _ y4)).trans y4, (h.cell (World.block_lt_of_cell? w2 _ y5)).trans y5, (h.cell (World.block_lt_of_cell? w2 _ y6)).trans y6, (h.cell (World.block_lt_of_cell? w2 _ y7)).trans y7, (h.cell (World.block_lt_of_cell? w2 _ y8)).trans y8, (h.cell (World.block_lt_of_cell? w2 _ y9)).trans y9, h⟩
  clear hr1
  have hcc : ¬ 9223372036854775807 < bt.length + 12 := by omega
  go_upto_region 17 with fail
  refine wp_region_held_drew (S := fun w' => w'.cell? ⟨w.heap.size, 1, none⟩ = some (.int .i64 1) ∧ w'.cell? ⟨w.heap.size, 9, none⟩ = some (.slice (some ⟨g, o, none⟩) 1 c) ∧ w'.cell? ⟨g, o, none⟩ = some (.int .i64 x.kind) ∧ w'.cell? ⟨g, o + 1, none⟩ = some (.int .i64 x.op) ∧ w'.cell? ⟨g, o + 2, none⟩ = some (.int .i64 x.v.kind) ∧ w'.cell? ⟨g, o + 3, none⟩ = some (.int .i64 x.v.int) ∧ w'.cell? ⟨g, o + 4, none⟩ = some (.string ⟨x.v.text.toArray⟩) ∧ w'.cell? ⟨g, o + 5, none⟩ = some (.string ⟨x.table.toArray⟩) ∧ w'.cell? ⟨g, o + 6, none⟩ = some (.string ⟨x.name.toArray⟩) ∧ w'.cell? ⟨g, o + 7, none⟩ = some (.int .i64 x.col) ∧ w'.cell? ⟨g, o + 8, none⟩ = some (.int .i64 x.ty) ∧ w'.cell? ⟨g, o + 9, none⟩ = some (.slice A1 n1 c1) ∧ Below w2.heap.size w2 w') (by kernel_rfl) (HS.out _ (Below.refl _ _).drew) (fun hHeld => ?_)
  refine wpAnyH_take (i := 0) (oi := ({ dst := some 54, op := Op.fieldAddr 58 (Operand.tmp 1) 7, type := 0, pos := "expr.go:367", after := #[], guard := none } : Oper)) (v := ?va0) rfl (by kernel_rfl) (by kernel_rfl) (by kernel_rfl) (fun _ _ _ h => h) (Or.inl ⟨by rfl, ?ha0⟩) (by assumption) ?ra0
  case ha0 => (intro w hSw; (try dsimp only at hSw); go_simp; try (with_reducible rfl))
  try simp only [Act.put, List.setIfInBounds_toArray, List.set_cons_zero, List.set_cons_succ]
  refine wpAnyH_take (i := 1) (oi := ({ dst := some 55, op := Op.load 24 (Operand.tmp 54), type := 24, pos := "expr.go:367", after := #[{ on := 0, ground := Ground.data }], guard := none } : Oper)) (v := ?va1) rfl (by kernel_rfl) (by kernel_rfl) (by kernel_rfl) (fun _ _ _ h => h) (Or.inl ⟨by rfl, ?ha1⟩) (by assumption) ?ra1
  case ha1 => (intro w hSw; (try dsimp only at hSw); go_simp; try (with_reducible rfl))
  try simp only [Act.put, List.setIfInBounds_toArray, List.set_cons_zero, List.set_cons_succ]
  refine wpAnyH_take (i := 2) (oi := ({ dst := some 56, op := Op.indexAddr 24 (Operand.tmp 55) (Operand.const (Value.int IntKind.i64 0)), type := 0, pos := "expr.go:367", after := #[{ on := 1, ground := Ground.data }], guard := none } : Oper)) (v := ?va2) rfl (by kernel_rfl) (by kernel_rfl) (by kernel_rfl) (fun _ _ _ h => h) (Or.inl ⟨by rfl, ?ha2⟩) (by assumption) ?ra2
  case ha2 => (intro w hSw; (try dsimp only at hSw); go_simp; try (with_reducible rfl))
  try simp only [Act.put, List.setIfInBounds_toArray, List.set_cons_zero, List.set_cons_succ]
  refine wpAnyH_take (i := 3) (oi := ({ dst := some 57, op := Op.load 58 (Operand.tmp 56), type := 58, pos := "expr.go:367", after := #[{ on := 2, ground := Ground.data }], guard := none } : Oper)) (v := ?va3) rfl (by kernel_rfl) (by kernel_rfl) (by kernel_rfl) (fun _ _ _ h => h) (Or.inl ⟨by rfl, ?ha3⟩) (by assumption) ?ra3
  case ha3 => (intro w hSw; (try dsimp only at hSw); go_simp; try (with_reducible rfl))
  try simp only [Act.put, List.setIfInBounds_toArray, List.set_cons_zero, List.set_cons_succ]
  refine wpAnyH_take (i := 5) (oi := ({ dst := some 59, op := Op.build 114 #[(0, Operand.const (Value.string { data := #[32, 73, 83, 32, 78, 85, 76, 76] })), (1, Operand.const (Value.string { data := #[32, 73, 83, 32, 78, 79, 84, 32, 78, 85, 76, 76] }))], type := 114, pos := "expr.go:367", after := #[], guard := none } : Oper)) (v := ?va5) rfl (by kernel_rfl) (by kernel_rfl) (by kernel_rfl) (fun _ _ _ h => h) (Or.inl ⟨by rfl, ?ha5⟩) (by assumption) ?ra5
  case ha5 => (intro w hSw; (try dsimp only at hSw); go_simp; try (with_reducible rfl))
  try simp only [Act.put, List.setIfInBounds_toArray, List.set_cons_zero, List.set_cons_succ]
  refine wpAnyH_take (i := 6) (oi := ({ dst := some 60, op := Op.fieldAddr 58 (Operand.tmp 1) 1, type := 0, pos := "expr.go:367", after := #[], guard := none } : Oper)) (v := ?va6) rfl (by kernel_rfl) (by kernel_rfl) (by kernel_rfl) (fun _ _ _ h => h) (Or.inl ⟨by rfl, ?ha6⟩) (by assumption) ?ra6
  case ha6 => (intro w hSw; (try dsimp only at hSw); go_simp; try (with_reducible rfl))
  try simp only [Act.put, List.setIfInBounds_toArray, List.set_cons_zero, List.set_cons_succ]
  refine wpAnyH_take (i := 7) (oi := ({ dst := some 61, op := Op.load 3 (Operand.tmp 60), type := 3, pos := "expr.go:367", after := #[{ on := 6, ground := Ground.data }], guard := none } : Oper)) (v := ?va7) rfl (by kernel_rfl) (by kernel_rfl) (by kernel_rfl) (fun _ _ _ h => h) (Or.inl ⟨by rfl, ?ha7⟩) (by assumption) ?ra7
  case ha7 => (intro w hSw; (try dsimp only at hSw); go_simp; try (with_reducible rfl))
  try simp only [Act.put, List.setIfInBounds_toArray, List.set_cons_zero, List.set_cons_succ]
  refine wpAnyH_take (i := 8) (oi := ({ dst := some 62, op := Op.index 114 (Operand.tmp 59) (Operand.tmp 61), type := 9, pos := "expr.go:367", after := #[{ on := 5, ground := Ground.data }, { on := 7, ground := Ground.data }], guard := none } : Oper)) (v := ?va8) rfl (by kernel_rfl) (by kernel_rfl) (by kernel_rfl) (fun _ _ _ h => h) (Or.inl ⟨by rfl, ?ha8⟩) (by assumption) ?ra8
  case ha8 => (intro w hSw; (try dsimp only at hSw); go_simp; try (with_reducible rfl))
  try simp only [Act.put, List.setIfInBounds_toArray, List.set_cons_zero, List.set_cons_succ]
  refine wpAnyH_ready (rs := [4]) (by kernel_rfl) (by simp) ?_
  refine AllReadyH.cons (o := ({ dst := some 58, op := Op.call { callee := Callee.value (Operand.func 62), args := #[Operand.tmp 57, Operand.const (Value.int IntKind.i64 5)], argTypes := #[58, 3] }, type := 9, pos := "expr.go:367", after := #[{ on := 3, ground := Ground.data }], guard := none } : Oper)) rfl (fun K hK => ?_) AllReadyH.nil
  go_simp
  refine (HK.out _ (HB2.out.trans ((Below.refl w2.heap.size w2).drew.mono HB2.out.size))).mono ?_
  rintro e w3 ⟨rfl, hb3⟩
  go_wp2_with fail
  refine hK.out _ _ (HS.out _ (below_step (Below.refl _ _).drew hb3)) (fun hHeld => ?_)
  clear hK K
  try simp only [Act.put, List.setIfInBounds_toArray, List.set_cons_zero, List.set_cons_succ]
  refine wpAnyH_take (i := 9) (oi := ({ dst := some 63, op := Op.binOp BinOp.add 9 (Operand.tmp 58) (Operand.tmp 62) 9, type := 9, pos := "expr.go:367", after := #[{ on := 4, ground := Ground.data }, { on := 8, ground := Ground.data }], guard := none } : Oper)) (v := ?va9) rfl (by kernel_rfl) (by kernel_rfl) (by kernel_rfl) (fun _ _ _ h => h) (Or.inl ⟨by rfl, ?ha9⟩) (by assumption) ?ra9
  case ha9 => (intro w hSw; (try dsimp only at hSw); go_simp; try (with_reducible rfl))
  try simp only [Act.put, List.setIfInBounds_toArray, List.set_cons_zero, List.set_cons_succ]
  refine wpAnyH_take (i := 10) (oi := ({ dst := some 2, op := Op.assign (Operand.tmp 63), type := 9, pos := "expr.go:367", after := #[{ on := 9, ground := Ground.data }, { on := 4, ground := Ground.chain }, { on := 0, ground := Ground.phase }, { on := 1, ground := Ground.phase }, { on := 2, ground := Ground.phase }, { on := 3, ground := Ground.phase }, { on := 4, ground := Ground.phase }, { on := 5, ground := Ground.phase }, { on := 6, ground := Ground.phase }, { on := 7, ground := Ground.phase }, { on := 8, ground := Ground.phase }, { on := 9, ground := Ground.phase }], guard := none } : Oper)) (v := ?va10) rfl (by kernel_rfl) (by kernel_rfl) (by kernel_rfl) (fun _ _ _ h => h) (Or.inl ⟨by rfl, ?ha10⟩) (by assumption) ?ra10
  case ha10 => (intro w hSw; (try dsimp only at hSw); go_simp; try (with_reducible rfl))
  try simp only [Act.put, List.setIfInBounds_toArray, List.set_cons_zero, List.set_cons_succ]
  refine wpAnyH_done (by kernel_rfl) ?_ _
  have HB3 : Asd (Below w.heap.size w _) := Asd.mk (HB2.out.trans (hHeld.2.2.2.2.2.2.2.2.2.2.2.2.mono HB2.out.size))
  clear hHeld HS
  go_wp2
  go_ret
  refine ⟨ret_eq ?_, HB3.out⟩
  show Value.string _ = _
  congr 1
end Go.Proofs.YtcefmhofidoloaaGreatDoor.Exp

/- expr.Print of pairs. -/
set_option linter.unusedVariables false
set_option linter.unusedSimpArgs false
namespace Go.Proofs.YtcefmhofidoloaaGreatDoor.Exp
open Go.RowKit Go.Proofs.YtcefmhofidoloaaGreatDoor.Base Go.Proofs.YtcefmhofidoloaaGreatDoor.App Go.Proofs.YtcefmhofidoloaaGreatDoor.Byt Go.Proofs.YtcefmhofidoloaaGreatDoor.Lex

theorem bcat (a b : List UInt8) : (⟨a.toArray⟩ : ByteArray) ++ ⟨b.toArray⟩ = ⟨(a ++ b).toArray⟩ := by
  apply ByteArray.ext
  rw [ByteArray.data_append]
  simp
theorem cat5 (a b c : List UInt8) : Value.string ((((((⟨a.toArray⟩ : ByteArray) ++ ⟨#[32]⟩) ++ ⟨b.toArray⟩) ++ ⟨#[32]⟩) ++ ⟨c.toArray⟩)) = Value.string ⟨(a ++ [32] ++ b ++ [32] ++ c).toArray⟩ := by
  rw [show (⟨#[32]⟩ : ByteArray) = ⟨([32] : List UInt8).toArray⟩ from rfl, bcat, bcat, bcat, bcat]
set_option maxRecDepth 100000 in
theorem sign_index (o : Nat) (h : 3 ≤ o) (h' : o ≤ 16) (W : World) : (Instr.index 117 (.agg #[.string ⟨#[]⟩, .string ⟨#[]⟩, .string ⟨#[]⟩, .string ⟨#[79, 82]⟩, .string ⟨#[65, 78, 68]⟩, .string ⟨#[61]⟩, .string ⟨#[60, 62]⟩, .string ⟨#[60]⟩, .string ⟨#[60, 61]⟩, .string ⟨#[62]⟩, .string ⟨#[62, 61]⟩, .string ⟨#[43]⟩, .string ⟨#[45]⟩, .string ⟨#[42]⟩, .string ⟨#[47]⟩, .string ⟨#[37]⟩, .string ⟨#[124, 124]⟩]) (.int .i64 (o : Nat))).run Tryz.prog W = .ok (.string ⟨(opT.getD o []).toArray⟩) W := by
  have hc : o = 3 ∨ o = 4 ∨ o = 5 ∨ o = 6 ∨ o = 7 ∨ o = 8 ∨ o = 9 ∨ o = 10 ∨ o = 11 ∨ o = 12 ∨ o = 13 ∨ o = 14 ∨ o = 15 ∨ o = 16 := by omega
  clear h h'
  rcases hc with rfl | rfl | rfl | rfl | rfl | rfl | rfl | rfl | rfl | rfl | rfl | rfl | rfl | rfl
  all_goals
    first | rfl | (show _ = _; kernel_rfl)
set_option maxRecDepth 100000 in
set_option maxHeartbeats 12800000 in
theorem print_pair (lit : Vl → List UInt8) (v : Vl) (tb nm : List UInt8) (col tp : Int) (o : Nat) (h3 : 3 ≤ o) (h16 : o ≤ 16) (P : Nat → Prop) (x y : Ex) (A : Option Addr) (c : Nat) (w : World) (hokx : okE x) (hoky : okE y) (hpx : PrintOK lit x) (hpy : PrintOK lit y) (hszx : (prE lit x).length ≤ 1099511627776) (hszy : (prE lit y).length ≤ 1099511627776) (hsh : PrW w) (hh : Held P w [x, y] (.slice A 2 c)) :
    Calls Tryz.prog 23 #[.agg #[.int .i64 4, .int .i64 (o : Nat), .int .i64 v.kind, .int .i64 v.int, .string ⟨v.text.toArray⟩, .string ⟨tb.toArray⟩, .string ⟨nm.toArray⟩, .int .i64 col, .int .i64 tp, .slice A 2 c]] w (PrintR (brT (if pairLn o = 4 then 5 else pairLn o) (lnE x, prE lit x) ++ [32] ++ opT.getD o [] ++ [32] ++ brT (pairLn o + 1) (lnE y, prE lit y)) w) := by
  obtain ⟨g, p, A1, n1, c1, he1, hr1, hh1⟩ := held_at hh 0 (by simp)
  obtain ⟨g', p', A2, n2, c2, he2, hr2, hh2⟩ := held_at hh 1 (by simp)
  cases he1
  cases he2
  simp only [List.getElem_cons_zero, List.getElem_cons_succ] at hr1 hh1 hr2 hh2
  have HR1 := Asd.mk hr1
  have HR2 := Asd.mk hr2
  have hgl := World.block_lt_of_cell? w _ (hr1 0 (by omega))
  have HIX := sign_index o h3 h16
  have hpl : 1 ≤ pairLn o ∧ pairLn o ≤ 7 := by
    have : ∀ j : Fin 17, 3 ≤ j.val → 1 ≤ pairLn j.val ∧ pairLn j.val ≤ 7 := by decide
    exact this ⟨o, by omega⟩ h3
  have hos : (opT.getD o []).length ≤ 2 ∨ (opT.getD o []).length = 3 := by have := opT_len o; omega
  have HKX := Asd.mk (fun W (hb : Below w.heap.size w W) (l : Int) => brack_calls lit x P (.slice A1 n1 c1) l W hokx hpx hszx (prw_below hsh hb) (held_below hh1 hb))
  have HKY := Asd.mk (fun W (hb : Below w.heap.size w W) (l : Int) => brack_calls lit y P (.slice A2 n2 c2) l W hoky hpy hszy (prw_below hsh hb) (held_below hh2 hb))
  have hblx : ∀ l, (brT l (lnE x, prE lit x)).length ≤ 1099511627778 := fun l => by unfold brT; split <;> simp <;> omega
  have hbly : ∀ l, (brT l (lnE y, prE lit y)).length ≤ 1099511627778 := fun l => by unfold brT; split <;> simp <;> omega
  have HB : Asd (Below w.heap.size w (w.alloc (.cells #[.int .i64 4, .int .i64 (o : Nat), .int .i64 v.kind, .int .i64 v.int, .string ⟨v.text.toArray⟩, .string ⟨tb.toArray⟩, .string ⟨nm.toArray⟩, .int .i64 col, .int .i64 tp, .slice (some ⟨g, p, none⟩) 2 c] 58 (0, 0)))) := Asd.mk (below_alloc (Below.refl _ w) _)
  have HN := Asd.mk (blk_new w (.cells #[.int .i64 4, .int .i64 (o : Nat), .int .i64 v.kind, .int .i64 v.int, .string ⟨v.text.toArray⟩, .string ⟨tb.toArray⟩, .string ⟨nm.toArray⟩, .int .i64 col, .int .i64 tp, .slice (some ⟨g, p, none⟩) 2 c] 58 (0, 0)))
  have HL : Asd (∀ W, Calls Tryz.prog 60 #[.agg #[.int .i64 4, .int .i64 (o : Nat), .int .i64 v.kind, .int .i64 v.int, .string ⟨v.text.toArray⟩, .string ⟨tb.toArray⟩, .string ⟨nm.toArray⟩, .int .i64 col, .int .i64 tp, .slice (some ⟨g, p, none⟩) 2 c]] W (LineR (pairLn o) W)) := Asd.mk (fun W => line_pair v.kind v.int col tp ⟨v.text.toArray⟩ ⟨tb.toArray⟩ ⟨nm.toArray⟩ (some ⟨g, p, none⟩) c o h3 h16 W)
  generalize opT.getD o [] = ot at HIX hos ⊢
  generalize pairLn o = L at HL HKX HKY hpl ⊢
  clear h3 h16 hokx hoky hpx hpy hszx hszy hsh hh hr1 hr2 hh1 hh2
  have hs3 : (⟨ot.toArray⟩ : ByteArray).size ≤ 3 := by show ot.toArray.size ≤ _; simp; omega
  have HKX := Asd.mk (fun W hb => HKX.out W hb (if L = 4 then 5 else L))
  have HKY := Asd.mk (fun W hb => HKY.out W hb (L + 1))
  have hblx := hblx (if L = 4 then 5 else L)
  have hbly := hbly (L + 1)
  generalize brT (if L = 4 then 5 else L) (lnE x, prE lit x) = bx at HKX hblx ⊢
  generalize brT (L + 1) (lnE y, prE lit y) = bq at HKY hbly ⊢
  unfold exV at HKX HKY
  have hs1 : (⟨bx.toArray⟩ : ByteArray).size ≤ 1099511627778 := by show bx.toArray.size ≤ _; simpa using hblx
  have hs2 : (⟨bq.toArray⟩ : ByteArray).size ≤ 1099511627778 := by show bq.toArray.size ≤ _; simpa using hbly
  have hc1 : ¬ 9223372036854775807 < bx.length + 1 := by omega
  have hc2 : ¬ 9223372036854775807 < bx.length + 1 + ot.length := by omega
  have hc3 : ¬ 9223372036854775807 < bx.length + 1 + ot.length + 1 := by omega
  have hc4 : ¬ 9223372036854775807 < bx.length + 1 + ot.length + 1 + bq.length := by omega
  have hl1 : (L == 0) = false := by rw [beq_eq_false_iff_ne]; omega
  have hl3 : (0 : Int) ≤ L := by omega
  have hl2 : L ≤ 7 := by omega
  have hwr : IntKind.i64.wrap (L + 1) = L + 1 := by rw [IntKind.wrap_i64]; omega
  clear hpl
  go_enter Tryz.func23, Tryz.ntmps23
  go_upto_region 1 with fail
  generalize (w.alloc (.cells #[.int .i64 4, .int .i64 (o : Nat), .int .i64 v.kind, .int .i64 v.int, .string ⟨v.text.toArray⟩, .string ⟨tb.toArray⟩, .string ⟨nm.toArray⟩, .int .i64 col, .int .i64 tp, .slice (some ⟨g, p, none⟩) 2 c] 58 (0, 0))) = w1 at HB HN ⊢
  have e0 := (blk_cell HN.out 0).trans rfl
  have e1 := (blk_cell HN.out 1).trans rfl
  have e2 := (blk_cell HN.out 2).trans rfl
  have e3 := (blk_cell HN.out 3).trans rfl
  have e4 := (blk_cell HN.out 4).trans rfl
  have e5 := (blk_cell HN.out 5).trans rfl
  have e6 := (blk_cell HN.out 6).trans rfl
  have e7 := (blk_cell HN.out 7).trans rfl
  have e8 := (blk_cell HN.out 8).trans rfl
  have e9 := (blk_cell HN.out 9).trans rfl
  go_wp2_with fail
  refine (HL.out w1).mono ?_
  rintro e w2 ⟨rfl, hb2⟩
  have HB2 : Asd (Below w.heap.size w w2) := Asd.mk (HB.out.trans (hb2.mono HB.out.size))
  have HN2 := Asd.mk (blk_below hb2 HN.out)
  clear hb2 e0 e1 e2 e3 e4 e5 e6 e7 e8 e9
  have e0 := (blk_cell HN2.out 0).trans rfl
  have e1 := (blk_cell HN2.out 1).trans rfl
  have e2 := (blk_cell HN2.out 2).trans rfl
  have e3 := (blk_cell HN2.out 3).trans rfl
  have e4 := (blk_cell HN2.out 4).trans rfl
  have e5 := (blk_cell HN2.out 5).trans rfl
  have e6 := (blk_cell HN2.out 6).trans rfl
  have e7 := (blk_cell HN2.out 7).trans rfl
  have e8 := (blk_cell HN2.out 8).trans rfl
  have e9 := (blk_cell HN2.out 9).trans rfl
  have hr1 := HR1.out.below HB2.out
  have hr2 := HR2.out.below HB2.out
  have y0 : w2.cell? ⟨g, p, none⟩ = some (.int .i64 x.kind) := hr1 0 (by omega)
  have y1 : w2.cell? ⟨g, p + 1, none⟩ = some (.int .i64 x.op) := hr1 1 (by omega)
  have y2 : w2.cell? ⟨g, p + 2, none⟩ = some (.int .i64 x.v.kind) := hr1 2 (by omega)
  have y3 : w2.cell? ⟨g, p + 3, none⟩ = some (.int .i64 x.v.int) := hr1 3 (by omega)
  have y4 : w2.cell? ⟨g, p + 4, none⟩ = some (.string ⟨x.v.text.toArray⟩) := hr1 4 (by omega)
  have y5 : w2.cell? ⟨g, p + 5, none⟩ = some (.string ⟨x.table.toArray⟩) := hr1 5 (by omega)
  have y6 : w2.cell? ⟨g, p + 6, none⟩ = some (.string ⟨x.name.toArray⟩) := hr1 6 (by omega)
  have y7 : w2.cell? ⟨g, p + 7, none⟩ = some (.int .i64 x.col) := hr1 7 (by omega)
  have y8 : w2.cell? ⟨g, p + 8, none⟩ = some (.int .i64 x.ty) := hr1 8 (by omega)
  have y9 : w2.cell? ⟨g, p + 9, none⟩ = some (.slice A1 n1 c1) := hr1 9 (by omega)
  have z0 : w2.cell? ⟨g, p + 10, none⟩ = some (.int .i64 y.kind) := hr2 0 (by omega)
  have z1 : w2.cell? ⟨g, p + 10 + 1, none⟩ = some (.int .i64 y.op) := hr2 1 (by omega)
  have z2 : w2.cell? ⟨g, p + 10 + 2, none⟩ = some (.int .i64 y.v.kind) := hr2 2 (by omega)
  have z3 : w2.cell? ⟨g, p + 10 + 3, none⟩ = some (.int .i64 y.v.int) := hr2 3 (by omega)
  have z4 : w2.cell? ⟨g, p + 10 + 4, none⟩ = some (.string ⟨y.v.text.toArray⟩) := hr2 4 (by omega)
  have z5 : w2.cell? ⟨g, p + 10 + 5, none⟩ = some (.string ⟨y.table.toArray⟩) := hr2 5 (by omega)
  have z6 : w2.cell? ⟨g, p + 10 + 6, none⟩ = some (.string ⟨y.name.toArray⟩) := hr2 6 (by omega)
  have z7 : w2.cell? ⟨g, p + 10 + 7, none⟩ = some (.int .i64 y.col) := hr2 7 (by omega)
  have z8 : w2.cell? ⟨g, p + 10 + 8, none⟩ = some (.int .i64 y.ty) := hr2 8 (by omega)
  have z9 : w2.cell? ⟨g, p + 10 + 9, none⟩ = some (.slice A2 n2 c2) := hr2 9 (by omega)
  have HS : Asd (∀ w', Below w2.heap.size w2 w' → w'.cell? ⟨w.heap.size, 9, none⟩ = some (.slice (some ⟨g, p, none⟩) 2 c) ∧ w'.cell? ⟨g, p, none⟩ = some (.int .i64 x.kind) ∧ w'.cell? ⟨g, p + 1, none⟩ = some (.int .i64 x.op) ∧ w'.cell? ⟨g, p + 2, none⟩ = some (.int .i64 x.v.kind) ∧ w'.cell? ⟨g, p + 3, none⟩ = some (.int .i64 x.v.int) ∧ w'.cell? ⟨g, p + 4, none⟩ = some (.string ⟨x.v.text.toArray⟩) ∧ w'.cell? ⟨g, p + 5, none⟩ = some (.string ⟨x.table.toArray⟩) ∧ w'.cell? ⟨g, p + 6, none⟩ = some (.string ⟨x.name.toArray⟩) ∧ w'.cell? ⟨g, p + 7, none⟩ = some (.int .i64 x.col) ∧ w'.cell? ⟨g, p + 8, none⟩ = some (.int .i64 x.ty) ∧ w'.cell? ⟨g, p + 9, none⟩ = some (.slice A1 n1 c1) ∧ w'.cell? ⟨g, p + 10, none⟩ = some (.int .i64 y.kind) ∧ w'.cell? ⟨g, p + 10 + 1, none⟩ = some (.int .i64 y.op) ∧ w'.cell? ⟨g, p + 10 + 2, none⟩ = some (.int .i64 y.v.kind) ∧ w'.cell? ⟨g, p + 10 + 3, none⟩ = some (.int .i64 y.v.int) ∧ w'.cell? ⟨g, p + 10 + 4, none⟩ = some (.string ⟨y.v.text.toArray⟩) ∧ w'.cell? ⟨g, p + 10 + 5, none⟩ = some (.string ⟨y.table.toArray⟩) ∧ w'.cell? ⟨g, p + 10 + 6, none⟩ = some (.string ⟨y.name.toArray⟩) ∧ w'.cell? ⟨g, p + 10 + 7, none⟩ = some (.int .i64 y.col) ∧ w'.cell? ⟨g, p + 10 + 8, none⟩ = some (.int .i64 y.ty) ∧ w'.cell? ⟨g, p + 10 + 9, none⟩ = some (.slice A2 n2 c2) ∧ Below w2.heap.size w2 w') := Asd.mk fun w' h => ⟨(h.cell (World.block_lt_of_cell? w2 _ e9)).trans e9, (h.cell (World.block_lt_of_cell? w2 _ y0)).trans y0, (h.cell (World.block_lt_of_cell? w2 _ y1)).trans y1, (h.cell (World.block_lt_of_cell? w2 _ y2)).trans y2, (h.cell (World.block_lt_of_cell? w2 _ y3)).trans y3, (h.cell (World.block_lt_of_cell? w2 _ y4)).trans y4, (h.cell (World.block_lt_of_cell? w2 _ y5)).trans y5, (h.cell (World.block_lt_of_cell? w2 _ y6)).trans y6, (h.cell (World.block_lt_of_cell? w2 _ y7)).trans y7, (h.cell (World.block_lt_of_cell? w2 _ y8)).trans y8, (h.cell (World.block_lt_of_cell? w2 _ y9)).trans y9, (h.cell (World.block_lt_of_cell? w2 _ z0)).trans z0, (h.cell (World.block_lt_of_cell? w2 _ z1)).trans z1, (h.cell (World.block_lt_of_cell? w2 _ z2)).trans z2, (h.cell (World.block_lt_of_cell? w2 _ z3)).trans z3, (h.cell (World.block_lt_of_cell? w2 _ z4)).trans z4, (h.cell (World.block_lt_of_cell? w2 _ z5)).trans z5, (h.cell (World.block_lt_of_cell? w2 _ z6)).trans z6, (h.cell (World.block_lt_of_cell? w2 _ z7)).trans z7, (h.cell (World.block_lt_of_cell? w2 _ z8)).trans z8, (h.cell (World.block_lt_of_cell? w2 _ z9)).trans z9, h⟩
  clear hr1 hr2
  by_cases h4 : L = 4
  · subst h4
    rw [if_pos rfl] at HKX
    clear hl1 hl2 hl3 hwr
    go_upto_region 29 with fail
    refine wp_region_held_drew (S := fun w' => w'.cell? ⟨w.heap.size, 9, none⟩ = some (.slice (some ⟨g, p, none⟩) 2 c) ∧ w'.cell? ⟨g, p, none⟩ = some (.int .i64 x.kind) ∧ w'.cell? ⟨g, p + 1, none⟩ = some (.int .i64 x.op) ∧ w'.cell? ⟨g, p + 2, none⟩ = some (.int .i64 x.v.kind) ∧ w'.cell? ⟨g, p + 3, none⟩ = some (.int .i64 x.v.int) ∧ w'.cell? ⟨g, p + 4, none⟩ = some (.string ⟨x.v.text.toArray⟩) ∧ w'.cell? ⟨g, p + 5, none⟩ = some (.string ⟨x.table.toArray⟩) ∧ w'.cell? ⟨g, p + 6, none⟩ = some (.string ⟨x.name.toArray⟩) ∧ w'.cell? ⟨g, p + 7, none⟩ = some (.int .i64 x.col) ∧ w'.cell? ⟨g, p + 8, none⟩ = some (.int .i64 x.ty) ∧ w'.cell? ⟨g, p + 9, none⟩ = some (.slice A1 n1 c1) ∧ w'.cell? ⟨g, p + 10, none⟩ = some (.int .i64 y.kind) ∧ w'.cell? ⟨g, p + 10 + 1, none⟩ = some (.int .i64 y.op) ∧ w'.cell? ⟨g, p + 10 + 2, none⟩ = some (.int .i64 y.v.kind) ∧ w'.cell? ⟨g, p + 10 + 3, none⟩ = some (.int .i64 y.v.int) ∧ w'.cell? ⟨g, p + 10 + 4, none⟩ = some (.string ⟨y.v.text.toArray⟩) ∧ w'.cell? ⟨g, p + 10 + 5, none⟩ = some (.string ⟨y.table.toArray⟩) ∧ w'.cell? ⟨g, p + 10 + 6, none⟩ = some (.string ⟨y.name.toArray⟩) ∧ w'.cell? ⟨g, p + 10 + 7, none⟩ = some (.int .i64 y.col) ∧ w'.cell? ⟨g, p + 10 + 8, none⟩ = some (.int .i64 y.ty) ∧ w'.cell? ⟨g, p + 10 + 9, none⟩ = some (.slice A2 n2 c2) ∧ Below w2.heap.size w2 w') (by kernel_rfl) (HS.out _ (Below.refl _ _).drew) (fun hHeld => ?_)
    refine wpAnyH_take (i := 0) (oi := ({ dst := some 96, op := Op.fieldAddr 58 (Operand.tmp 1) 7, type := 0, pos := "expr.go:382", after := #[], guard := none } : Oper)) (v := ?va0) rfl (by kernel_rfl) (by kernel_rfl) (by kernel_rfl) (fun _ _ _ h => h) (Or.inl ⟨by rfl, ?ha0⟩) (by assumption) ?ra0
    case ha0 => (intro w hSw; (try dsimp only at hSw); go_simp; try (with_reducible rfl))
    try simp only [Act.put, List.setIfInBounds_toArray, List.set_cons_zero, List.set_cons_succ]
    refine wpAnyH_take (i := 1) (oi := ({ dst := some 97, op := Op.load 24 (Operand.tmp 96), type := 24, pos := "expr.go:382", after := #[{ on := 0, ground := Ground.data }], guard := none } : Oper)) (v := ?va1) rfl (by kernel_rfl) (by kernel_rfl) (by kernel_rfl) (fun _ _ _ h => h) (Or.inl ⟨by rfl, ?ha1⟩) (by assumption) ?ra1
    case ha1 => (intro w hSw; (try dsimp only at hSw); go_simp; try (with_reducible rfl))
    try simp only [Act.put, List.setIfInBounds_toArray, List.set_cons_zero, List.set_cons_succ]
    refine wpAnyH_take (i := 2) (oi := ({ dst := some 98, op := Op.indexAddr 24 (Operand.tmp 97) (Operand.const (Value.int IntKind.i64 0)), type := 0, pos := "expr.go:382", after := #[{ on := 1, ground := Ground.data }], guard := none } : Oper)) (v := ?va2) rfl (by kernel_rfl) (by kernel_rfl) (by kernel_rfl) (fun _ _ _ h => h) (Or.inl ⟨by rfl, ?ha2⟩) (by assumption) ?ra2
    case ha2 => (intro w hSw; (try dsimp only at hSw); go_simp; try (with_reducible rfl))
    try simp only [Act.put, List.setIfInBounds_toArray, List.set_cons_zero, List.set_cons_succ]
    refine wpAnyH_take (i := 3) (oi := ({ dst := some 99, op := Op.load 58 (Operand.tmp 98), type := 58, pos := "expr.go:382", after := #[{ on := 2, ground := Ground.data }], guard := none } : Oper)) (v := ?va3) rfl (by kernel_rfl) (by kernel_rfl) (by kernel_rfl) (fun _ _ _ h => h) (Or.inl ⟨by rfl, ?ha3⟩) (by assumption) ?ra3
    case ha3 => (intro w hSw; (try dsimp only at hSw); go_simp; try (with_reducible rfl))
    try simp only [Act.put, List.setIfInBounds_toArray, List.set_cons_zero, List.set_cons_succ]
    refine wpAnyH_take (i := 4) (oi := ({ dst := some 100, op := Op.move (Operand.tmp 6), type := 3, pos := "expr.go:382", after := #[], guard := none } : Oper)) (v := ?va4) rfl (by kernel_rfl) (by kernel_rfl) (by kernel_rfl) (fun _ _ _ h => h) (Or.inl ⟨by rfl, ?ha4⟩) (by assumption) ?ra4
    case ha4 => (intro w hSw; (try dsimp only at hSw); go_simp; try (with_reducible rfl))
    try simp only [Act.put, List.setIfInBounds_toArray, List.set_cons_zero, List.set_cons_succ]
    refine wpAnyH_take (i := 7) (oi := ({ dst := some 103, op := Op.move (Operand.tmp 7), type := 9, pos := "expr.go:382", after := #[], guard := none } : Oper)) (v := ?va7) rfl (by kernel_rfl) (by kernel_rfl) (by kernel_rfl) (fun _ _ _ h => h) (Or.inl ⟨by rfl, ?ha7⟩) (by assumption) ?ra7
    case ha7 => (intro w hSw; (try dsimp only at hSw); go_simp; try (with_reducible rfl))
    try simp only [Act.put, List.setIfInBounds_toArray, List.set_cons_zero, List.set_cons_succ]
    refine wpAnyH_take (i := 10) (oi := ({ dst := some 106, op := Op.fieldAddr 58 (Operand.tmp 1) 7, type := 0, pos := "expr.go:382", after := #[], guard := none } : Oper)) (v := ?va10) rfl (by kernel_rfl) (by kernel_rfl) (by kernel_rfl) (fun _ _ _ h => h) (Or.inl ⟨by rfl, ?ha10⟩) (by assumption) ?ra10
    case ha10 => (intro w hSw; (try dsimp only at hSw); go_simp; try (with_reducible rfl))
    try simp only [Act.put, List.setIfInBounds_toArray, List.set_cons_zero, List.set_cons_succ]
    refine wpAnyH_take (i := 11) (oi := ({ dst := some 107, op := Op.load 24 (Operand.tmp 106), type := 24, pos := "expr.go:382", after := #[{ on := 10, ground := Ground.data }], guard := none } : Oper)) (v := ?va11) rfl (by kernel_rfl) (by kernel_rfl) (by kernel_rfl) (fun _ _ _ h => h) (Or.inl ⟨by rfl, ?ha11⟩) (by assumption) ?ra11
    case ha11 => (intro w hSw; (try dsimp only at hSw); go_simp; try (with_reducible rfl))
    try simp only [Act.put, List.setIfInBounds_toArray, List.set_cons_zero, List.set_cons_succ]
    refine wpAnyH_take (i := 12) (oi := ({ dst := some 108, op := Op.indexAddr 24 (Operand.tmp 107) (Operand.const (Value.int IntKind.i64 1)), type := 0, pos := "expr.go:382", after := #[{ on := 11, ground := Ground.data }], guard := none } : Oper)) (v := ?va12) rfl (by kernel_rfl) (by kernel_rfl) (by kernel_rfl) (fun _ _ _ h => h) (Or.inl ⟨by rfl, ?ha12⟩) (by assumption) ?ra12
    case ha12 => (intro w hSw; (try dsimp only at hSw); go_simp; try (with_reducible rfl))
    try simp only [Act.put, List.setIfInBounds_toArray, List.set_cons_zero, List.set_cons_succ]
    refine wpAnyH_take (i := 13) (oi := ({ dst := some 109, op := Op.load 58 (Operand.tmp 108), type := 58, pos := "expr.go:382", after := #[{ on := 12, ground := Ground.data }], guard := none } : Oper)) (v := ?va13) rfl (by kernel_rfl) (by kernel_rfl) (by kernel_rfl) (fun _ _ _ h => h) (Or.inl ⟨by rfl, ?ha13⟩) (by assumption) ?ra13
    case ha13 => (intro w hSw; (try dsimp only at hSw); go_simp; try (with_reducible rfl))
    try simp only [Act.put, List.setIfInBounds_toArray, List.set_cons_zero, List.set_cons_succ]
    refine wpAnyH_take (i := 14) (oi := ({ dst := some 110, op := Op.move (Operand.tmp 3), type := 3, pos := "expr.go:382", after := #[], guard := none } : Oper)) (v := ?va14) rfl (by kernel_rfl) (by kernel_rfl) (by kernel_rfl) (fun _ _ _ h => h) (Or.inl ⟨by rfl, ?ha14⟩) (by assumption) ?ra14
    case ha14 => (intro w hSw; (try dsimp only at hSw); go_simp; try (with_reducible rfl))
    try simp only [Act.put, List.setIfInBounds_toArray, List.set_cons_zero, List.set_cons_succ]
    refine wpAnyH_take (i := 15) (oi := ({ dst := some 111, op := Op.binOp BinOp.add 3 (Operand.tmp 110) (Operand.const (Value.int IntKind.i64 1)) 3, type := 3, pos := "expr.go:382", after := #[{ on := 14, ground := Ground.data }], guard := none } : Oper)) (v := ?va15) rfl (by kernel_rfl) (by kernel_rfl) (by kernel_rfl) (fun _ _ _ h => h) (Or.inl ⟨by rfl, ?ha15⟩) (by assumption) ?ra15
    case ha15 => (intro w hSw; (try dsimp only at hSw); go_simp; try (with_reducible rfl))
    try simp only [Act.put, List.setIfInBounds_toArray, List.set_cons_zero, List.set_cons_succ]
    refine wpAnyH_ready (rs := [5]) (by kernel_rfl) (by simp) ?_
    refine AllReadyH.cons (o := ({ dst := some 101, op := Op.call { callee := Callee.value (Operand.func 62), args := #[Operand.tmp 99, Operand.tmp 100], argTypes := #[58, 3] }, type := 9, pos := "expr.go:382", after := #[{ on := 3, ground := Ground.data }, { on := 4, ground := Ground.data }], guard := none } : Oper)) rfl (fun K hK => ?_) AllReadyH.nil
    go_simp
    refine (HKX.out _ (HB2.out.trans ((Below.refl w2.heap.size w2).drew.mono HB2.out.size))).mono ?_
    rintro e w3 ⟨rfl, hb3⟩
    go_wp2_with fail
    refine hK.out _ _ (HS.out _ (below_step (Below.refl _ _).drew hb3)) (fun hHeld => ?_)
    clear hK K
    try simp only [Act.put, List.setIfInBounds_toArray, List.set_cons_zero, List.set_cons_succ]
    refine wpAnyH_take (i := 6) (oi := ({ dst := some 102, op := Op.binOp BinOp.add 9 (Operand.tmp 101) (Operand.const (Value.string { data := #[32] })) 9, type := 9, pos := "expr.go:382", after := #[{ on := 5, ground := Ground.data }], guard := none } : Oper)) (v := ?va6) rfl (by kernel_rfl) (by kernel_rfl) (by kernel_rfl) (fun _ _ _ h => h) (Or.inl ⟨by rfl, ?ha6⟩) (by assumption) ?ra6
    case ha6 => (intro w hSw; (try dsimp only at hSw); go_simp; try (with_reducible rfl))
    try simp only [Act.put, List.setIfInBounds_toArray, List.set_cons_zero, List.set_cons_succ]
    refine wpAnyH_take (i := 8) (oi := ({ dst := some 104, op := Op.binOp BinOp.add 9 (Operand.tmp 102) (Operand.tmp 103) 9, type := 9, pos := "expr.go:382", after := #[{ on := 6, ground := Ground.data }, { on := 7, ground := Ground.data }], guard := none } : Oper)) (v := ?va8) rfl (by kernel_rfl) (by kernel_rfl) (by kernel_rfl) (fun _ _ _ h => h) (Or.inl ⟨by rfl, ?ha8⟩) (by assumption) ?ra8
    case ha8 => (intro w hSw; (try dsimp only at hSw); go_simp; try (with_reducible rfl))
    try simp only [Act.put, List.setIfInBounds_toArray, List.set_cons_zero, List.set_cons_succ]
    refine wpAnyH_take (i := 9) (oi := ({ dst := some 105, op := Op.binOp BinOp.add 9 (Operand.tmp 104) (Operand.const (Value.string { data := #[32] })) 9, type := 9, pos := "expr.go:382", after := #[{ on := 8, ground := Ground.data }], guard := none } : Oper)) (v := ?va9) rfl (by kernel_rfl) (by kernel_rfl) (by kernel_rfl) (fun _ _ _ h => h) (Or.inl ⟨by rfl, ?ha9⟩) (by assumption) ?ra9
    case ha9 => (intro w hSw; (try dsimp only at hSw); go_simp; try (with_reducible rfl))
    try simp only [Act.put, List.setIfInBounds_toArray, List.set_cons_zero, List.set_cons_succ]
    refine wpAnyH_ready (rs := [16]) (by kernel_rfl) (by simp) ?_
    refine AllReadyH.cons (o := ({ dst := some 112, op := Op.call { callee := Callee.value (Operand.func 62), args := #[Operand.tmp 109, Operand.tmp 111], argTypes := #[58, 3] }, type := 9, pos := "expr.go:382", after := #[{ on := 13, ground := Ground.data }, { on := 15, ground := Ground.data }, { on := 5, ground := Ground.chain }], guard := none } : Oper)) rfl (fun K hK => ?_) AllReadyH.nil
    go_simp
    refine (HKY.out _ (HB2.out.trans (hHeld.2.2.2.2.2.2.2.2.2.2.2.2.2.2.2.2.2.2.2.2.2.mono HB2.out.size))).mono ?_
    rintro e w4 ⟨rfl, hb4⟩
    go_wp2_with fail
    refine hK.out _ _ (HS.out _ (below_step hHeld.2.2.2.2.2.2.2.2.2.2.2.2.2.2.2.2.2.2.2.2.2 hb4)) (fun hHeld => ?_)
    clear hK K
    try simp only [Act.put, List.setIfInBounds_toArray, List.set_cons_zero, List.set_cons_succ]
    refine wpAnyH_take (i := 17) (oi := ({ dst := some 113, op := Op.binOp BinOp.add 9 (Operand.tmp 105) (Operand.tmp 112) 9, type := 9, pos := "expr.go:382", after := #[{ on := 9, ground := Ground.data }, { on := 16, ground := Ground.data }], guard := none } : Oper)) (v := ?va17) rfl (by kernel_rfl) (by kernel_rfl) (by kernel_rfl) (fun _ _ _ h => h) (Or.inl ⟨by rfl, ?ha17⟩) (by assumption) ?ra17
    case ha17 => (intro w hSw; (try dsimp only at hSw); go_simp; try (with_reducible rfl))
    try simp only [Act.put, List.setIfInBounds_toArray, List.set_cons_zero, List.set_cons_succ]
    refine wpAnyH_take (i := 18) (oi := ({ dst := some 2, op := Op.assign (Operand.tmp 113), type := 9, pos := "expr.go:382", after := #[{ on := 17, ground := Ground.data }, { on := 16, ground := Ground.chain }, { on := 0, ground := Ground.phase }, { on := 1, ground := Ground.phase }, { on := 2, ground := Ground.phase }, { on := 3, ground := Ground.phase }, { on := 4, ground := Ground.phase }, { on := 5, ground := Ground.phase }, { on := 6, ground := Ground.phase }, { on := 7, ground := Ground.phase }, { on := 8, ground := Ground.phase }, { on := 9, ground := Ground.phase }, { on := 10, ground := Ground.phase }, { on := 11, ground := Ground.phase }, { on := 12, ground := Ground.phase }, { on := 13, ground := Ground.phase }, { on := 14, ground := Ground.phase }, { on := 15, ground := Ground.phase }, { on := 16, ground := Ground.phase }, { on := 17, ground := Ground.phase }], guard := none } : Oper)) (v := ?va18) rfl (by kernel_rfl) (by kernel_rfl) (by kernel_rfl) (fun _ _ _ h => h) (Or.inl ⟨by rfl, ?ha18⟩) (by assumption) ?ra18
    case ha18 => (intro w hSw; (try dsimp only at hSw); go_simp; try (with_reducible rfl))
    try simp only [Act.put, List.setIfInBounds_toArray, List.set_cons_zero, List.set_cons_succ]
    refine wpAnyH_done (by kernel_rfl) ?_ _
    have HB3 : Asd (Below w.heap.size w _) := Asd.mk (HB2.out.trans (hHeld.2.2.2.2.2.2.2.2.2.2.2.2.2.2.2.2.2.2.2.2.2.mono HB2.out.size))
    clear hHeld HS
    go_wp2
    go_ret
    refine ⟨ret_eq ?_, HB3.out⟩
    exact cat5 bx ot bq
  · rw [if_neg h4] at HKX
    have h4' : (L == 4) = false := by rw [beq_eq_false_iff_ne]; exact h4
    go_upto_region 29 with fail
    refine wp_region_held_drew (S := fun w' => w'.cell? ⟨w.heap.size, 9, none⟩ = some (.slice (some ⟨g, p, none⟩) 2 c) ∧ w'.cell? ⟨g, p, none⟩ = some (.int .i64 x.kind) ∧ w'.cell? ⟨g, p + 1, none⟩ = some (.int .i64 x.op) ∧ w'.cell? ⟨g, p + 2, none⟩ = some (.int .i64 x.v.kind) ∧ w'.cell? ⟨g, p + 3, none⟩ = some (.int .i64 x.v.int) ∧ w'.cell? ⟨g, p + 4, none⟩ = some (.string ⟨x.v.text.toArray⟩) ∧ w'.cell? ⟨g, p + 5, none⟩ = some (.string ⟨x.table.toArray⟩) ∧ w'.cell? ⟨g, p + 6, none⟩ = some (.string ⟨x.name.toArray⟩) ∧ w'.cell? ⟨g, p + 7, none⟩ = some (.int .i64 x.col) ∧ w'.cell? ⟨g, p + 8, none⟩ = some (.int .i64 x.ty) ∧ w'.cell? ⟨g, p + 9, none⟩ = some (.slice A1 n1 c1) ∧ w'.cell? ⟨g, p + 10, none⟩ = some (.int .i64 y.kind) ∧ w'.cell? ⟨g, p + 10 + 1, none⟩ = some (.int .i64 y.op) ∧ w'.cell? ⟨g, p + 10 + 2, none⟩ = some (.int .i64 y.v.kind) ∧ w'.cell? ⟨g, p + 10 + 3, none⟩ = some (.int .i64 y.v.int) ∧ w'.cell? ⟨g, p + 10 + 4, none⟩ = some (.string ⟨y.v.text.toArray⟩) ∧ w'.cell? ⟨g, p + 10 + 5, none⟩ = some (.string ⟨y.table.toArray⟩) ∧ w'.cell? ⟨g, p + 10 + 6, none⟩ = some (.string ⟨y.name.toArray⟩) ∧ w'.cell? ⟨g, p + 10 + 7, none⟩ = some (.int .i64 y.col) ∧ w'.cell? ⟨g, p + 10 + 8, none⟩ = some (.int .i64 y.ty) ∧ w'.cell? ⟨g, p + 10 + 9, none⟩ = some (.slice A2 n2 c2) ∧ Below w2.heap.size w2 w') (by kernel_rfl) (HS.out _ (Below.refl _ _).drew) (fun hHeld => ?_)
    refine wpAnyH_take (i := 0) (oi := ({ dst := some 96, op := Op.fieldAddr 58 (Operand.tmp 1) 7, type := 0, pos := "expr.go:382", after := #[], guard := none } : Oper)) (v := ?vb0) rfl (by kernel_rfl) (by kernel_rfl) (by kernel_rfl) (fun _ _ _ h => h) (Or.inl ⟨by rfl, ?hb0⟩) (by assumption) ?rb0
    case hb0 => (intro w hSw; (try dsimp only at hSw); go_simp; try (with_reducible rfl))
    try simp only [Act.put, List.setIfInBounds_toArray, List.set_cons_zero, List.set_cons_succ]
    refine wpAnyH_take (i := 1) (oi := ({ dst := some 97, op := Op.load 24 (Operand.tmp 96), type := 24, pos := "expr.go:382", after := #[{ on := 0, ground := Ground.data }], guard := none } : Oper)) (v := ?vb1) rfl (by kernel_rfl) (by kernel_rfl) (by kernel_rfl) (fun _ _ _ h => h) (Or.inl ⟨by rfl, ?hb1⟩) (by assumption) ?rb1
    case hb1 => (intro w hSw; (try dsimp only at hSw); go_simp; try (with_reducible rfl))
    try simp only [Act.put, List.setIfInBounds_toArray, List.set_cons_zero, List.set_cons_succ]
    refine wpAnyH_take (i := 2) (oi := ({ dst := some 98, op := Op.indexAddr 24 (Operand.tmp 97) (Operand.const (Value.int IntKind.i64 0)), type := 0, pos := "expr.go:382", after := #[{ on := 1, ground := Ground.data }], guard := none } : Oper)) (v := ?vb2) rfl (by kernel_rfl) (by kernel_rfl) (by kernel_rfl) (fun _ _ _ h => h) (Or.inl ⟨by rfl, ?hb2⟩) (by assumption) ?rb2
    case hb2 => (intro w hSw; (try dsimp only at hSw); go_simp; try (with_reducible rfl))
    try simp only [Act.put, List.setIfInBounds_toArray, List.set_cons_zero, List.set_cons_succ]
    refine wpAnyH_take (i := 3) (oi := ({ dst := some 99, op := Op.load 58 (Operand.tmp 98), type := 58, pos := "expr.go:382", after := #[{ on := 2, ground := Ground.data }], guard := none } : Oper)) (v := ?vb3) rfl (by kernel_rfl) (by kernel_rfl) (by kernel_rfl) (fun _ _ _ h => h) (Or.inl ⟨by rfl, ?hb3⟩) (by assumption) ?rb3
    case hb3 => (intro w hSw; (try dsimp only at hSw); go_simp; try (with_reducible rfl))
    try simp only [Act.put, List.setIfInBounds_toArray, List.set_cons_zero, List.set_cons_succ]
    refine wpAnyH_take (i := 4) (oi := ({ dst := some 100, op := Op.move (Operand.tmp 6), type := 3, pos := "expr.go:382", after := #[], guard := none } : Oper)) (v := ?vb4) rfl (by kernel_rfl) (by kernel_rfl) (by kernel_rfl) (fun _ _ _ h => h) (Or.inl ⟨by rfl, ?hb4⟩) (by assumption) ?rb4
    case hb4 => (intro w hSw; (try dsimp only at hSw); go_simp; try (with_reducible rfl))
    try simp only [Act.put, List.setIfInBounds_toArray, List.set_cons_zero, List.set_cons_succ]
    refine wpAnyH_take (i := 7) (oi := ({ dst := some 103, op := Op.move (Operand.tmp 7), type := 9, pos := "expr.go:382", after := #[], guard := none } : Oper)) (v := ?vb7) rfl (by kernel_rfl) (by kernel_rfl) (by kernel_rfl) (fun _ _ _ h => h) (Or.inl ⟨by rfl, ?hb7⟩) (by assumption) ?rb7
    case hb7 => (intro w hSw; (try dsimp only at hSw); go_simp; try (with_reducible rfl))
    try simp only [Act.put, List.setIfInBounds_toArray, List.set_cons_zero, List.set_cons_succ]
    refine wpAnyH_take (i := 10) (oi := ({ dst := some 106, op := Op.fieldAddr 58 (Operand.tmp 1) 7, type := 0, pos := "expr.go:382", after := #[], guard := none } : Oper)) (v := ?vb10) rfl (by kernel_rfl) (by kernel_rfl) (by kernel_rfl) (fun _ _ _ h => h) (Or.inl ⟨by rfl, ?hb10⟩) (by assumption) ?rb10
    case hb10 => (intro w hSw; (try dsimp only at hSw); go_simp; try (with_reducible rfl))
    try simp only [Act.put, List.setIfInBounds_toArray, List.set_cons_zero, List.set_cons_succ]
    refine wpAnyH_take (i := 11) (oi := ({ dst := some 107, op := Op.load 24 (Operand.tmp 106), type := 24, pos := "expr.go:382", after := #[{ on := 10, ground := Ground.data }], guard := none } : Oper)) (v := ?vb11) rfl (by kernel_rfl) (by kernel_rfl) (by kernel_rfl) (fun _ _ _ h => h) (Or.inl ⟨by rfl, ?hb11⟩) (by assumption) ?rb11
    case hb11 => (intro w hSw; (try dsimp only at hSw); go_simp; try (with_reducible rfl))
    try simp only [Act.put, List.setIfInBounds_toArray, List.set_cons_zero, List.set_cons_succ]
    refine wpAnyH_take (i := 12) (oi := ({ dst := some 108, op := Op.indexAddr 24 (Operand.tmp 107) (Operand.const (Value.int IntKind.i64 1)), type := 0, pos := "expr.go:382", after := #[{ on := 11, ground := Ground.data }], guard := none } : Oper)) (v := ?vb12) rfl (by kernel_rfl) (by kernel_rfl) (by kernel_rfl) (fun _ _ _ h => h) (Or.inl ⟨by rfl, ?hb12⟩) (by assumption) ?rb12
    case hb12 => (intro w hSw; (try dsimp only at hSw); go_simp; try (with_reducible rfl))
    try simp only [Act.put, List.setIfInBounds_toArray, List.set_cons_zero, List.set_cons_succ]
    refine wpAnyH_take (i := 13) (oi := ({ dst := some 109, op := Op.load 58 (Operand.tmp 108), type := 58, pos := "expr.go:382", after := #[{ on := 12, ground := Ground.data }], guard := none } : Oper)) (v := ?vb13) rfl (by kernel_rfl) (by kernel_rfl) (by kernel_rfl) (fun _ _ _ h => h) (Or.inl ⟨by rfl, ?hb13⟩) (by assumption) ?rb13
    case hb13 => (intro w hSw; (try dsimp only at hSw); go_simp; try (with_reducible rfl))
    try simp only [Act.put, List.setIfInBounds_toArray, List.set_cons_zero, List.set_cons_succ]
    refine wpAnyH_take (i := 14) (oi := ({ dst := some 110, op := Op.move (Operand.tmp 3), type := 3, pos := "expr.go:382", after := #[], guard := none } : Oper)) (v := ?vb14) rfl (by kernel_rfl) (by kernel_rfl) (by kernel_rfl) (fun _ _ _ h => h) (Or.inl ⟨by rfl, ?hb14⟩) (by assumption) ?rb14
    case hb14 => (intro w hSw; (try dsimp only at hSw); go_simp; try (with_reducible rfl))
    try simp only [Act.put, List.setIfInBounds_toArray, List.set_cons_zero, List.set_cons_succ]
    refine wpAnyH_take (i := 15) (oi := ({ dst := some 111, op := Op.binOp BinOp.add 3 (Operand.tmp 110) (Operand.const (Value.int IntKind.i64 1)) 3, type := 3, pos := "expr.go:382", after := #[{ on := 14, ground := Ground.data }], guard := none } : Oper)) (v := ?vb15) rfl (by kernel_rfl) (by kernel_rfl) (by kernel_rfl) (fun _ _ _ h => h) (Or.inl ⟨by rfl, ?hb15⟩) (by assumption) ?rb15
    case hb15 => (intro w hSw; (try dsimp only at hSw); go_simp; try (with_reducible rfl))
    try simp only [Act.put, List.setIfInBounds_toArray, List.set_cons_zero, List.set_cons_succ]
    refine wpAnyH_ready (rs := [5]) (by kernel_rfl) (by simp) ?_
    refine AllReadyH.cons (o := ({ dst := some 101, op := Op.call { callee := Callee.value (Operand.func 62), args := #[Operand.tmp 99, Operand.tmp 100], argTypes := #[58, 3] }, type := 9, pos := "expr.go:382", after := #[{ on := 3, ground := Ground.data }, { on := 4, ground := Ground.data }], guard := none } : Oper)) rfl (fun K hK => ?_) AllReadyH.nil
    go_simp
    refine (HKX.out _ (HB2.out.trans ((Below.refl w2.heap.size w2).drew.mono HB2.out.size))).mono ?_
    rintro e w3 ⟨rfl, hb3⟩
    go_wp2_with fail
    refine hK.out _ _ (HS.out _ (below_step (Below.refl _ _).drew hb3)) (fun hHeld => ?_)
    clear hK K
    try simp only [Act.put, List.setIfInBounds_toArray, List.set_cons_zero, List.set_cons_succ]
    refine wpAnyH_take (i := 6) (oi := ({ dst := some 102, op := Op.binOp BinOp.add 9 (Operand.tmp 101) (Operand.const (Value.string { data := #[32] })) 9, type := 9, pos := "expr.go:382", after := #[{ on := 5, ground := Ground.data }], guard := none } : Oper)) (v := ?vb6) rfl (by kernel_rfl) (by kernel_rfl) (by kernel_rfl) (fun _ _ _ h => h) (Or.inl ⟨by rfl, ?hb6⟩) (by assumption) ?rb6
    case hb6 => (intro w hSw; (try dsimp only at hSw); go_simp; try (with_reducible rfl))
    try simp only [Act.put, List.setIfInBounds_toArray, List.set_cons_zero, List.set_cons_succ]
    refine wpAnyH_take (i := 8) (oi := ({ dst := some 104, op := Op.binOp BinOp.add 9 (Operand.tmp 102) (Operand.tmp 103) 9, type := 9, pos := "expr.go:382", after := #[{ on := 6, ground := Ground.data }, { on := 7, ground := Ground.data }], guard := none } : Oper)) (v := ?vb8) rfl (by kernel_rfl) (by kernel_rfl) (by kernel_rfl) (fun _ _ _ h => h) (Or.inl ⟨by rfl, ?hb8⟩) (by assumption) ?rb8
    case hb8 => (intro w hSw; (try dsimp only at hSw); go_simp; try (with_reducible rfl))
    try simp only [Act.put, List.setIfInBounds_toArray, List.set_cons_zero, List.set_cons_succ]
    refine wpAnyH_take (i := 9) (oi := ({ dst := some 105, op := Op.binOp BinOp.add 9 (Operand.tmp 104) (Operand.const (Value.string { data := #[32] })) 9, type := 9, pos := "expr.go:382", after := #[{ on := 8, ground := Ground.data }], guard := none } : Oper)) (v := ?vb9) rfl (by kernel_rfl) (by kernel_rfl) (by kernel_rfl) (fun _ _ _ h => h) (Or.inl ⟨by rfl, ?hb9⟩) (by assumption) ?rb9
    case hb9 => (intro w hSw; (try dsimp only at hSw); go_simp; try (with_reducible rfl))
    try simp only [Act.put, List.setIfInBounds_toArray, List.set_cons_zero, List.set_cons_succ]
    refine wpAnyH_ready (rs := [16]) (by kernel_rfl) (by simp) ?_
    refine AllReadyH.cons (o := ({ dst := some 112, op := Op.call { callee := Callee.value (Operand.func 62), args := #[Operand.tmp 109, Operand.tmp 111], argTypes := #[58, 3] }, type := 9, pos := "expr.go:382", after := #[{ on := 13, ground := Ground.data }, { on := 15, ground := Ground.data }, { on := 5, ground := Ground.chain }], guard := none } : Oper)) rfl (fun K hK => ?_) AllReadyH.nil
    go_simp
    refine (HKY.out _ (HB2.out.trans (hHeld.2.2.2.2.2.2.2.2.2.2.2.2.2.2.2.2.2.2.2.2.2.mono HB2.out.size))).mono ?_
    rintro e w4 ⟨rfl, hb4⟩
    go_wp2_with fail
    refine hK.out _ _ (HS.out _ (below_step hHeld.2.2.2.2.2.2.2.2.2.2.2.2.2.2.2.2.2.2.2.2.2 hb4)) (fun hHeld => ?_)
    clear hK K
    try simp only [Act.put, List.setIfInBounds_toArray, List.set_cons_zero, List.set_cons_succ]
    refine wpAnyH_take (i := 17) (oi := ({ dst := some 113, op := Op.binOp BinOp.add 9 (Operand.tmp 105) (Operand.tmp 112) 9, type := 9, pos := "expr.go:382", after := #[{ on := 9, ground := Ground.data }, { on := 16, ground := Ground.data }], guard := none } : Oper)) (v := ?vb17) rfl (by kernel_rfl) (by kernel_rfl) (by kernel_rfl) (fun _ _ _ h => h) (Or.inl ⟨by rfl, ?hb17⟩) (by assumption) ?rb17
    case hb17 => (intro w hSw; (try dsimp only at hSw); go_simp; try (with_reducible rfl))
    try simp only [Act.put, List.setIfInBounds_toArray, List.set_cons_zero, List.set_cons_succ]
    refine wpAnyH_take (i := 18) (oi := ({ dst := some 2, op := Op.assign (Operand.tmp 113), type := 9, pos := "expr.go:382", after := #[{ on := 17, ground := Ground.data }, { on := 16, ground := Ground.chain }, { on := 0, ground := Ground.phase }, { on := 1, ground := Ground.phase }, { on := 2, ground := Ground.phase }, { on := 3, ground := Ground.phase }, { on := 4, ground := Ground.phase }, { on := 5, ground := Ground.phase }, { on := 6, ground := Ground.phase }, { on := 7, ground := Ground.phase }, { on := 8, ground := Ground.phase }, { on := 9, ground := Ground.phase }, { on := 10, ground := Ground.phase }, { on := 11, ground := Ground.phase }, { on := 12, ground := Ground.phase }, { on := 13, ground := Ground.phase }, { on := 14, ground := Ground.phase }, { on := 15, ground := Ground.phase }, { on := 16, ground := Ground.phase }, { on := 17, ground := Ground.phase }], guard := none } : Oper)) (v := ?vb18) rfl (by kernel_rfl) (by kernel_rfl) (by kernel_rfl) (fun _ _ _ h => h) (Or.inl ⟨by rfl, ?hb18⟩) (by assumption) ?rb18
    case hb18 => (intro w hSw; (try dsimp only at hSw); go_simp; try (with_reducible rfl))
    try simp only [Act.put, List.setIfInBounds_toArray, List.set_cons_zero, List.set_cons_succ]
    refine wpAnyH_done (by kernel_rfl) ?_ _
    have HB3 : Asd (Below w.heap.size w _) := Asd.mk (HB2.out.trans (hHeld.2.2.2.2.2.2.2.2.2.2.2.2.2.2.2.2.2.2.2.2.2.mono HB2.out.size))
    clear hHeld HS
    go_wp2
    go_ret
    refine ⟨ret_eq ?_, HB3.out⟩
    exact cat5 bx ot bq
end Go.Proofs.YtcefmhofidoloaaGreatDoor.Exp

/- expr.Print of functions. -/
set_option linter.unusedVariables false
set_option linter.unusedSimpArgs false
namespace Go.Proofs.YtcefmhofidoloaaGreatDoor.Exp
open Go.RowKit Go.Proofs.YtcefmhofidoloaaGreatDoor.Base Go.Proofs.YtcefmhofidoloaaGreatDoor.App Go.Proofs.YtcefmhofidoloaaGreatDoor.Byt Go.Proofs.YtcefmhofidoloaaGreatDoor.Lex

set_option maxRecDepth 100000 in
theorem fn_index (o : Nat) (h : 1 ≤ o) (h' : o ≤ 6) (W : World) : (Instr.index 115 (.agg #[.string ⟨#[]⟩, .string ⟨#[76, 69, 78, 71, 84, 72]⟩, .string ⟨#[65, 66, 83]⟩, .string ⟨#[85, 80, 80, 69, 82]⟩, .string ⟨#[76, 79, 87, 69, 82]⟩, .string ⟨#[83, 85, 66, 83, 84, 82]⟩, .string ⟨#[67, 79, 65, 76, 69, 83, 67, 69]⟩]) (.int .i64 (o : Nat))).run Tryz.prog W = .ok (.string ⟨(fnT.getD o []).toArray⟩) W := by
  have hc : o = 1 ∨ o = 2 ∨ o = 3 ∨ o = 4 ∨ o = 5 ∨ o = 6 := by omega
  clear h h'
  rcases hc with rfl | rfl | rfl | rfl | rfl | rfl
  all_goals
    first | rfl | (show _ = _; kernel_rfl)
set_option maxRecDepth 100000 in
theorem ag_index (o : Nat) (h : 1 ≤ o) (h' : o ≤ 4) (W : World) : (Instr.index 116 (.agg #[.string ⟨#[]⟩, .string ⟨#[67, 79, 85, 78, 84]⟩, .string ⟨#[83, 85, 77]⟩, .string ⟨#[77, 73, 78]⟩, .string ⟨#[77, 65, 88]⟩]) (.int .i64 (o : Nat))).run Tryz.prog W = .ok (.string ⟨(agT.getD o []).toArray⟩) W := by
  have hc : o = 1 ∨ o = 2 ∨ o = 3 ∨ o = 4 := by omega
  clear h h'
  rcases hc with rfl | rfl | rfl | rfl
  all_goals
    first | rfl | (show _ = _; kernel_rfl)
set_option maxRecDepth 100000 in
set_option maxHeartbeats 12800000 in
theorem print_star (v : Vl) (tb nm : List UInt8) (col tp : Int) (A : Option Addr) (c : Nat) (w : World) :
    Calls Tryz.prog 23 #[.agg #[.int .i64 6, .int .i64 1, .int .i64 v.kind, .int .i64 v.int, .string ⟨v.text.toArray⟩, .string ⟨tb.toArray⟩, .string ⟨nm.toArray⟩, .int .i64 col, .int .i64 tp, .slice A 0 c]] w (PrintR [67, 79, 85, 78, 84, 40, 42, 41] w) := by
  have hmf := mk_func
  have hix : ∀ W, (Instr.index 116 (.agg #[.string ⟨#[]⟩, .string ⟨#[67, 79, 85, 78, 84]⟩, .string ⟨#[83, 85, 77]⟩, .string ⟨#[77, 73, 78]⟩, .string ⟨#[77, 65, 88]⟩]) (.int .i64 1)).run Tryz.prog W = .ok (.string ⟨#[67, 79, 85, 78, 84]⟩) W := fun _ => by kernel_rfl
  have HB : Asd (Below w.heap.size w (w.alloc (.cells #[.int .i64 6, .int .i64 1, .int .i64 v.kind, .int .i64 v.int, .string ⟨v.text.toArray⟩, .string ⟨tb.toArray⟩, .string ⟨nm.toArray⟩, .int .i64 col, .int .i64 tp, .slice A 0 c] 58 (0, 0)))) := Asd.mk (below_alloc (Below.refl _ w) _)
  have HN := Asd.mk (blk_new w (.cells #[.int .i64 6, .int .i64 1, .int .i64 v.kind, .int .i64 v.int, .string ⟨v.text.toArray⟩, .string ⟨tb.toArray⟩, .string ⟨nm.toArray⟩, .int .i64 col, .int .i64 tp, .slice A 0 c] 58 (0, 0)))
  have HL : Asd (∀ W, Calls Tryz.prog 60 #[.agg #[.int .i64 6, .int .i64 1, .int .i64 v.kind, .int .i64 v.int, .string ⟨v.text.toArray⟩, .string ⟨tb.toArray⟩, .string ⟨nm.toArray⟩, .int .i64 col, .int .i64 tp, .slice A 0 c]] W (LineR 9 W)) := Asd.mk (fun W => line_tab v.kind v.int col tp ⟨v.text.toArray⟩ ⟨tb.toArray⟩ ⟨nm.toArray⟩ A c W (6, 1, 0, 9) (by simp [lineTab]))
  go_enter Tryz.func23, Tryz.ntmps23
  go_upto_region 1 with fail
  generalize (w.alloc (.cells #[.int .i64 6, .int .i64 1, .int .i64 v.kind, .int .i64 v.int, .string ⟨v.text.toArray⟩, .string ⟨tb.toArray⟩, .string ⟨nm.toArray⟩, .int .i64 col, .int .i64 tp, .slice A 0 c] 58 (0, 0))) = w1 at HB HN ⊢
  have e0 := (blk_cell HN.out 0).trans rfl
  have e1 := (blk_cell HN.out 1).trans rfl
  have e2 := (blk_cell HN.out 2).trans rfl
  have e3 := (blk_cell HN.out 3).trans rfl
  have e4 := (blk_cell HN.out 4).trans rfl
  have e5 := (blk_cell HN.out 5).trans rfl
  have e6 := (blk_cell HN.out 6).trans rfl
  have e7 := (blk_cell HN.out 7).trans rfl
  have e8 := (blk_cell HN.out 8).trans rfl
  have e9 := (blk_cell HN.out 9).trans rfl
  go_wp2_with fail
  refine (HL.out w1).mono ?_
  rintro e w2 ⟨rfl, hb2⟩
  have HB2 : Asd (Below w.heap.size w w2) := Asd.mk (HB.out.trans (hb2.mono HB.out.size))
  have HN2 := Asd.mk (blk_below hb2 HN.out)
  clear hb2 e0 e1 e2 e3 e4 e5 e6 e7 e8 e9
  have e0 := (blk_cell HN2.out 0).trans rfl
  have e1 := (blk_cell HN2.out 1).trans rfl
  have e2 := (blk_cell HN2.out 2).trans rfl
  have e3 := (blk_cell HN2.out 3).trans rfl
  have e4 := (blk_cell HN2.out 4).trans rfl
  have e5 := (blk_cell HN2.out 5).trans rfl
  have e6 := (blk_cell HN2.out 6).trans rfl
  have e7 := (blk_cell HN2.out 7).trans rfl
  have e8 := (blk_cell HN2.out 8).trans rfl
  have e9 := (blk_cell HN2.out 9).trans rfl
  go_wp2
  go_ret
  exact ⟨rfl, HB2.out⟩
set_option maxRecDepth 100000 in
set_option maxHeartbeats 12800000 in
theorem print_agg (lit : Vl → List UInt8) (v : Vl) (tb nm : List UInt8) (col tp : Int) (o : Nat) (h1 : 1 ≤ o) (h4 : o ≤ 4) (P : Nat → Prop) (es : List Ex) (A : Option Addr) (c : Nat) (w : World) (hn : es.length = 1) (hp : ∀ i (h : i < es.length), PrintOK lit es[i]) (hsz : (allT (prL lit es)).length ≤ 1099511627776) (hsh : PrW w) (hh : Held P w es (.slice A es.length c)) :
    Calls Tryz.prog 23 #[.agg #[.int .i64 6, .int .i64 (o : Nat), .int .i64 v.kind, .int .i64 v.int, .string ⟨v.text.toArray⟩, .string ⟨tb.toArray⟩, .string ⟨nm.toArray⟩, .int .i64 col, .int .i64 tp, .slice A 1 c]] w (PrintR (agT.getD o [] ++ allT (prL lit es)) w) := by
  have hmf := mk_func
  have hcf : ∀ (args : Array Value) (w : World), (callFunc 61 args).run Tryz.prog w = .ok (.enter 61 args) w := isGo_of Tryz.func61 (by decide) rfl
  have hix := ag_index o h1 h4
  have hc : o = 1 ∨ o = 2 ∨ o = 3 ∨ o = 4 := by omega
  have hos := agT_len o
  have hjl : (Lib.join ((prL lit es).map (·.2)) [44, 32]).length ≤ 1099511627776 := by
    have := hsz
    unfold allT at this
    simp only [List.length_append, List.length_cons, List.length_nil] at this
    omega
  have HK := Asd.mk (fun W (hb : Below w.heap.size w W) (hE : W.cell? ⟨w.heap.size, 9, none⟩ = some (.slice A es.length c)) => all_calls lit es P w.heap.size A c W hE (held_below hh hb) hp (by omega) hjl (prw_below hsh hb))
  have hat : (⟨(allT (prL lit es)).toArray⟩ : ByteArray).size ≤ 1099511627776 := by show (allT (prL lit es)).toArray.size ≤ _; simpa using hsz
  have hatl := hsz
  generalize allT (prL lit es) = at' at HK hat hatl ⊢
  rw [hn] at HK
  clear hp hsz hsh hh hjl hn
  have HB : Asd (Below w.heap.size w (w.alloc (.cells #[.int .i64 6, .int .i64 (o : Nat), .int .i64 v.kind, .int .i64 v.int, .string ⟨v.text.toArray⟩, .string ⟨tb.toArray⟩, .string ⟨nm.toArray⟩, .int .i64 col, .int .i64 tp, .slice A 1 c] 58 (0, 0)))) := Asd.mk (below_alloc (Below.refl _ w) _)
  have HN := Asd.mk (blk_new w (.cells #[.int .i64 6, .int .i64 (o : Nat), .int .i64 v.kind, .int .i64 v.int, .string ⟨v.text.toArray⟩, .string ⟨tb.toArray⟩, .string ⟨nm.toArray⟩, .int .i64 col, .int .i64 tp, .slice A 1 c] 58 (0, 0)))
  have HL : Asd (∀ W, Calls Tryz.prog 60 #[.agg #[.int .i64 6, .int .i64 (o : Nat), .int .i64 v.kind, .int .i64 v.int, .string ⟨v.text.toArray⟩, .string ⟨tb.toArray⟩, .string ⟨nm.toArray⟩, .int .i64 col, .int .i64 tp, .slice A 1 c]] W (LineR 9 W)) := Asd.mk (fun W => line_tab v.kind v.int col tp ⟨v.text.toArray⟩ ⟨tb.toArray⟩ ⟨nm.toArray⟩ A c W (6, (o : Int), 1, 9) (by rcases hc with rfl | rfl | rfl | rfl <;> simp [lineTab]))
  clear hc h1 h4
  generalize agT.getD o [] = ot at hix hos ⊢
  have hs3 : (⟨ot.toArray⟩ : ByteArray).size ≤ 8 := by show ot.toArray.size ≤ _; simpa using hos
  go_enter Tryz.func23, Tryz.ntmps23
  go_upto_region 1 with fail
  generalize (w.alloc (.cells #[.int .i64 6, .int .i64 (o : Nat), .int .i64 v.kind, .int .i64 v.int, .string ⟨v.text.toArray⟩, .string ⟨tb.toArray⟩, .string ⟨nm.toArray⟩, .int .i64 col, .int .i64 tp, .slice A 1 c] 58 (0, 0))) = w1 at HB HN ⊢
  have e0 := (blk_cell HN.out 0).trans rfl
  have e1 := (blk_cell HN.out 1).trans rfl
  have e2 := (blk_cell HN.out 2).trans rfl
  have e3 := (blk_cell HN.out 3).trans rfl
  have e4 := (blk_cell HN.out 4).trans rfl
  have e5 := (blk_cell HN.out 5).trans rfl
  have e6 := (blk_cell HN.out 6).trans rfl
  have e7 := (blk_cell HN.out 7).trans rfl
  have e8 := (blk_cell HN.out 8).trans rfl
  have e9 := (blk_cell HN.out 9).trans rfl
  go_wp2_with fail
  refine (HL.out w1).mono ?_
  rintro e w2 ⟨rfl, hb2⟩
  have HB2 : Asd (Below w.heap.size w w2) := Asd.mk (HB.out.trans (hb2.mono HB.out.size))
  have HN2 := Asd.mk (blk_below hb2 HN.out)
  clear hb2 e0 e1 e2 e3 e4 e5 e6 e7 e8 e9
  have e0 := (blk_cell HN2.out 0).trans rfl
  have e1 := (blk_cell HN2.out 1).trans rfl
  have e2 := (blk_cell HN2.out 2).trans rfl
  have e3 := (blk_cell HN2.out 3).trans rfl
  have e4 := (blk_cell HN2.out 4).trans rfl
  have e5 := (blk_cell HN2.out 5).trans rfl
  have e6 := (blk_cell HN2.out 6).trans rfl
  have e7 := (blk_cell HN2.out 7).trans rfl
  have e8 := (blk_cell HN2.out 8).trans rfl
  have e9 := (blk_cell HN2.out 9).trans rfl
  go_wp2_with fail
  refine (HK.out w2 HB2.out e9).mono ?_
  rintro e w3 ⟨rfl, hb3⟩
  have HB3 := Asd.mk (HB2.out.trans (hb3.mono HB2.out.size))
  clear hb3 e0 e1 e2 e3 e4 e5 e6 e7 e8 e9
  go_wp2
  go_ret
  refine ⟨ret_eq ?_, HB3.out⟩
  show Value.string _ = _
  congr 1
set_option maxRecDepth 100000 in
set_option maxHeartbeats 12800000 in
theorem print_call (lit : Vl → List UInt8) (v : Vl) (tb nm : List UInt8) (col tp : Int) (o : Nat) (h1 : 1 ≤ o) (h6 : o ≤ 6) (P : Nat → Prop) (es : List Ex) (A : Option Addr) (c : Nat) (w : World) (hn : es.length = opn o) (hp : ∀ i (h : i < es.length), PrintOK lit es[i]) (hsz : (allT (prL lit es)).length ≤ 1099511627776) (hsh : PrW w) (hh : Held P w es (.slice A es.length c)) :
    Calls Tryz.prog 23 #[.agg #[.int .i64 5, .int .i64 (o : Nat), .int .i64 v.kind, .int .i64 v.int, .string ⟨v.text.toArray⟩, .string ⟨tb.toArray⟩, .string ⟨nm.toArray⟩, .int .i64 col, .int .i64 tp, .slice A (opn o) c]] w (PrintR (fnT.getD o [] ++ allT (prL lit es)) w) := by
  have hmf := mk_func
  have hcf : ∀ (args : Array Value) (w : World), (callFunc 61 args).run Tryz.prog w = .ok (.enter 61 args) w := isGo_of Tryz.func61 (by decide) rfl
  have hix := fn_index o h1 h6
  have hos := fnT_len o
  have hop : opn o ≤ 1000 := by
    have : ∀ j : Fin 7, opn j.val ≤ 1000 := by decide
    exact this ⟨o, by omega⟩
  have hjl : (Lib.join ((prL lit es).map (·.2)) [44, 32]).length ≤ 1099511627776 := by
    have := hsz
    unfold allT at this
    simp only [List.length_append, List.length_cons, List.length_nil] at this
    omega
  have HK := Asd.mk (fun W (hb : Below w.heap.size w W) (hE : W.cell? ⟨w.heap.size, 9, none⟩ = some (.slice A es.length c)) => all_calls lit es P w.heap.size A c W hE (held_below hh hb) hp (by omega) hjl (prw_below hsh hb))
  have hat : (⟨(allT (prL lit es)).toArray⟩ : ByteArray).size ≤ 1099511627776 := by show (allT (prL lit es)).toArray.size ≤ _; simpa using hsz
  have hatl := hsz
  generalize allT (prL lit es) = at' at HK hat hatl ⊢
  rw [hn] at HK
  clear hp hsz hsh hh hjl hn
  have HB : Asd (Below w.heap.size w (w.alloc (.cells #[.int .i64 5, .int .i64 (o : Nat), .int .i64 v.kind, .int .i64 v.int, .string ⟨v.text.toArray⟩, .string ⟨tb.toArray⟩, .string ⟨nm.toArray⟩, .int .i64 col, .int .i64 tp, .slice A (opn o) c] 58 (0, 0)))) := Asd.mk (below_alloc (Below.refl _ w) _)
  have HN := Asd.mk (blk_new w (.cells #[.int .i64 5, .int .i64 (o : Nat), .int .i64 v.kind, .int .i64 v.int, .string ⟨v.text.toArray⟩, .string ⟨tb.toArray⟩, .string ⟨nm.toArray⟩, .int .i64 col, .int .i64 tp, .slice A (opn o) c] 58 (0, 0)))
  have HL : Asd (∀ W, Calls Tryz.prog 60 #[.agg #[.int .i64 5, .int .i64 (o : Nat), .int .i64 v.kind, .int .i64 v.int, .string ⟨v.text.toArray⟩, .string ⟨tb.toArray⟩, .string ⟨nm.toArray⟩, .int .i64 col, .int .i64 tp, .slice A (opn o) c]] W (LineR 9 W)) := Asd.mk (fun W => line_call v.kind v.int col tp ⟨v.text.toArray⟩ ⟨tb.toArray⟩ ⟨nm.toArray⟩ A c o h1 h6 W)
  clear h1 h6
  generalize fnT.getD o [] = ot at hix hos ⊢
  generalize opn o = n0 at hop HK HB HN HL ⊢
  have hs3 : (⟨ot.toArray⟩ : ByteArray).size ≤ 8 := by show ot.toArray.size ≤ _; simpa using hos
  go_enter Tryz.func23, Tryz.ntmps23
  go_upto_region 1 with fail
  generalize (w.alloc (.cells #[.int .i64 5, .int .i64 (o : Nat), .int .i64 v.kind, .int .i64 v.int, .string ⟨v.text.toArray⟩, .string ⟨tb.toArray⟩, .string ⟨nm.toArray⟩, .int .i64 col, .int .i64 tp, .slice A n0 c] 58 (0, 0))) = w1 at HB HN ⊢
  have e0 := (blk_cell HN.out 0).trans rfl
  have e1 := (blk_cell HN.out 1).trans rfl
  have e2 := (blk_cell HN.out 2).trans rfl
  have e3 := (blk_cell HN.out 3).trans rfl
  have e4 := (blk_cell HN.out 4).trans rfl
  have e5 := (blk_cell HN.out 5).trans rfl
  have e6 := (blk_cell HN.out 6).trans rfl
  have e7 := (blk_cell HN.out 7).trans rfl
  have e8 := (blk_cell HN.out 8).trans rfl
  have e9 := (blk_cell HN.out 9).trans rfl
  go_wp2_with fail
  refine (HL.out w1).mono ?_
  rintro e w2 ⟨rfl, hb2⟩
  have HB2 : Asd (Below w.heap.size w w2) := Asd.mk (HB.out.trans (hb2.mono HB.out.size))
  have HN2 := Asd.mk (blk_below hb2 HN.out)
  clear hb2 e0 e1 e2 e3 e4 e5 e6 e7 e8 e9
  have e0 := (blk_cell HN2.out 0).trans rfl
  have e1 := (blk_cell HN2.out 1).trans rfl
  have e2 := (blk_cell HN2.out 2).trans rfl
  have e3 := (blk_cell HN2.out 3).trans rfl
  have e4 := (blk_cell HN2.out 4).trans rfl
  have e5 := (blk_cell HN2.out 5).trans rfl
  have e6 := (blk_cell HN2.out 6).trans rfl
  have e7 := (blk_cell HN2.out 7).trans rfl
  have e8 := (blk_cell HN2.out 8).trans rfl
  have e9 := (blk_cell HN2.out 9).trans rfl
  have hcc : ¬ 9223372036854775807 < ot.length + at'.length := by omega
  have HS : Asd (∀ w', Below w2.heap.size w2 w' → w'.cell? ⟨w.heap.size, 1, none⟩ = some (.int .i64 (o : Nat)) ∧ Below w2.heap.size w2 w') := Asd.mk fun w' h => ⟨(h.cell (World.block_lt_of_cell? w2 _ e1)).trans e1, h⟩
  go_upto_region 19 with fail
  refine wp_region_held_drew (S := fun w' => w'.cell? ⟨w.heap.size, 1, none⟩ = some (.int .i64 (o : Nat)) ∧ Below w2.heap.size w2 w') (by kernel_rfl) (HS.out _ (Below.refl _ _).drew) (fun hHeld => ?_)
  refine wpAnyH_take (i := 0) (oi := ({ dst := some 66, op := Op.build 115 #[(0, Operand.const (Value.string { data := #[] })), (1, Operand.const (Value.string { data := #[76, 69, 78, 71, 84, 72] })), (2, Operand.const (Value.string { data := #[65, 66, 83] })), (3, Operand.const (Value.string { data := #[85, 80, 80, 69, 82] })), (4, Operand.const (Value.string { data := #[76, 79, 87, 69, 82] })), (5, Operand.const (Value.string { data := #[83, 85, 66, 83, 84, 82] })), (6, Operand.const (Value.string { data := #[67, 79, 65, 76, 69, 83, 67, 69] }))], type := 115, pos := "expr.go:369", after := #[], guard := none } : Oper)) (v := ?va0) rfl (by kernel_rfl) (by kernel_rfl) (by kernel_rfl) (fun _ _ _ h => h) (Or.inl ⟨by rfl, ?ha0⟩) (by assumption) ?ra0
  case ha0 => (intro w hSw; (try dsimp only at hSw); go_simp; try (with_reducible rfl))
  try simp only [Act.put, List.setIfInBounds_toArray, List.set_cons_zero, List.set_cons_succ]
  refine wpAnyH_take (i := 1) (oi := ({ dst := some 67, op := Op.fieldAddr 58 (Operand.tmp 1) 1, type := 0, pos := "expr.go:369", after := #[], guard := none } : Oper)) (v := ?va1) rfl (by kernel_rfl) (by kernel_rfl) (by kernel_rfl) (fun _ _ _ h => h) (Or.inl ⟨by rfl, ?ha1⟩) (by assumption) ?ra1
  case ha1 => (intro w hSw; (try dsimp only at hSw); go_simp; try (with_reducible rfl))
  try simp only [Act.put, List.setIfInBounds_toArray, List.set_cons_zero, List.set_cons_succ]
  refine wpAnyH_take (i := 2) (oi := ({ dst := some 68, op := Op.load 3 (Operand.tmp 67), type := 3, pos := "expr.go:369", after := #[{ on := 1, ground := Ground.data }], guard := none } : Oper)) (v := ?va2) rfl (by kernel_rfl) (by kernel_rfl) (by kernel_rfl) (fun _ _ _ h => h) (Or.inl ⟨by rfl, ?ha2⟩) (by assumption) ?ra2
  case ha2 => (intro w hSw; (try dsimp only at hSw); go_simp; try (with_reducible rfl))
  try simp only [Act.put, List.setIfInBounds_toArray, List.set_cons_zero, List.set_cons_succ]
  refine wpAnyH_take (i := 3) (oi := ({ dst := some 69, op := Op.index 115 (Operand.tmp 66) (Operand.tmp 68), type := 9, pos := "expr.go:369", after := #[{ on := 0, ground := Ground.data }, { on := 2, ground := Ground.data }], guard := none } : Oper)) (v := ?va3) rfl (by kernel_rfl) (by kernel_rfl) (by kernel_rfl) (fun _ _ _ h => h) (Or.inl ⟨by rfl, ?ha3⟩) (by assumption) ?ra3
  case ha3 => (intro w hSw; (try dsimp only at hSw); go_simp; try (with_reducible rfl))
  try simp only [Act.put, List.setIfInBounds_toArray, List.set_cons_zero, List.set_cons_succ]
  refine wpAnyH_take (i := 4) (oi := ({ dst := some 70, op := Op.move (Operand.tmp 4), type := 112, pos := "expr.go:369", after := #[], guard := none } : Oper)) (v := ?va4) rfl (by kernel_rfl) (by kernel_rfl) (by kernel_rfl) (fun _ _ _ h => h) (Or.inl ⟨by rfl, ?ha4⟩) (by assumption) ?ra4
  case ha4 => (intro w hSw; (try dsimp only at hSw); go_simp; try (with_reducible rfl))
  try simp only [Act.put, List.setIfInBounds_toArray, List.set_cons_zero, List.set_cons_succ]
  refine wpAnyH_ready (rs := [5]) (by kernel_rfl) (by simp) ?_
  refine AllReadyH.cons (o := ({ dst := some 71, op := Op.call { callee := Callee.value (Operand.tmp 70), args := #[], argTypes := #[] }, type := 9, pos := "expr.go:369", after := #[{ on := 4, ground := Ground.data }], guard := none } : Oper)) rfl (fun K hK => ?_) AllReadyH.nil
  go_simp
  refine (HK.out _ (HB2.out.trans ((Below.refl w2.heap.size w2).drew.mono HB2.out.size)) e9).mono ?_
  rintro e w3 ⟨rfl, hb3⟩
  go_wp2_with fail
  refine hK.out _ _ (HS.out _ (below_step (Below.refl _ _).drew hb3)) (fun hHeld => ?_)
  clear hK K
  try simp only [Act.put, List.setIfInBounds_toArray, List.set_cons_zero, List.set_cons_succ]
  refine wpAnyH_take (i := 6) (oi := ({ dst := some 72, op := Op.binOp BinOp.add 9 (Operand.tmp 69) (Operand.tmp 71) 9, type := 9, pos := "expr.go:369", after := #[{ on := 3, ground := Ground.data }, { on := 5, ground := Ground.data }], guard := none } : Oper)) (v := ?va6) rfl (by kernel_rfl) (by kernel_rfl) (by kernel_rfl) (fun _ _ _ h => h) (Or.inl ⟨by rfl, ?ha6⟩) (by assumption) ?ra6
  case ha6 => (intro w hSw; (try dsimp only at hSw); go_simp; try (with_reducible rfl))
  try simp only [Act.put, List.setIfInBounds_toArray, List.set_cons_zero, List.set_cons_succ]
  refine wpAnyH_take (i := 7) (oi := ({ dst := some 2, op := Op.assign (Operand.tmp 72), type := 9, pos := "expr.go:369", after := #[{ on := 6, ground := Ground.data }, { on := 5, ground := Ground.chain }, { on := 0, ground := Ground.phase }, { on := 1, ground := Ground.phase }, { on := 2, ground := Ground.phase }, { on := 3, ground := Ground.phase }, { on := 4, ground := Ground.phase }, { on := 5, ground := Ground.phase }, { on := 6, ground := Ground.phase }], guard := none } : Oper)) (v := ?va7) rfl (by kernel_rfl) (by kernel_rfl) (by kernel_rfl) (fun _ _ _ h => h) (Or.inl ⟨by rfl, ?ha7⟩) (by assumption) ?ra7
  case ha7 => (intro w hSw; (try dsimp only at hSw); go_simp; try (with_reducible rfl))
  try simp only [Act.put, List.setIfInBounds_toArray, List.set_cons_zero, List.set_cons_succ]
  refine wpAnyH_done (by kernel_rfl) ?_ _
  have HB3 : Asd (Below w.heap.size w _) := Asd.mk (HB2.out.trans (hHeld.2.mono HB2.out.size))
  clear hHeld HS
  go_wp2
  go_ret
  refine ⟨ret_eq ?_, HB3.out⟩
  show Value.string _ = _
  congr 1
end Go.Proofs.YtcefmhofidoloaaGreatDoor.Exp

/- value.Literal of NULL, a truth value, an integer. -/
set_option linter.unusedVariables false
set_option linter.unusedSimpArgs false
namespace Go.Proofs.YtcefmhofidoloaaGreatDoor.Exp
open Go.RowKit Go.Proofs.YtcefmhofidoloaaGreatDoor.Base Go.Proofs.YtcefmhofidoloaaGreatDoor.App Go.Proofs.YtcefmhofidoloaaGreatDoor.Byt Go.Proofs.YtcefmhofidoloaaGreatDoor.Lex

set_option maxRecDepth 100000 in
set_option maxHeartbeats 3200000 in
theorem check_plain (k n : Int) (w : World) (h : (k = 0 ∧ n = 0) ∨ (k = 1 ∧ n = 0) ∨ (k = 1 ∧ n = 1) ∨ k = 2) :
    Calls Tryz.prog 128 #[.agg #[.int .i64 k, .int .i64 n, .string ⟨#[]⟩]] w fun e w' => e = .returned (.int .i64 0) ∧ Below w.heap.size w w' := by
  rcases h with ⟨rfl, rfl⟩ | ⟨rfl, rfl⟩ | ⟨rfl, rfl⟩ | rfl
  all_goals
    go_enter Tryz.func128, Tryz.ntmps128
    go_wp2
    go_ret
    exact ⟨rfl, below_alloc (below_alloc (Below.refl _ w) _) _⟩
set_option maxRecDepth 100000 in
set_option maxHeartbeats 3200000 in
theorem lit_null (w : World) :
    Calls Tryz.prog 57 #[.agg #[.int .i64 0, .int .i64 0, .string ⟨#[]⟩]] w fun e w' => e = .returned (.string ⟨([78, 85, 76, 76]).toArray⟩) ∧ Below w.heap.size w w' := by
  have HC := Asd.mk (fun W => check_plain 0 0 W (by exact .inl ⟨rfl, rfl⟩))
  go_enter Tryz.func57, Tryz.ntmps57
  go_wp2_with fail
  refine (HC.out _).mono ?_
  rintro e w1 ⟨rfl, hb1⟩
  have HB0 := Asd.mk (below_alloc (Below.refl _ w) (.cells #[.int .i64 0, .int .i64 0, .string ⟨#[]⟩] 56 (0, 0)))
  have HX := Asd.mk (blk_below hb1 (blk_new w (.cells #[.int .i64 0, .int .i64 0, .string ⟨#[]⟩] 56 (0, 0))))
  have HB1 : Asd (Below w.heap.size w w1) := Asd.mk (below_step HB0.out hb1)
  have x0 := (blk_cell HX.out 0).trans rfl
  have x1 := (blk_cell HX.out 1).trans rfl
  have x2 := (blk_cell HX.out 2).trans rfl
  clear hb1
  go_wp2
  go_ret
  exact ⟨rfl, HB1.out⟩
set_option maxRecDepth 100000 in
set_option maxHeartbeats 3200000 in
theorem lit_false (w : World) :
    Calls Tryz.prog 57 #[.agg #[.int .i64 1, .int .i64 0, .string ⟨#[]⟩]] w fun e w' => e = .returned (.string ⟨([70, 65, 76, 83, 69]).toArray⟩) ∧ Below w.heap.size w w' := by
  have HC := Asd.mk (fun W => check_plain 1 0 W (by exact .inr (.inl ⟨rfl, rfl⟩)))
  go_enter Tryz.func57, Tryz.ntmps57
  go_wp2_with fail
  refine (HC.out _).mono ?_
  rintro e w1 ⟨rfl, hb1⟩
  have HB0 := Asd.mk (below_alloc (Below.refl _ w) (.cells #[.int .i64 1, .int .i64 0, .string ⟨#[]⟩] 56 (0, 0)))
  have HX := Asd.mk (blk_below hb1 (blk_new w (.cells #[.int .i64 1, .int .i64 0, .string ⟨#[]⟩] 56 (0, 0))))
  have HB1 : Asd (Below w.heap.size w w1) := Asd.mk (below_step HB0.out hb1)
  have x0 := (blk_cell HX.out 0).trans rfl
  have x1 := (blk_cell HX.out 1).trans rfl
  have x2 := (blk_cell HX.out 2).trans rfl
  clear hb1
  go_wp2
  go_ret
  exact ⟨rfl, HB1.out⟩
set_option maxRecDepth 100000 in
set_option maxHeartbeats 3200000 in
theorem lit_true (w : World) :
    Calls Tryz.prog 57 #[.agg #[.int .i64 1, .int .i64 1, .string ⟨#[]⟩]] w fun e w' => e = .returned (.string ⟨([84, 82, 85, 69]).toArray⟩) ∧ Below w.heap.size w w' := by
  have HC := Asd.mk (fun W => check_plain 1 1 W (by exact .inr (.inr (.inl ⟨rfl, rfl⟩))))
  go_enter Tryz.func57, Tryz.ntmps57
  go_wp2_with fail
  refine (HC.out _).mono ?_
  rintro e w1 ⟨rfl, hb1⟩
  have HB0 := Asd.mk (below_alloc (Below.refl _ w) (.cells #[.int .i64 1, .int .i64 1, .string ⟨#[]⟩] 56 (0, 0)))
  have HX := Asd.mk (blk_below hb1 (blk_new w (.cells #[.int .i64 1, .int .i64 1, .string ⟨#[]⟩] 56 (0, 0))))
  have HB1 : Asd (Below w.heap.size w w1) := Asd.mk (below_step HB0.out hb1)
  have x0 := (blk_cell HX.out 0).trans rfl
  have x1 := (blk_cell HX.out 1).trans rfl
  have x2 := (blk_cell HX.out 2).trans rfl
  clear hb1
  go_wp2
  go_ret
  exact ⟨rfl, HB1.out⟩
set_option maxRecDepth 100000 in
set_option maxHeartbeats 3200000 in
theorem lit_int (n : Int) (w : World) (h0 : -9223372036854775808 ≤ n) (h1 : n ≤ 9223372036854775807) (htab : ∀ W, Below w.heap.size w W → Lib.TabIs Tryz.prog W "internal/strconv.uint64pow10" .u64 Lib.pow10Tab) :
    Calls Tryz.prog 57 #[.agg #[.int .i64 2, .int .i64 n, .string ⟨#[]⟩]] w fun e w' => e = .returned (.string ⟨(Lib.itoa n).toArray⟩) ∧ Below w.heap.size w w' := by
  have HC := Asd.mk (fun W => check_plain 2 n W (by exact .inr (.inr (.inr rfl))))
  go_enter Tryz.func57, Tryz.ntmps57
  go_wp2_with fail
  refine (HC.out _).mono ?_
  rintro e w1 ⟨rfl, hb1⟩
  have HB0 := Asd.mk (below_alloc (Below.refl _ w) (.cells #[.int .i64 2, .int .i64 n, .string ⟨#[]⟩] 56 (0, 0)))
  have HX := Asd.mk (blk_below hb1 (blk_new w (.cells #[.int .i64 2, .int .i64 n, .string ⟨#[]⟩] 56 (0, 0))))
  have HB1 : Asd (Below w.heap.size w w1) := Asd.mk (below_step HB0.out hb1)
  have x0 := (blk_cell HX.out 0).trans rfl
  have x1 := (blk_cell HX.out 1).trans rfl
  have x2 := (blk_cell HX.out 2).trans rfl
  clear hb1
  go_wp2_with fail
  refine (Tryz.strconv_FormatInt_10 n h0 h1 w1 (htab w1 HB1.out)).mono ?_
  rintro e w2 ⟨rfl, kk, os, hw⟩
  have HB2 : Asd (Below w.heap.size w w2) := Asd.mk (by rw [hw]; exact below_step HB1.out (Lib.below_grow _ _ (Nat.le_refl _) kk os))
  clear hw
  go_wp2
  go_ret
  exact ⟨rfl, HB2.out⟩
end Go.Proofs.YtcefmhofidoloaaGreatDoor.Exp
