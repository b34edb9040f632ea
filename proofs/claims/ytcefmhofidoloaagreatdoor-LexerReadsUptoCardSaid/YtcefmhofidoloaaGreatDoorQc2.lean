/- Texts put together: Lx3, Lx6, Lx7, Lx5, Lx8, Lx9, Lx2, Lx4, Lx10, Lx11, Lx12, Num, Rlit, Lx13. -/
import Derived.Test.YtcefmhofidoloaaGreatDoorQc1
import Derived.Lib.ConvBytes
import Derived.Laws.ResultCell
import Derived.Lib.ItoaNum
import Derived.WalkMore
/- lowered. -/
set_option linter.unusedVariables false
set_option linter.unusedSimpArgs false
namespace Go.Proofs.YtcefmhofidoloaaGreatDoor.Lex
open Go.RowKit Go.Proofs.YtcefmhofidoloaaGreatDoor.Base Go.Proofs.YtcefmhofidoloaaGreatDoor.App Go.Proofs.YtcefmhofidoloaaGreatDoor.Byt

def lowF (l : List UInt8) (k j : Nat) : UInt8 := if j < k then lowB (l.getD j 0) else l.getD j 0
/-- The row of the bytes, k of them lowered. -/
def LowSt (w : World) (b : Nat) (l : List UInt8) (k : Nat) : Prop :=
  ∃ (cs : Array Value) (N : Nat), l.length ≤ N ∧ w.heap[b]? = some (.cells cs 5 (N, N + 1)) ∧ l.length ≤ cs.size ∧ ∀ j, j < l.length → cs[j]? = some (bcell (lowF l k j))
theorem LowSt.cell {w : World} {b : Nat} {l : List UInt8} {k : Nat} (h : LowSt w b l k) (j : Nat) (hj : j < l.length) : w.cell? ⟨b, j, none⟩ = some (bcell (lowF l k j)) ∧ w.frozen? ⟨b, j, none⟩ = false := by
  obtain ⟨cs, N, hN, hb, hs, hc⟩ := h
  refine ⟨(blk_cell hb j).trans (hc j hj), ?_⟩
  simp [World.frozen?, hb]
  omega
theorem LowSt.turn {w : World} {b : Nat} {l : List UInt8} {k : Nat} (h : LowSt w b l k) (hk : k < l.length) : LowSt (w.setCell ⟨b, k, none⟩ (bcell (lowB (l.getD k 0)))) b l (k + 1) := by
  obtain ⟨cs, N, hN, hb, hs, hc⟩ := h
  refine ⟨_, N, hN, blk_set hb k _, by simpa using hs, fun j hj => ?_⟩
  rw [Array.getElem?_setIfInBounds]
  split
  · rename_i e
    subst e
    rw [if_pos (by omega)]
    simp [lowF]
  · rw [hc j hj]
    congr 2
    unfold lowF
    split <;> split <;> first | rfl | omega
theorem LowSt.keep {w : World} {b : Nat} {l : List UInt8} {k : Nat} (h : LowSt w b l k) (hk : lowB (l.getD k 0) = l.getD k 0) : LowSt w b l (k + 1) := by
  obtain ⟨cs, N, hN, hb, hs, hc⟩ := h
  refine ⟨cs, N, hN, hb, hs, fun j hj => ?_⟩
  rw [hc j hj]
  congr 2
  unfold lowF
  split
  · split <;> first | rfl | omega
  · split
    · obtain rfl : j = k := by omega
      exact hk.symm
    · rfl
theorem LowSt.new (w : World) (s : ByteArray) : LowSt (Lib.bytesWorld w 5 s) w.heap.size s.data.toList 0 := by
  refine ⟨_, _, ?_, Lib.bytesWorld_at_new w 5 s, ?_, fun j hj => ?_⟩
  · simp [Lib.bytesCells]
  · simp [Lib.bytesCells]
  · have hj2 : j < s.data.size := by simpa using hj
    have hj3 : j < s.size := hj2
    simp [Lib.bytesCells, Array.getElem?_append, lowF, List.getD, hj2, hj3, bcell]
theorem LowSt.bytes {w : World} {b : Nat} {l : List UInt8} (h : LowSt w b l l.length) (hl : l.length ≤ 1048576) : IsBytes w (some ⟨b, 0, none⟩) l.length (l.map lowB) := by
  refine ⟨by simp, by omega, fun _ => ⟨b, 0, rfl, fun j hj => ?_⟩⟩
  rw [Nat.zero_add, (h.cell j hj).1]
  simp [lowF, hj, List.getD]
theorem below_bytes (w : World) (s : ByteArray) : Below w.heap.size w (Lib.bytesWorld w 5 s) := by
  have h : Below w.heap.size w (w.drew.alloc (.cells (Lib.bytesCells w 5 s) 5)) := below_alloc (Below.refl _ w).drew _
  refine ⟨h.1, h.2, h.3, ?_, fun k hk => Lib.bytesWorld_at_old w _ s k hk⟩
  rw [Lib.bytesWorld_size]
  omega
theorem up_low {n : Nat} (h0 : 65 ≤ n) (h1 : n ≤ 90) : ((n : Int) + 97 - 65) = ((n + 32 : Nat) : Int) := by
  omega

set_option maxRecDepth 100000 in
set_option maxHeartbeats 1600000 in
theorem lowered_calls (s : ByteArray) (w : World) (hs : s.size ≤ 1048576) :
    Calls Tryz.prog 111 #[.string s] w fun e w' => e = .returned (.string ⟨(s.data.toList.map lowB).toArray⟩) ∧ Below w.heap.size w w' := by
  have hcv := Lib.run_convert_string_bytes (P := Tryz.prog) w 9 120 5 s Tryz.underlying9 Tryz.underlying120 Tryz.underlying5
  have HS0 := Asd.mk (LowSt.new w s)
  have HB0 := Asd.mk (below_bytes w s)
  have HL : Asd (s.data.toList.length = s.size) := Asd.mk rfl
  generalize hb : w.heap.size = b at hcv HS0
  have HBB := Asd.mk hb
  clear hb
  generalize grownCap w s.size 0 5 = cap at hcv
  generalize Lib.bytesWorld w 5 s = W1 at hcv HS0 HB0
  go_enter Tryz.func111, Tryz.ntmps111
  go_wp2
  go_loopw [10] (fun v wr => ∃ k : Nat, k ≤ s.size ∧ v = .int .i64 (k : Int) ∧ Asd (LowSt wr b s.data.toList k) ∧ Asd (Below w.heap.size w wr)) (fun v _ => s.size - (intOf v).toNat)
  case atStart => exact ⟨0, by omega, rfl, HS0, HB0⟩
  case round =>
    obtain ⟨k, hk, rfl, HS, HB⟩ := hrel
    by_cases hlt : k < s.size
    · have hkl : k < s.data.toList.length := hlt
      obtain ⟨q0, z0⟩ := HS.out.cell k hkl
      have HE : Asd (lowF s.data.toList k k = s.data.toList.getD k 0) := Asd.mk (by simp [lowF])
      rw [HE.out] at q0
      have HT := Asd.mk (HS.out.turn hkl)
      have HK := Asd.mk (HS.out.keep (k := k))
      generalize s.data.toList.getD k 0 = c at q0 HT HK
      have hc := c.toNat_lt
      simp only [bcell] at q0
      by_cases hup : 65 ≤ c.toNat ∧ c.toNat ≤ 90
      · have HW := Asd.mk (up_low hup.1 hup.2)
        have HLB : Asd (bcell (lowB c) = .int .u8 ((c.toNat + 32 : Nat) : Int)) := Asd.mk (by
          rw [lowB, if_pos hup, bcell, UInt8.toNat_ofNat']
          congr 2
          omega)
        rw [HLB.out] at HT
        have HB2 := Asd.mk (HB.out.setCell (p := ⟨b, k, none⟩) (Nat.le_of_eq HBB.out) (.int .u8 ((c.toNat + 32 : Nat) : Int)))
        rw [← HW.out] at HT HB2
        clear HK
        go_wp2
        go_roundw
        case rel => exact ⟨k + 1, by omega, by go_num, HT, HB2⟩
        case measure => simp [intOf]; omega
      · have HK2 := Asd.mk (HK.out (by rw [lowB, if_neg hup]))
        clear HT HK
        by_cases h65 : c.toNat < 65
        · clear hup
          go_wp2
          go_roundw
          case rel => exact ⟨k + 1, by omega, by go_num, HK2, HB⟩
          case measure => simp [intOf]; omega
        · have h91 : 90 < c.toNat := by omega
          have h65' : 65 ≤ c.toNat := by omega
          clear hup h65
          go_wp2
          go_roundw
          case rel => exact ⟨k + 1, by omega, by go_num, HK2, HB⟩
          case measure => simp [intOf]; omega
    · obtain rfl : k = s.size := by omega
      have hib := HS.out.bytes (by rw [HL.out]; exact hs)
      rw [HL.out] at hib
      have hcv := run_string (P := Tryz.prog) 120 9 5 Tryz.underlying120 Tryz.underlying5 Tryz.underlying9 cap hib
      generalize hrr : (⟨(s.data.toList.map lowB).toArray⟩ : ByteArray) = rr at hcv
      have HRR := Asd.mk hrr
      clear hrr hlt hib
      go_wp2
      go_ret
      exact ⟨ret_eq (by rw [HRR.out]; rfl), by rw [← HBB.out]; exact HB.out⟩
end Go.Proofs.YtcefmhofidoloaaGreatDoor.Lex

/- ParseUint of two hexadecimal digits; ContainsAny. -/
set_option linter.unusedVariables false
set_option linter.unusedSimpArgs false
namespace Go.Proofs.YtcefmhofidoloaaGreatDoor.Lex
open Go.RowKit Go.Proofs.YtcefmhofidoloaaGreatDoor.Base Go.Proofs.YtcefmhofidoloaaGreatDoor.App Go.Proofs.YtcefmhofidoloaaGreatDoor.Byt

/-- What the lexer leans on in memory: its tables, and what two variables hold. -/
structure LexW (w : World) : Prop where
  shaped : w.ShapedOpen Tryz.prog
  syn : ∃ t p, w.cell? ⟨3, 0, none⟩ = some (.iface t p)
  rng : ∃ t p, w.cell? ⟨4, 0, none⟩ = some (.iface t p)
theorem LexW.below {w w' : World} (h : LexW w) (hb : Below w.heap.size w w') : LexW w' := by
  obtain ⟨t, p, h1⟩ := h.syn
  obtain ⟨t', p', h2⟩ := h.rng
  exact ⟨shaped_below h.shaped hb, ⟨t, p, (hb.cell (World.block_lt_of_cell? w _ h1)).trans h1⟩, ⟨t', p', (hb.cell (World.block_lt_of_cell? w _ h2)).trans h2⟩⟩

def hexT (l : List UInt8) : Option Nat := l.foldl (fun a c => a.bind fun n => (hexV c).map fun v => 16 * n + v) (some 0)
/-- ParseUint(s, 16, 8) of two bytes, in the inner package. -/
def Hexed (l : List UInt8) (w : World) (e : Ending) (w' : World) : Prop :=
  Below w.heap.size w w' ∧ match hexT l with
  | some n => e = .returned (.tuple #[.int .u64 (n : Int), .nilIface])
  | none => e = .returned (.tuple #[.int .u64 0, .iface 249 (.int .i64 2)])
set_option maxRecDepth 100000 in
theorem low_up (n : Nat) (h : n < 256) : bits .or .u8 (n : Int) 32 = ((n ||| 32 : Nat) : Int) := by
  have : ∀ m : Fin 256, bits .or .u8 ((m.val : Nat) : Int) 32 = ((m.val ||| 32 : Nat) : Int) := by decide
  exact this ⟨n, h⟩
set_option maxRecDepth 100000 in
theorem or32 (n : Nat) (h : n < 256) : (n ||| 32) < 256 ∧ ((97 ≤ (n ||| 32) ∧ (n ||| 32) ≤ 102) → (65 ≤ n ∧ n ≤ 70 ∧ (n ||| 32) = n + 32) ∨ (97 ≤ n ∧ n ≤ 102 ∧ (n ||| 32) = n)) ∧ (¬ (97 ≤ (n ||| 32) ∧ (n ||| 32) ≤ 102) → ¬ (65 ≤ n ∧ n ≤ 70) ∧ ¬ (97 ≤ n ∧ n ≤ 102)) := by
  have : ∀ m : Fin 256, (m.val ||| 32) < 256 ∧ ((97 ≤ (m.val ||| 32) ∧ (m.val ||| 32) ≤ 102) → (65 ≤ m.val ∧ m.val ≤ 70 ∧ (m.val ||| 32) = m.val + 32) ∨ (97 ≤ m.val ∧ m.val ≤ 102 ∧ (m.val ||| 32) = m.val)) ∧ (¬ (97 ≤ (m.val ||| 32) ∧ (m.val ||| 32) ≤ 102) → ¬ (65 ≤ m.val ∧ m.val ≤ 70) ∧ ¬ (97 ≤ m.val ∧ m.val ≤ 102)) := by decide
  exact this ⟨n, h⟩

theorem hexV_dig {c : UInt8} (h : 48 ≤ c.toNat ∧ c.toNat ≤ 57) : hexV c = some (c.toNat - 48) := by
  rw [hexV, if_pos (by simp [digN]; exact h)]
theorem hexV_let {c : UInt8} {m : Nat} (h : ¬ (48 ≤ c.toNat ∧ c.toNat ≤ 57)) (hm : (c.toNat ||| 32) = m) (h2 : 97 ≤ m ∧ m ≤ 102) : hexV c = some (m - 87) := by
  rw [hexV, if_neg (by simp [digN]; omega)]
  subst hm
  rcases (or32 c.toNat c.toNat_lt).2.1 h2 with ⟨a, b, e⟩ | ⟨a, b, e⟩
  · rw [if_neg (by omega), if_pos ⟨a, b⟩, e]
    congr 1
  · rw [if_pos ⟨a, b⟩, e]
theorem hexV_no {c : UInt8} {m : Nat} (h : ¬ (48 ≤ c.toNat ∧ c.toNat ≤ 57)) (hm : (c.toNat ||| 32) = m) (h2 : ¬ (97 ≤ m ∧ m ≤ 102)) : hexV c = none := by
  rw [hexV, if_neg (by simp [digN]; omega)]
  subst hm
  have := (or32 c.toNat c.toNat_lt).2.2 h2
  rw [if_neg this.2, if_neg this.1]
theorem hexT_none (l : List UInt8) : l.foldl (fun a c => a.bind fun n => (hexV c).map fun v => 16 * n + v) none = none := by
  induction l with
  | nil => rfl
  | cons c l ih => simpa using ih
theorem hexV_lt {c : UInt8} {v : Nat} (h : hexV c = some v) : v < 16 := by
  unfold hexV at h
  have := c.toNat_lt
  split at h
  · rename_i hd
    simp [digN] at hd
    injection h with h; omega
  · split at h
    · injection h with h; omega
    · split at h
      · injection h with h; omega
      · cases h
theorem hexT_go {l : List UInt8} {k n : Nat} (h : hexT (l.take k) = some n) {c : UInt8} {v : Nat} (hc : l.drop k = c :: l.drop (k + 1)) (hv : hexV c = some v) : hexT (l.take (k + 1)) = some (16 * n + v) := by
  have hk : k < l.length := by
    have := congrArg List.length hc
    simp at this
    omega
  have hl : l.take (k + 1) = l.take k ++ [c] := by
    rw [List.take_succ_eq_append_getElem hk]
    rw [List.drop_eq_getElem_cons hk] at hc
    injection hc with hc
    rw [hc]
  unfold hexT at h ⊢
  rw [hl, List.foldl_append, h]
  simp [hv]
theorem hexT_stop {l : List UInt8} {k n : Nat} (h : hexT (l.take k) = some n) {c : UInt8} (hc : l.drop k = c :: l.drop (k + 1)) (hv : hexV c = none) : hexT l = none := by
  have hl : l = l.take k ++ c :: l.drop (k + 1) := by rw [← hc]; exact (List.take_append_drop k l).symm
  unfold hexT at h ⊢
  rw [hl, List.foldl_append, List.foldl_cons, h]
  simp only [Option.bind_some, hv, Option.map_none]
  exact hexT_none _
theorem hexed_some {l : List UInt8} {n : Nat} {w w' : World} {e : Ending} (hx : hexT l = some n) (he : e = .returned (.tuple #[.int .u64 (n : Int), .nilIface])) (hb : Below w.heap.size w w') : Hexed l w e w' := ⟨hb, by rw [hx]; exact he⟩
theorem hexed_none {l : List UInt8} {w w' : World} {e : Ending} (hx : hexT l = none) (he : e = .returned (.tuple #[.int .u64 0, .iface 249 (.int .i64 2)])) (hb : Below w.heap.size w w') : Hexed l w e w' := ⟨hb, by rw [hx]; exact he⟩
end Go.Proofs.YtcefmhofidoloaaGreatDoor.Lex

/- The inner package's ParseUint at two hexadecimal digits. -/
set_option linter.unusedVariables false
set_option linter.unusedSimpArgs false
namespace Go.Proofs.YtcefmhofidoloaaGreatDoor.Lex
open Go.RowKit Go.Proofs.YtcefmhofidoloaaGreatDoor.Base Go.Proofs.YtcefmhofidoloaaGreatDoor.App Go.Proofs.YtcefmhofidoloaaGreatDoor.Byt

theorem getD_at (s : ByteArray) (k : Nat) (h : k < s.size) : lowF s.data.toList 0 k = s[k] := by
  show (if k < 0 then _ else s.data.toList.getD k 0) = _
  rw [if_neg (by omega), List.getD_eq_getElem?_getD, List.getElem?_eq_getElem (by simpa using h)]
  rfl
set_option maxRecDepth 100000 in
set_option maxHeartbeats 6400000 in
theorem hex_calls (s : ByteArray) (w : World) (h2 : s.size = 2) :
    Calls Tryz.prog 224 #[.string s, .int .i64 16, .int .i64 8] w fun e w' => Hexed s.data.toList w e w' := by
  have hcv := Lib.run_convert_string_bytes (P := Tryz.prog) w 9 120 5 s Tryz.underlying9 Tryz.underlying120 Tryz.underlying5
  have HS0 := Asd.mk (LowSt.new w s)
  have HB0 := Asd.mk (below_bytes w s)
  have HL : Asd (s.data.toList.length = s.size) := Asd.mk rfl
  have hne : s.toList.isEmpty = false := by
    have := nonempty s (by omega)
    cases h : s.toList with
    | nil => exact absurd h this
    | cons a b => rfl
  generalize hb : w.heap.size = b at hcv HS0
  have HBB := Asd.mk hb
  clear hb
  generalize grownCap w s.size 0 5 = cap at hcv
  generalize Lib.bytesWorld w 5 s = W1 at hcv HS0 HB0
  rw [h2] at hcv
  go_enter Tryz.func224, Tryz.ntmps224
  go_wp2
  generalize hK : (1152921504606846976 : Int) = K
  have HK : Asd ((16 : Int) ≤ K) := Asd.mk (by rw [← hK]; decide)
  clear hK
  go_loopw [12, 13, 101] (fun v12 v13 v wr => ∃ (k n : Nat), k ≤ 2 ∧ v12 = .bool false ∧ v13 = .int .u64 (n : Int) ∧ v = .int .i64 (k : Int) ∧ Asd (hexT (s.data.toList.take k) = some n) ∧ Asd (n < 16 ^ k) ∧ Asd (LowSt wr b s.data.toList 0) ∧ Asd (Below b w wr)) (fun _ _ v _ => 2 - (intOf v).toNat)
  case atStart => exact ⟨0, 0, by omega, rfl, rfl, rfl, ⟨rfl⟩, ⟨by decide⟩, HS0, by rw [← HBB.out]; exact HB0⟩
  case round =>
    obtain ⟨k, n, hk, rfl, rfl, rfl, HX, HLT, HS, HB⟩ := hrel
    by_cases hlt : k < 2
    · have hks : k < s.size := by omega
      obtain ⟨q0, z0⟩ := HS.out.cell k (by rw [HL.out]; exact hks)
      have HD := Asd.mk (drop_cons s k hks)
      have HE : Asd (lowF s.data.toList 0 k = s[k]) := Asd.mk (getD_at s k hks)
      rw [HE.out] at q0
      generalize s[k] = c at q0 HD
      have hc := c.toNat_lt
      simp only [bcell] at q0
      have HLO := Asd.mk (low_up c.toNat hc)
      have h32 := or32 c.toNat hc
      have HLTN : Asd (n < 16) := Asd.mk (by
        have := HLT.out
        obtain rfl | rfl : k = 0 ∨ k = 1 := by omega
        · omega
        · simpa using this)
      have HPW : Asd (∀ v, v < 16 → 16 * n + v < 16 ^ (k + 1)) := Asd.mk fun v hv => by
        have := HLT.out
        rw [Nat.pow_succ]
        omega
      have hn16 := HLTN.out
      have hcut : (n : Int) < K := by have := HK.out; omega
      by_cases hdig : 48 ≤ c.toNat ∧ c.toNat ≤ 57
      · obtain ⟨d1, d2⟩ := hdig
        have HV := hexV_dig ⟨d1, d2⟩
        have HGO := Asd.mk (hexT_go HX.out HD.out HV)
        have HLT2 := Asd.mk (HPW.out (c.toNat - 48) (by omega))
        have e1 : ((c.toNat : Int) - 48) = ((c.toNat - 48 : Nat) : Int) := by omega
        have hd16 : c.toNat - 48 < 16 := by omega
        clear HV h32 HLO
        go_wp2
        go_roundw
        case rel => exact ⟨k + 1, _, by omega, rfl, by first | rfl | go_num | (go_num; omega), by first | rfl | go_num, HGO, HLT2, HS, HB⟩
        case measure => simp [intOf]; omega
      · generalize hm : c.toNat ||| 32 = m at HLO h32
        have HVL : Asd (97 ≤ m ∧ m ≤ 102 → hexV c = some (m - 87)) := Asd.mk (hexV_let hdig hm)
        have HNO : Asd (¬ (97 ≤ m ∧ m ≤ 102) → hexT s.data.toList = none) := Asd.mk fun h => hexT_stop HX.out HD.out (hexV_no hdig hm h)
        have h48 : c.toNat < 48 → m < 97 := fun h => by
          have := h32.1
          rw [← hm]
          have : c.toNat ||| 32 < 64 := Nat.or_lt_two_pow (n := 6) (by omega) (by omega)
          omega
        have hm256 := h32.1
        clear h32
        by_cases hlo : c.toNat < 48
        · have hm97 := h48 hlo
          have HNO := Asd.mk (HNO.out (by omega))
          clear hdig h48 HVL hm
          go_wp2_with fail
          refine (Tryz.internal_strconv_lower (c.toNat : Int) _).mono ?_
          rintro e w' ⟨rfl, rfl⟩
          rw [HLO.out]
          go_wp2
          refine bodyPost_ret (results_tmp2 rfl _ _ _) rfl ?_
          exact hexed_none HNO.out rfl (by rw [HBB.out]; exact HB.out)
        · have hhi : 57 < c.toNat := by omega
          clear hdig h48 hlo
          by_cases h95 : c.toNat = 95
          · obtain rfl : m = 127 := by rw [← hm, h95]; rfl
            have HNO := Asd.mk (HNO.out (by omega))
            clear hm HVL
            go_wp2_with fail
            refine (Tryz.internal_strconv_lower 95 _).mono ?_
            rintro e w' ⟨rfl, rfl⟩
            rw [show bits .or .u8 95 32 = 127 by decide]
            go_wp2_with fail
            refine (Tryz.internal_strconv_lower 95 _).mono ?_
            rintro e w' ⟨rfl, rfl⟩
            rw [show bits .or .u8 95 32 = 127 by decide]
            go_wp2
            refine bodyPost_ret (results_tmp2 rfl _ _ _) rfl ?_
            exact hexed_none HNO.out rfl (by rw [HBB.out]; exact HB.out)
          · clear hm
            by_cases ha : m < 97
            · have HNO := Asd.mk (HNO.out (by omega))
              clear HVL
              go_wp2_with fail
              refine (Tryz.internal_strconv_lower (c.toNat : Int) _).mono ?_
              rintro e w' ⟨rfl, rfl⟩
              rw [HLO.out]
              go_wp2
              refine bodyPost_ret (results_tmp2 rfl _ _ _) rfl ?_
              exact hexed_none HNO.out rfl (by rw [HBB.out]; exact HB.out)
            · have ha' : 97 ≤ m := by omega
              clear ha
              by_cases hb : m ≤ 122
              · by_cases hc6 : m ≤ 102
                · have HGO := Asd.mk (hexT_go HX.out HD.out (HVL.out ⟨ha', hc6⟩))
                  have HLT2 := Asd.mk (HPW.out (m - 87) (by omega))
                  have e1 : ((m : Int) - 97 + 10) = ((m - 87 : Nat) : Int) := by omega
                  have hd16 : m - 87 < 16 := by omega
                  clear HVL HNO
                  go_wp2_with fail
                  refine (Tryz.internal_strconv_lower (c.toNat : Int) _).mono ?_
                  rintro e w' ⟨rfl, rfl⟩
                  rw [HLO.out]
                  go_wp2_with fail
                  refine (Tryz.internal_strconv_lower (c.toNat : Int) _).mono ?_
                  rintro e w' ⟨rfl, rfl⟩
                  rw [HLO.out]
                  go_wp2_with fail
                  refine (Tryz.internal_strconv_lower (c.toNat : Int) _).mono ?_
                  rintro e w' ⟨rfl, rfl⟩
                  rw [HLO.out]
                  go_wp2
                  go_roundw
                  case rel => exact ⟨k + 1, _, by omega, rfl, by first | rfl | go_num | (go_num; omega), by first | rfl | go_num, HGO, HLT2, HS, HB⟩
                  case measure => simp [intOf]; omega
                · have hc6' : 102 < m := by omega
                  have HNO := Asd.mk (HNO.out (by omega))
                  clear HVL hc6
                  go_wp2_with fail
                  refine (Tryz.internal_strconv_lower (c.toNat : Int) _).mono ?_
                  rintro e w' ⟨rfl, rfl⟩
                  rw [HLO.out]
                  go_wp2_with fail
                  refine (Tryz.internal_strconv_lower (c.toNat : Int) _).mono ?_
                  rintro e w' ⟨rfl, rfl⟩
                  rw [HLO.out]
                  go_wp2_with fail
                  refine (Tryz.internal_strconv_lower (c.toNat : Int) _).mono ?_
                  rintro e w' ⟨rfl, rfl⟩
                  rw [HLO.out]
                  go_wp2
                  refine bodyPost_ret (results_tmp2 rfl _ _ _) rfl ?_
                  exact hexed_none HNO.out rfl (by rw [HBB.out]; exact HB.out)
              · have hb' : 122 < m := by omega
                have HNO := Asd.mk (HNO.out (by omega))
                clear HVL hb
                go_wp2_with fail
                refine (Tryz.internal_strconv_lower (c.toNat : Int) _).mono ?_
                rintro e w' ⟨rfl, rfl⟩
                rw [HLO.out]
                go_wp2_with fail
                refine (Tryz.internal_strconv_lower (c.toNat : Int) _).mono ?_
                rintro e w' ⟨rfl, rfl⟩
                rw [HLO.out]
                go_wp2
                refine bodyPost_ret (results_tmp2 rfl _ _ _) rfl ?_
                exact hexed_none HNO.out rfl (by rw [HBB.out]; exact HB.out)
    · obtain rfl : k = 2 := by omega
      have HX2 : Asd (hexT s.data.toList = some n) := Asd.mk (by
        have := HX.out
        rwa [List.take_of_length_le (by rw [HL.out, h2]; exact Nat.le_refl _)] at this)
      clear hlt
      go_wp2
      refine bodyPost_ret (results_tmp2 rfl _ _ _) rfl ?_
      exact hexed_some HX2.out rfl (by rw [HBB.out]; exact HB.out)
end Go.Proofs.YtcefmhofidoloaaGreatDoor.Lex

/- symbol. -/
set_option linter.unusedVariables false
set_option linter.unusedSimpArgs false
namespace Go.Proofs.YtcefmhofidoloaaGreatDoor.Lex
open Go.RowKit Go.Proofs.YtcefmhofidoloaaGreatDoor.Base Go.Proofs.YtcefmhofidoloaaGreatDoor.App Go.Proofs.YtcefmhofidoloaaGreatDoor.Byt

theorem pre2 (l : List UInt8) (a b : UInt8) : Lib.hasPrefix l [a, b] = true ↔ ∃ r, l = a :: b :: r := by
  unfold Lib.hasPrefix
  match l with
  | [] => simp [List.isPrefixOf]
  | [x] => simp [List.isPrefixOf]
  | x :: y :: r =>
    simp [List.isPrefixOf]
    constructor
    · rintro ⟨rfl, rfl⟩; exact ⟨rfl, rfl⟩
    · rintro ⟨rfl, rfl⟩; exact ⟨rfl, rfl⟩
theorem symP_two {l : List UInt8} {a b : UInt8} (h : Lib.hasPrefix l [a, b] = true) (hab : (a, b) ∈ [((60 : UInt8), (62 : UInt8)), (60, 61), (62, 61), (124, 124)]) : symP l = 2 := by
  obtain ⟨r, rfl⟩ := (pre2 l a b).mp h
  simp only [List.mem_cons, List.not_mem_nil, or_false, Prod.mk.injEq] at hab
  rw [symP, if_pos]
  simp only [List.head?_cons, Option.some.injEq]
  exact hab
def symBytes : List UInt8 := [40, 41, 44, 46, 42, 61, 60, 62, 43, 45, 47, 37, 59]
theorem indexByte_nn : ∀ (l : List UInt8) (c : UInt8), 0 ≤ Lib.indexByte l c ↔ c ∈ l
  | [], c => by simp [Lib.indexByte]
  | b :: l, c => by
    have ih := indexByte_nn l c
    have h1 := Lib.indexByte_ge l c
    unfold Lib.indexByte
    split
    · rename_i h
      have : b = c := by simpa using h
      simp [this]
    · rename_i h
      have hne : ¬ c = b := fun e => h (by simp [e])
      simp only [List.mem_cons, hne, false_or]
      split
      · rename_i h2
        have h3 : Lib.indexByte l c = -1 := by simpa using h2
        rw [← ih, h3]
        try decide
      · rename_i h2
        have h3 : ¬ Lib.indexByte l c = -1 := by simpa using h2
        rw [← ih]
        constructor <;> intro <;> omega
theorem symP_else {l : List UInt8} {c : UInt8} {r : List UInt8} (hl : l = c :: r) (h0 : Lib.hasPrefix l [60, 62] = false) (h1 : Lib.hasPrefix l [60, 61] = false) (h2 : Lib.hasPrefix l [62, 61] = false) (h3 : Lib.hasPrefix l [124, 124] = false) : symP l = if (0 : Int) ≤ Lib.indexByte symBytes c then 1 else 0 := by
  subst hl
  have hh : ∀ a b : UInt8, Lib.hasPrefix (c :: r) [a, b] = false → ¬ (c = a ∧ r.head? = some b) := by
    rintro a b h ⟨rfl, h'⟩
    have : Lib.hasPrefix (c :: r) [c, b] = true := (pre2 _ _ _).mpr (by
      cases r with
      | nil => cases h'
      | cons d r => simp at h'; subst h'; exact ⟨r, rfl⟩)
    rw [h] at this
    cases this
  rw [symP, if_neg]
  · by_cases hm : c ∈ symBytes
    · rw [if_pos (by exact hm), if_pos ((indexByte_nn _ _).mpr hm)]
    · rw [if_neg (by exact hm), if_neg (fun h => hm ((indexByte_nn _ _).mp h))]
  · rintro (h | h | h | h)
    · exact hh _ _ h0 h
    · exact hh _ _ h1 h
    · exact hh _ _ h2 h
    · exact hh _ _ h3 h

set_option maxRecDepth 100000 in
set_option maxHeartbeats 3200000 in
theorem symbol_calls (s : ByteArray) (w : World) (h1 : 1 ≤ s.size) (hs : s.size ≤ 1048576) :
    Calls Tryz.prog 114 #[.string s] w fun e w' => e = .returned (.int .i64 (symP s.data.toList : Nat)) ∧ w' = w := by
  have HD0 := Asd.mk (drop_cons s 0 h1)
  have HT : Asd (∀ a b : UInt8, Lib.hasPrefix s.data.toList [a, b] = true → (a, b) ∈ [((60 : UInt8), (62 : UInt8)), (60, 61), (62, 61), (124, 124)] → symP s.data.toList = 2) := Asd.mk fun a b h => symP_two h
  have HE : Asd (Lib.hasPrefix s.data.toList [60, 62] = false → Lib.hasPrefix s.data.toList [60, 61] = false → Lib.hasPrefix s.data.toList [62, 61] = false → Lib.hasPrefix s.data.toList [124, 124] = false → symP s.data.toList = if (0 : Int) ≤ Lib.indexByte symBytes s[0] then 1 else 0) := Asd.mk (symP_else (by simpa using HD0.out))
  have hc := s[0].toNat_lt
  clear HD0
  have i0 : ∀ w, (Instr.index 208 (.agg #[.string ⟨#[60, 62]⟩, .string ⟨#[60, 61]⟩, .string ⟨#[62, 61]⟩, .string ⟨#[124, 124]⟩]) (.int .i64 0)).run Tryz.prog w = .ok (.string ⟨#[60, 62]⟩) w := fun _ => by kernel_rfl
  have i1 : ∀ w, (Instr.index 208 (.agg #[.string ⟨#[60, 62]⟩, .string ⟨#[60, 61]⟩, .string ⟨#[62, 61]⟩, .string ⟨#[124, 124]⟩]) (.int .i64 1)).run Tryz.prog w = .ok (.string ⟨#[60, 61]⟩) w := fun _ => by kernel_rfl
  have i2 : ∀ w, (Instr.index 208 (.agg #[.string ⟨#[60, 62]⟩, .string ⟨#[60, 61]⟩, .string ⟨#[62, 61]⟩, .string ⟨#[124, 124]⟩]) (.int .i64 2)).run Tryz.prog w = .ok (.string ⟨#[62, 61]⟩) w := fun _ => by kernel_rfl
  have i3 : ∀ w, (Instr.index 208 (.agg #[.string ⟨#[60, 62]⟩, .string ⟨#[60, 61]⟩, .string ⟨#[62, 61]⟩, .string ⟨#[124, 124]⟩]) (.int .i64 3)).run Tryz.prog w = .ok (.string ⟨#[124, 124]⟩) w := fun _ => by kernel_rfl
  go_enter Tryz.func114, Tryz.ntmps114
  go_wp2
  go_loopw [6] (fun v wr => ∃ k : Nat, k ≤ 4 ∧ v = .int .i64 (k : Int) ∧ Asd (0 < k → Lib.hasPrefix s.data.toList [60, 62] = false) ∧ Asd (1 < k → Lib.hasPrefix s.data.toList [60, 61] = false) ∧ Asd (2 < k → Lib.hasPrefix s.data.toList [62, 61] = false) ∧ Asd (3 < k → Lib.hasPrefix s.data.toList [124, 124] = false) ∧ wr = w) (fun v _ => 4 - (intOf v).toNat)
  case atStart => exact ⟨0, by omega, rfl, ⟨fun h => absurd h (by omega)⟩, ⟨fun h => absurd h (by omega)⟩, ⟨fun h => absurd h (by omega)⟩, ⟨fun h => absurd h (by omega)⟩, by first | trivial | rfl⟩
  case round =>
    obtain ⟨k, hk, rfl, HK0, HK1, HK2, HK3, rfl⟩ := hrel
    obtain rfl | rfl | rfl | rfl | rfl : k = 0 ∨ k = 1 ∨ k = 2 ∨ k = 3 ∨ k = 4 := by omega
    · go_wp2_with fail
      refine (Tryz.strings_HasPrefix s ⟨#[60, 62]⟩ _).mono ?_
      rintro e w' ⟨rfl, rfl⟩
      rw [show (⟨#[60, 62]⟩ : ByteArray).data.toList = [60, 62] from rfl]
      cases hp : Lib.hasPrefix s.data.toList [60, 62] with
      | true =>
        have HO := Asd.mk (HT.out 60 62 hp (by decide))
        clear hp
        go_wp2
        go_ret
        exact ⟨ret_eq (by rw [HO.out]; rfl), rfl⟩
      | false =>
        have HP := Asd.mk hp
        clear hp
        go_wp2
        go_roundw
        case rel => exact ⟨1, by omega, by first | rfl | go_num, ⟨fun _ => HP.out⟩, ⟨fun _ => absurd ‹_› (by omega)⟩, ⟨fun _ => absurd ‹_› (by omega)⟩, ⟨fun _ => absurd ‹_› (by omega)⟩, by first | trivial | rfl⟩
        case measure => simp [intOf]
    · go_wp2_with fail
      refine (Tryz.strings_HasPrefix s ⟨#[60, 61]⟩ _).mono ?_
      rintro e w' ⟨rfl, rfl⟩
      rw [show (⟨#[60, 61]⟩ : ByteArray).data.toList = [60, 61] from rfl]
      cases hp : Lib.hasPrefix s.data.toList [60, 61] with
      | true =>
        have HO := Asd.mk (HT.out 60 61 hp (by decide))
        clear hp
        go_wp2
        go_ret
        exact ⟨ret_eq (by rw [HO.out]; rfl), rfl⟩
      | false =>
        have HP := Asd.mk hp
        clear hp
        go_wp2
        go_roundw
        case rel => exact ⟨2, by omega, by first | rfl | go_num, ⟨fun _ => HK0.out (by omega)⟩, ⟨fun _ => HP.out⟩, ⟨fun _ => absurd ‹_› (by omega)⟩, ⟨fun _ => absurd ‹_› (by omega)⟩, by first | trivial | rfl⟩
        case measure => simp [intOf]
    · go_wp2_with fail
      refine (Tryz.strings_HasPrefix s ⟨#[62, 61]⟩ _).mono ?_
      rintro e w' ⟨rfl, rfl⟩
      rw [show (⟨#[62, 61]⟩ : ByteArray).data.toList = [62, 61] from rfl]
      cases hp : Lib.hasPrefix s.data.toList [62, 61] with
      | true =>
        have HO := Asd.mk (HT.out 62 61 hp (by decide))
        clear hp
        go_wp2
        go_ret
        exact ⟨ret_eq (by rw [HO.out]; rfl), rfl⟩
      | false =>
        have HP := Asd.mk hp
        clear hp
        go_wp2
        go_roundw
        case rel => exact ⟨3, by omega, by first | rfl | go_num, ⟨fun _ => HK0.out (by omega)⟩, ⟨fun _ => HK1.out (by omega)⟩, ⟨fun _ => HP.out⟩, ⟨fun _ => absurd ‹_› (by omega)⟩, by first | trivial | rfl⟩
        case measure => simp [intOf]
    · go_wp2_with fail
      refine (Tryz.strings_HasPrefix s ⟨#[124, 124]⟩ _).mono ?_
      rintro e w' ⟨rfl, rfl⟩
      rw [show (⟨#[124, 124]⟩ : ByteArray).data.toList = [124, 124] from rfl]
      cases hp : Lib.hasPrefix s.data.toList [124, 124] with
      | true =>
        have HO := Asd.mk (HT.out 124 124 hp (by decide))
        clear hp
        go_wp2
        go_ret
        exact ⟨ret_eq (by rw [HO.out]; rfl), rfl⟩
      | false =>
        have HP := Asd.mk hp
        clear hp
        go_wp2
        go_roundw
        case rel => exact ⟨4, by omega, by first | rfl | go_num, ⟨fun _ => HK0.out (by omega)⟩, ⟨fun _ => HK1.out (by omega)⟩, ⟨fun _ => HK2.out (by omega)⟩, ⟨fun _ => HP.out⟩, by first | trivial | rfl⟩
        case measure => simp [intOf]
    · have HO := Asd.mk (HE.out (HK0.out (by omega)) (HK1.out (by omega)) (HK2.out (by omega)) (HK3.out (by omega)))
      go_wp2_with fail
      refine (Tryz.strings_IndexByte ⟨#[40, 41, 44, 46, 42, 61, 60, 62, 43, 45, 47, 37, 59]⟩ (s[0].toNat : Int) _).mono ?_
      rintro e w' ⟨rfl, rfl⟩
      rw [show ((s[0].toNat : Int).toNat.toUInt8) = s[0] by simp, show (⟨#[40, 41, 44, 46, 42, 61, 60, 62, 43, 45, 47, 37, 59]⟩ : ByteArray).data.toList = symBytes from rfl]
      generalize Lib.indexByte symBytes s[0] = ix at HO
      by_cases h0 : 0 ≤ ix
      · have HO2 : Asd (symP s.data.toList = 1) := Asd.mk (by rw [HO.out]; exact if_pos h0)
        go_wp2
        go_ret
        exact ⟨ret_eq (by rw [HO2.out]; rfl), rfl⟩
      · have HO2 : Asd (symP s.data.toList = 0) := Asd.mk (by rw [HO.out]; exact if_neg h0)
        go_wp2
        go_ret
        exact ⟨ret_eq (by rw [HO2.out]; rfl), rfl⟩
end Go.Proofs.YtcefmhofidoloaaGreatDoor.Lex

/- strconv.ParseUint of two hexadecimal digits; ContainsAny; the plain law of blobs. -/
set_option linter.unusedVariables false
set_option linter.unusedSimpArgs false
namespace Go.Proofs.YtcefmhofidoloaaGreatDoor.Lex
open Go.RowKit Go.Proofs.YtcefmhofidoloaaGreatDoor.Base Go.Proofs.YtcefmhofidoloaaGreatDoor.App Go.Proofs.YtcefmhofidoloaaGreatDoor.Byt

def HexedP (l : List UInt8) (w : World) (e : Ending) (w' : World) : Prop :=
  Below w.heap.size w w' ∧ match hexT l with
  | some n => e = .returned (.tuple #[.int .u64 (n : Int), .nilIface])
  | none => ∃ p, e = .returned (.tuple #[.int .u64 0, .iface 250 p])
set_option maxRecDepth 100000 in
set_option maxHeartbeats 1600000 in
theorem parse_calls (s : ByteArray) (w : World) (h2 : s.size = 2) (hw : LexW w) :
    Calls Tryz.prog 173 #[.string s, .int .i64 16, .int .i64 8] w fun e w' => HexedP s.data.toList w e w' := by
  have HW := Asd.mk hw
  clear hw
  have HS2 := Asd.mk h2
  clear h2
  cases hx : hexT s.data.toList with
  | some n =>
    have HX := Asd.mk hx
    clear hx
    go_enter Tryz.func173, Tryz.ntmps173
    go_wp2_with fail
    refine (hex_calls s _ HS2.out).mono ?_
    rintro e w' ⟨hb, he⟩
    rw [HX.out] at he
    obtain rfl := he
    have HB := Asd.mk hb
    clear hb
    go_wp2
    refine bodyPost_ret (results_tmp2 rfl _ _ _) rfl ?_
    exact ⟨HB.out, by rw [HX.out]; rfl⟩
  | none =>
    have HX := Asd.mk hx
    clear hx
    go_enter Tryz.func173, Tryz.ntmps173
    go_wp2_with fail
    refine (hex_calls s _ HS2.out).mono ?_
    rintro e w1 ⟨hb, he⟩
    rw [HX.out] at he
    obtain rfl := he
    have HB := Asd.mk hb
    have HW1 := Asd.mk (HW.out.below hb)
    clear hb
    go_wp2_with fail
    obtain ⟨t, p, hv⟩ := HW1.out.syn
    refine (Tryz.strconv_toError_syntax ⟨#[80, 97, 114, 115, 101, 85, 105, 110, 116]⟩ s 16 8 (.iface t p) w1 (by have := HS2.out; omega) hv (.inr ⟨t, p, rfl⟩)).mono ?_
    rintro e w2 ⟨N, rfl, _, _, hb2⟩
    have HB2 : Asd (Below w.heap.size w w2) := Asd.mk (HB.out.trans (hb2.mono HB.out.size))
    clear hb2 hv
    go_wp2
    refine bodyPost_ret (results_tmp2 rfl _ _ _) rfl ?_
    exact ⟨HB2.out, by rw [HX.out]; exact ⟨_, rfl⟩⟩

theorem iter_below (w : World) (s : ByteArray) (p : Nat) : Below w.heap.size w (w.iter s p) := below_alloc (Below.refl _ w) _

set_option maxRecDepth 100000 in
set_option maxHeartbeats 1600000 in
theorem any_calls (s chars : ByteArray) (w : World) (h2 : 2 ≤ chars.size) (h8 : s.size ≤ 8) (hascii : ∀ (j : Nat) b, s.data.toList[j]? = some b → b.toNat < 128) (hno : Lib.indexAny s.data.toList chars.data.toList = -1) :
    Calls Tryz.prog 174 #[.string s, .string chars] w fun e w' => e = .returned (.bool false) ∧ Below w.heap.size w w' := by
  have HC := Asd.mk (Tryz.strings_IndexAny_short s chars w h2 h8 hascii)
  have HNO := Asd.mk hno
  clear h2 h8 hascii hno
  go_enter Tryz.func174, Tryz.ntmps174
  go_wp2_with fail
  refine HC.out.mono ?_
  rintro e w1 ⟨rfl, pos, rfl⟩
  rw [HNO.out]
  have HB := Asd.mk (iter_below w s pos)
  generalize w.iter s pos = w1 at HB ⊢
  go_wp2
  go_ret
  exact ⟨ret_eq rfl, HB.out⟩

theorem hexT_two (a b : UInt8) : hexT [a, b] = hexPair a b := by
  unfold hexT hexPair
  simp
theorem hexPair_lt {a b : UInt8} {n : Nat} (h : hexPair a b = some n) : n < 256 := by
  unfold hexPair at h
  obtain ⟨x, hx, h⟩ := Option.bind_eq_some_iff.mp h
  obtain ⟨y, hy, rfl⟩ := Option.map_eq_some_iff.mp h
  have := hexV_lt hx
  have := hexV_lt hy
  omega
theorem hexV_ascii {c : UInt8} {v : Nat} (h : hexV c = some v) : c.toNat < 128 ∧ ¬ c ∈ [(43 : UInt8), 45, 95] := by
  have hn : ∀ d : UInt8, d ∈ [(43 : UInt8), 45, 95] → hexV d = none := by decide
  refine ⟨?_, fun hm => by rw [hn c hm] at h; cases h⟩
  unfold hexV at h
  split at h
  · rename_i hd
    simp [digN] at hd
    omega
  · split at h
    · omega
    · split at h
      · omega
      · cases h
theorem hexPair_ascii {a b : UInt8} {n : Nat} (h : hexPair a b = some n) : (∀ (j : Nat) c, [a, b][j]? = some c → c.toNat < 128) ∧ Lib.indexAny [a, b] [43, 45, 95] = -1 := by
  unfold hexPair at h
  obtain ⟨x, hx, h⟩ := Option.bind_eq_some_iff.mp h
  obtain ⟨y, hy, rfl⟩ := Option.map_eq_some_iff.mp h
  have h1 := hexV_ascii hx
  have h2 := hexV_ascii hy
  refine ⟨fun j c hj => ?_, ?_⟩
  · match j, hj with
    | 0, hj => simp at hj; subst hj; exact h1.1
    | 1, hj => simp at hj; subst hj; exact h2.1
    | j + 2, hj => simp at hj
  · have e1 : ([(43 : UInt8), 45, 95].contains a) = false := by simpa using h1.2
    have e2 : ([(43 : UInt8), 45, 95].contains b) = false := by simpa using h2.2
    simp only [Lib.indexAny, e1, e2]
    rfl

theorem unhex_cons (a b : UInt8) (r : List UInt8) : unhex (a :: b :: r) = (hexPair a b).bind fun x => (unhex r).map fun l => UInt8.ofNat x :: l := by rw [unhex]
theorem unhex_odd : ∀ (n : Nat) (l : List UInt8), l.length = 2 * n + 1 → unhex l = none
  | 0, [a], _ => rfl
  | 0, [], h => by simp at h
  | 0, a :: b :: r, h => by simp at h
  | n + 1, [], h => by simp at h
  | n + 1, [a], h => by simp at h
  | n + 1, a :: b :: r, h => by
    rw [unhex_cons, unhex_odd n r (by simp only [List.length_cons] at h; omega)]
    cases hexPair a b <;> rfl
/-- What of the digits is read so far. -/
def BlobSt (D l : List UInt8) (q : List UInt8) : Prop := unhex D = (unhex q).map (fun x => l ++ x)
theorem BlobSt.step {D l q : List UInt8} {a b : UInt8} {n : Nat} (h : BlobSt D l (a :: b :: q)) (hn : hexPair a b = some n) : BlobSt D (l ++ [UInt8.ofNat n]) q := by
  unfold BlobSt at h ⊢
  rw [h, unhex_cons, hn, Option.bind_some, Option.map_map]
  congr 1
  funext x
  simp
theorem BlobSt.stop {D l q : List UInt8} {a b : UInt8} (h : BlobSt D l (a :: b :: q)) (hn : hexPair a b = none) : unhex D = none := by
  unfold BlobSt at h
  rw [h, unhex_cons, hn]
  rfl
theorem BlobSt.done {D l : List UInt8} (h : BlobSt D l []) : unhex D = some l := by
  unfold BlobSt at h
  rw [h]
  simp [unhex]
def blobO (r : List UInt8) : List UInt8 × Nat := match blobP r with | none => ([], 0) | some x => x
theorem blobO_no {r : List UInt8} (h : ¬ 39 ∈ r) : blobO r = ([], 0) := by rw [blobO, blobP, if_neg h]
theorem blobO_bad {r : List UInt8} (h : unhex (r.takeWhile (· != 39)) = none) : blobO r = ([], 0) := by
  rw [blobO, blobP]
  split
  · rfl
  · rename_i heq
    split at heq
    · rw [h] at heq; cases heq
    · cases heq
theorem blobO_good {r l : List UInt8} (hm : 39 ∈ r) (h : unhex (r.takeWhile (· != 39)) = some l) : blobO r = (l, (r.takeWhile (· != 39)).length + 2) := by
  rw [blobO, blobP, if_pos hm, h]
  rfl
theorem index_take : ∀ (l : List UInt8) (c : UInt8), c ∈ l → Lib.indexByte l c = (l.takeWhile (· != c)).length
  | [], c, h => by simp at h
  | b :: l, c, h => by
    unfold Lib.indexByte
    by_cases hb : b = c
    · subst hb
      simp
    · have hm : c ∈ l := by
        rcases List.mem_cons.mp h with e | h
        · exact absurd e.symm hb
        · exact h
      have ih := index_take l c hm
      have h1 : (b == c) = false := by simpa using hb
      have h2 : (b != c) = true := by simp [bne, h1]
      rw [h1, List.takeWhile_cons, h2, ih]
      simp
theorem index_not (l : List UInt8) (c : UInt8) (h : ¬ c ∈ l) : Lib.indexByte l c = -1 := by
  have h1 := Lib.indexByte_ge l c
  have h2 : ¬ 0 ≤ Lib.indexByte l c := fun h0 => h ((indexByte_nn l c).mp h0)
  omega
theorem take_take (l : List UInt8) (c : UInt8) : l.take (l.takeWhile (· != c)).length = l.takeWhile (· != c) := by
  have h : l.takeWhile (· != c) ++ l.dropWhile (· != c) = l := List.takeWhile_append_dropWhile
  have := List.take_left' (l₁ := l.takeWhile (· != c)) (l₂ := l.dropWhile (· != c)) rfl
  rwa [h] at this
theorem cut_yes {l : List UInt8} (h : 39 ∈ l) : (Lib.cut l [39]).1 = l.takeWhile (· != 39) ∧ (Lib.cut l [39]).2.2 = true := by
  have hi := index_take l 39 h
  unfold Lib.cut
  rw [Lib.index_one, hi, if_pos (by omega)]
  exact ⟨by rw [Int.toNat_natCast]; exact take_take l 39, rfl⟩
theorem cut_no {l : List UInt8} (h : ¬ 39 ∈ l) : (Lib.cut l [39]).1 = l ∧ (Lib.cut l [39]).2.2 = false := by
  have hi := index_not l 39 h
  unfold Lib.cut
  rw [Lib.index_one, hi, if_neg (by omega)]
  exact ⟨rfl, rfl⟩
end Go.Proofs.YtcefmhofidoloaaGreatDoor.Lex

/- blob. -/
set_option linter.unusedVariables false
set_option linter.unusedSimpArgs false
namespace Go.Proofs.YtcefmhofidoloaaGreatDoor.Lex
open Go.RowKit Go.Proofs.YtcefmhofidoloaaGreatDoor.Base Go.Proofs.YtcefmhofidoloaaGreatDoor.App Go.Proofs.YtcefmhofidoloaaGreatDoor.Byt

theorem ext_list (s : ByteArray) (a b : Nat) : (s.extract a b).data.toList = (s.data.toList.take b).drop a := by
  simp [ByteArray.data_extract, List.extract_eq_take_drop, List.drop_take]
theorem ext_size (s : ByteArray) (a b : Nat) : (s.extract a b).size = min b s.size - a := by
  simp [ByteArray.size_extract]
theorem takeW_le (p : UInt8 → Bool) : ∀ l : List UInt8, (l.takeWhile p).length ≤ l.length
  | [] => Nat.le_refl _
  | c :: r => by
    rw [List.takeWhile_cons]
    have := takeW_le p r
    split
    · simp only [List.length_cons]; omega
    · simp
theorem below_drewN' (w : World) (n : Nat) : Below w.heap.size w (w.drewN n) :=
  have h := Below.refl w.heap.size w
  ⟨h.os, h.tape, h.output, h.size, h.block⟩
theorem two_at {D : List UInt8} {k : Nat} (h : k + 2 ≤ D.length) : ∃ a b, D.drop k = a :: b :: D.drop (k + 2) ∧ (D.take (k + 2)).drop k = [a, b] := by
  refine ⟨D[k], D[k + 1], ?_, ?_⟩
  · rw [List.drop_eq_getElem_cons (by omega), List.drop_eq_getElem_cons (by omega)]
  · rw [List.drop_take, show k + 2 - k = 2 by omega, List.drop_eq_getElem_cons (by omega), List.drop_eq_getElem_cons (by omega)]
    rfl

theorem own_below {W W' : World} {B : Nat} {e : TypeId} {s : Nat} {v : Value} {n : Nat} {xs : List Value} (h : W.ownsRow B e s v n xs) (hb : Below W.heap.size W W') : W'.ownsRow B e s v n xs :=
  h.kept (row := none) ⟨hb.os, hb.tape, hb.output, hb.size, fun j hj _ => hb.block j hj⟩ (by cases hv : v.ownBlock <;> simp)
theorem bld_at_old {B b : Nat} {p : Value} {bs : List Value} {w w' : World} (h : Lib.BuilderAt 149 5 B b p bs w) (hb : Below w.heap.size w w') : Lib.BuilderAt 149 5 B b p bs w' := by
  obtain ⟨h1, v, h2, h3, h4⟩ := h
  exact ⟨h1, v, blk_below hb h2, own_below h3 hb, h4⟩
theorem bld_old {B b : Nat} {bs : List Value} {w w' : World} (h : Lib.IsBuilder 149 5 B b bs w) (hb : Below w.heap.size w w') : Lib.IsBuilder 149 5 B b bs w' := by
  rcases h with h | h
  · exact .inl (bld_at_old h hb)
  · exact .inr (bld_at_old h hb)
theorem byte_of {n : Nat} (h : n < 256) : Value.int .u8 (n : Int) = .int .u8 ((UInt8.ofNat n).toNat : Int) := by
  rw [UInt8.toNat_ofNat', Nat.mod_eq_of_lt h]
set_option maxRecDepth 100000 in
set_option maxHeartbeats 3200000 in
theorem blob_calls (s : ByteArray) (w : World) (h1 : 1 ≤ s.size) (hs : s.size ≤ 1048576) (hw : LexW w) :
    Calls Tryz.prog 106 #[.string s] w fun e w' => e = .returned (.tuple #[.string ⟨(blobO (s.data.toList.drop 1)).1.toArray⟩, .int .i64 ((blobO (s.data.toList.drop 1)).2 : Nat)]) ∧ Below w.heap.size w w' := by
  have HW := Asd.mk hw
  clear hw
  have HXL : Asd ((s.extract 1 s.size).data.toList = s.data.toList.drop 1) := Asd.mk (by
    rw [ext_list, List.take_of_length_le (Nat.le_of_eq (show s.data.toList.length = s.size from rfl))])
  have HXS : Asd ((s.extract 1 s.size).size ≤ 1048576) := Asd.mk (by rw [ext_size]; omega)
  have HTL : Asd (((s.data.toList.drop 1).takeWhile (· != 39)).length ≤ 1048576) := Asd.mk (by
    have h := takeW_le (· != (39 : UInt8)) (s.data.toList.drop 1)
    rw [List.length_drop] at h
    have : s.data.toList.length = s.size := rfl
    omega)
  go_enter Tryz.func106, Tryz.ntmps106
  generalize hR : s.data.toList.drop 1 = R at HXL HTL ⊢
  clear hR
  go_wp2_with fail
  refine (Tryz.strings_Cut_shaped (s.extract 1 s.size) ⟨#[39]⟩ _ HW.out.shaped (by have := HXS.out; omega)).mono ?_
  rintro e w1 ⟨rfl, n0, rfl⟩
  rw [HXL.out, show (⟨#[39]⟩ : ByteArray).data.toList = [39] from rfl]
  have HB1 := Asd.mk (below_drewN' w n0)
  have HW1 := Asd.mk (HW.out.below HB1.out)
  generalize w.drewN n0 = w1 at HB1 HW1 ⊢
  generalize (Lib.cut R [39]).2.1 = rest
  by_cases hm : 39 ∈ R
  · obtain ⟨c1, c2⟩ := cut_yes hm
    have HG : Asd (∀ l, unhex (R.takeWhile (· != 39)) = some l → blobO R = (l, (R.takeWhile (· != 39)).length + 2)) := Asd.mk fun l h => blobO_good hm h
    have HNG : Asd (unhex (R.takeWhile (· != 39)) = none → blobO R = ([], 0)) := Asd.mk fun h => blobO_bad h
    rw [c1, c2]
    clear c1 c2 hm
    generalize R.takeWhile (· != 39) = D at HG HNG HTL ⊢
    have HDL : Asd ((⟨D.toArray⟩ : ByteArray).data.toList = D) := Asd.mk (by simp)
    have HDS : Asd ((⟨D.toArray⟩ : ByteArray).size = D.length) := Asd.mk (by simp [ByteArray.size])
    generalize (⟨D.toArray⟩ : ByteArray) = d at HDL HDS ⊢
    have hds : d.size ≤ 1048576 := by rw [HDS.out]; exact HTL.out
    by_cases hpar : d.size % 2 = 0
    · have e0 : (d.size : Int).tmod 2 = 0 := by rw [Int.tmod_eq_emod_of_nonneg (by omega)]; omega
      have e1 : (d.size : Int) % 2 = 0 := by omega
      have HPAR := Asd.mk hpar
      clear hpar
      have HBF := Asd.mk (bld_fresh w1)
      have HB2 : Asd (Below w.heap.size w (w1.alloc (.cells #[.pointer none, .slice none 0 0] 149))) := Asd.mk (below_alloc HB1.out _)
      have HW2 : Asd (LexW (w1.alloc (.cells #[.pointer none, .slice none 0 0] 149))) := Asd.mk (HW1.out.below (below_alloc (Below.refl _ _) _))
      have HL2 : Asd (w1.heap.size ≤ (w1.alloc (.cells #[.pointer none, .slice none 0 0] 149)).heap.size) := Asd.mk (by simp)
      have HBW : Asd (w.heap.size ≤ w1.heap.size) := Asd.mk HB1.out.size
      go_upto_region 5 with fail
      generalize w1.alloc (.cells #[.pointer none, .slice none 0 0] 149) = w2 at HBF HB2 HL2 HW2 ⊢
      generalize w1.heap.size = b at HBF HL2 HBW ⊢
      clear e0 e1
      go_wp2
      go_loopw [8] (fun v wr => ∃ (k : Nat) (l : List UInt8), k ≤ d.size ∧ v = .int .i64 (k : Int) ∧ Asd (k % 2 = 0) ∧ Asd (l.length ≤ k) ∧ Asd (BlobSt D l (D.drop k)) ∧ Asd (Lib.IsBuilder 149 5 b b (Lib.byteCells l) wr) ∧ Asd (Below b w2 wr) ∧ Asd (LexW wr)) (fun v _ => d.size - (intOf v).toNat)
      case atStart => exact ⟨0, [], by omega, rfl, ⟨rfl⟩, ⟨Nat.le_refl _⟩, ⟨by unfold BlobSt; simp⟩, HBF, ⟨Below.refl _ _⟩, HW2⟩
      case round =>
        obtain ⟨k, l, hk, rfl, HK2, HLL, HS, HBD, HBR, HWR⟩ := hrel
        by_cases hlt : k < d.size
        · have hk2 : k + 2 ≤ d.size := by have := HK2.out; have := HPAR.out; omega
          obtain ⟨a, b', hd1, hd2⟩ := two_at (D := D) (k := k) (by rw [← HDS.out]; exact hk2)
          have HE : Asd ((d.extract k (k + 2)).data.toList = [a, b']) := Asd.mk (by rw [ext_list, HDL.out, hd2])
          have HES : Asd ((d.extract k (k + 2)).size = 2) := Asd.mk (by rw [ext_size]; omega)
          rw [hd1] at HS
          clear hd1 hd2
          go_wp2_with fail
          refine (parse_calls (d.extract k (k + 2)) _ HES.out HWR.out).mono ?_
          rintro e w3 ⟨hb3, he⟩
          rw [HE.out, hexT_two] at he
          have HB3 : Asd (Below b w2 w3) := Asd.mk (HBR.out.trans (hb3.mono (by have := HL2.out; have := HBR.out.size; omega)))
          have HW3 := Asd.mk (HWR.out.below hb3)
          have HBD3 := Asd.mk (bld_old HBD.out hb3)
          clear hb3
          cases hx : hexPair a b' with
          | none =>
            rw [hx] at he
            obtain ⟨p, rfl⟩ := he
            have HO := Asd.mk (HNG.out (HS.out.stop hx))
            have HBE : Asd (Below w.heap.size w w3) := Asd.mk (HB2.out.trans (HB3.out.mono HBW.out))
            clear hx
            go_wp2
            refine bodyPost_ret (results_tmp2 rfl _ _ _) rfl ?_
            exact ⟨ret_eq (by rw [HO.out]; rfl), HBE.out⟩
          | some n =>
            rw [hx] at he
            obtain rfl := he
            have hn := hexPair_lt hx
            have HAS := Asd.mk (hexPair_ascii hx)
            have HS2 := Asd.mk (HS.out.step hx)
            have HBY := Asd.mk (byte_of hn)
            have hw8 : IntKind.u8.wrap (n : Int) = (n : Int) := by
              simp [IntKind.wrap, IntKind.signed, IntKind.bits]
              omega
            clear hx
            go_wp2_with fail
            refine (any_calls (d.extract k (k + 2)) ⟨#[43, 45, 95]⟩ _ (by decide) (by rw [HES.out]; decide) (by rw [HE.out]; exact HAS.out.1) (by rw [HE.out]; exact HAS.out.2)).mono ?_
            rintro e w4 ⟨rfl, hb4⟩
            have HB4 : Asd (Below b w2 w4) := Asd.mk (HB3.out.trans (hb4.mono (by have := HL2.out; have := HB3.out.size; omega)))
            have HW4 := Asd.mk (HW3.out.below hb4)
            have HBD4 := Asd.mk (bld_old HBD3.out hb4)
            clear hb4
            go_wp2_with fail
            refine (Tryz.Builder_WriteByte b b _ _ w4 HBD4.out (by rw [byteCells_len]; have := HLL.out; omega) (by have := HL2.out; have := HB4.out.size; omega)).mono ?_
            rintro e w5 ⟨rfl, hbd, hb5⟩
            rw [HBY.out, ← byteCells_snoc] at hbd
            have HBD5 := Asd.mk hbd
            have HB5 : Asd (Below b w2 w5) := Asd.mk (HB4.out.trans hb5)
            have HW5 : Asd (LexW w5) := Asd.mk (HW.out.below (HB2.out.trans (HB5.out.mono HBW.out)))
            clear hbd hb5
            go_wp2
            go_roundw
            case rel => exact ⟨k + 2, _, hk2, by go_num, ⟨by have := HK2.out; omega⟩, ⟨by have := HLL.out; simp; omega⟩, HS2, ⟨.inr HBD5.out⟩, HB5, HW5⟩
            case measure => simp [intOf]; omega
        · obtain rfl : k = d.size := by omega
          have HO := Asd.mk (HG.out l (BlobSt.done (by
            have := HS.out
            rwa [List.drop_of_length_le (by rw [HDS.out]; exact Nat.le_refl _)] at this)))
          clear hlt
          go_wp2_with fail
          refine (Tryz.Builder_String_any b b _ wr HBD.out (by have := HL2.out; have := HBR.out.size; omega)).mono ?_
          rintro e w5 ⟨rfl, hb5⟩
          have HBE : Asd (Below w.heap.size w w5) := Asd.mk (HB2.out.trans ((HBR.out.trans hb5).mono HBW.out))
          clear hb5
          go_wp2
          refine bodyPost_ret (results_tmp2 rfl _ _ _) rfl ?_
          exact ⟨ret_eq (by rw [HO.out, ← HDS.out]; rfl), HBE.out⟩
    · have hp1 : d.size % 2 = 1 := by omega
      have e0 : (d.size : Int).tmod 2 = 1 := by rw [Int.tmod_eq_emod_of_nonneg (by omega)]; omega
      have e1 : (d.size : Int) % 2 = 1 := by omega
      have HO := Asd.mk (HNG.out (unhex_odd (d.size / 2) D (by rw [← HDS.out]; omega)))
      clear hpar hp1
      go_wp2
      refine bodyPost_ret (results_tmp2 rfl _ _ _) rfl ?_
      exact ⟨ret_eq (by rw [HO.out]; rfl), HB1.out⟩
  · obtain ⟨c1, c2⟩ := cut_no hm
    have HO := Asd.mk (blobO_no hm)
    rw [c2]
    clear c1 c2 hm
    generalize (⟨(Lib.cut R [39]).1.toArray⟩ : ByteArray) = d
    go_wp2
    refine bodyPost_ret (results_tmp2 rfl _ _ _) rfl ?_
    exact ⟨ret_eq (by rw [HO.out]; rfl), HB1.out⟩
end Go.Proofs.YtcefmhofidoloaaGreatDoor.Lex

/- run, lowered. -/
set_option linter.unusedVariables false
set_option linter.unusedSimpArgs false
namespace Go.Proofs.YtcefmhofidoloaaGreatDoor.Lex
open Go.RowKit Go.Proofs.YtcefmhofidoloaaGreatDoor.Base Go.Proofs.YtcefmhofidoloaaGreatDoor.App Go.Proofs.YtcefmhofidoloaaGreatDoor.Byt

set_option maxRecDepth 100000 in
set_option maxHeartbeats 1600000 in
theorem run_word (s : ByteArray) (w : World) (hs : s.size ≤ 1048576) :
    Calls Tryz.prog 108 #[.string s, .func (.func 109) #[] #[]] w fun e w' => e = .returned (.int .i64 (runP isWrd s.data.toList : Nat)) ∧ w' = w := by
  go_enter Tryz.func108, Tryz.ntmps108
  go_wp2
  go_loopw [5] (fun v wr => ∃ k : Nat, k ≤ s.size ∧ v = .int .i64 (k : Int) ∧ Asd (runP isWrd s.data.toList = k + runP isWrd (s.data.toList.drop k)) ∧ wr = w) (fun v _ => s.size - (intOf v).toNat)
  case atStart => exact ⟨0, by omega, rfl, ⟨by simp⟩, rfl⟩
  case round =>
    obtain ⟨k, hk, rfl, HR, rfl⟩ := hrel
    by_cases hlt : k < s.size
    · have HD := Asd.mk (drop_cons s k hlt)
      have hc := s[k].toNat_lt
      cases hp : isWrd s[k] with
      | true =>
        have HR2 : Asd (runP isWrd s.data.toList = (k + 1) + runP isWrd (s.data.toList.drop (k + 1))) := Asd.mk (by
          rw [HR.out, HD.out, runP, if_pos hp]; omega)
        have HP := Asd.mk hp
        clear hp
        go_wp2_with fail
        refine (word_calls s[k].toNat hc _).mono ?_
        rintro e w' ⟨rfl, rfl⟩
        rw [show (letN s[k].toNat || digN s[k].toNat) = true from HP.out]
        go_wp2
        go_roundw
        case rel => exact ⟨k + 1, by omega, by go_num, HR2, by first | trivial | rfl⟩
        case measure => simp [intOf]; omega
      | false =>
        have HR2 : Asd (runP isWrd s.data.toList = k) := Asd.mk (by
          rw [HR.out, HD.out, runP, hp]; rfl)
        have HP := Asd.mk hp
        clear hp
        go_wp2_with fail
        refine (word_calls s[k].toNat hc _).mono ?_
        rintro e w' ⟨rfl, rfl⟩
        rw [show (letN s[k].toNat || digN s[k].toNat) = false from HP.out]
        go_wp2
        go_ret
        exact ⟨ret_eq (by rw [HR2.out]; rfl), rfl⟩
    · obtain rfl : k = s.size := by omega
      have HR2 : Asd (runP isWrd s.data.toList = s.size) := Asd.mk (by
        rw [HR.out, List.drop_of_length_le (Nat.le_of_eq (show s.data.toList.length = s.size from rfl))]; rfl)
      clear hlt
      go_wp2
      go_ret
      exact ⟨ret_eq (by rw [HR2.out]; rfl), rfl⟩

set_option maxRecDepth 100000 in
set_option maxHeartbeats 1600000 in
theorem run_digit (s : ByteArray) (w : World) (hs : s.size ≤ 1048576) :
    Calls Tryz.prog 108 #[.string s, .func (.func 110) #[] #[]] w fun e w' => e = .returned (.int .i64 (runP isDig s.data.toList : Nat)) ∧ w' = w := by
  go_enter Tryz.func108, Tryz.ntmps108
  go_wp2
  go_loopw [5] (fun v wr => ∃ k : Nat, k ≤ s.size ∧ v = .int .i64 (k : Int) ∧ Asd (runP isDig s.data.toList = k + runP isDig (s.data.toList.drop k)) ∧ wr = w) (fun v _ => s.size - (intOf v).toNat)
  case atStart => exact ⟨0, by omega, rfl, ⟨by simp⟩, rfl⟩
  case round =>
    obtain ⟨k, hk, rfl, HR, rfl⟩ := hrel
    by_cases hlt : k < s.size
    · have HD := Asd.mk (drop_cons s k hlt)
      have hc := s[k].toNat_lt
      cases hp : isDig s[k] with
      | true =>
        have HR2 : Asd (runP isDig s.data.toList = (k + 1) + runP isDig (s.data.toList.drop (k + 1))) := Asd.mk (by
          rw [HR.out, HD.out, runP, if_pos hp]; omega)
        have HP := Asd.mk hp
        clear hp
        go_wp2_with fail
        refine (digit_calls s[k].toNat hc _).mono ?_
        rintro e w' ⟨rfl, rfl⟩
        rw [show (digN s[k].toNat) = true from HP.out]
        go_wp2
        go_roundw
        case rel => exact ⟨k + 1, by omega, by go_num, HR2, by first | trivial | rfl⟩
        case measure => simp [intOf]; omega
      | false =>
        have HR2 : Asd (runP isDig s.data.toList = k) := Asd.mk (by
          rw [HR.out, HD.out, runP, hp]; rfl)
        have HP := Asd.mk hp
        clear hp
        go_wp2_with fail
        refine (digit_calls s[k].toNat hc _).mono ?_
        rintro e w' ⟨rfl, rfl⟩
        rw [show (digN s[k].toNat) = false from HP.out]
        go_wp2
        go_ret
        exact ⟨ret_eq (by rw [HR2.out]; rfl), rfl⟩
    · obtain rfl : k = s.size := by omega
      have HR2 : Asd (runP isDig s.data.toList = s.size) := Asd.mk (by
        rw [HR.out, List.drop_of_length_le (Nat.le_of_eq (show s.data.toList.length = s.size from rfl))]; rfl)
      clear hlt
      go_wp2
      go_ret
      exact ⟨ret_eq (by rw [HR2.out]; rfl), rfl⟩

end Go.Proofs.YtcefmhofidoloaaGreatDoor.Lex

/- text: a quoted text. -/
set_option linter.unusedVariables false
set_option linter.unusedSimpArgs false
namespace Go.Proofs.YtcefmhofidoloaaGreatDoor.Lex
open Go.RowKit Go.Proofs.YtcefmhofidoloaaGreatDoor.Base Go.Proofs.YtcefmhofidoloaaGreatDoor.App Go.Proofs.YtcefmhofidoloaaGreatDoor.Byt

theorem textP_q0 : textP [39] = some ([], 1) := by rw [textP.eq_def]; rfl
theorem textP_q1 {d : UInt8} (h : d ≠ 39) (r : List UInt8) : textP (39 :: d :: r) = some ([], 1) := by rw [textP.eq_def]; simp [h]
theorem textP_q2 (r : List UInt8) : textP (39 :: 39 :: r) = (textP r).map (fun x => (39 :: x.1, x.2 + 2)) := by rw [textP.eq_def]; rfl
theorem textP_c {c : UInt8} (h : c ≠ 39) (r : List UInt8) : textP (c :: r) = (textP r).map (fun x => (c :: x.1, x.2 + 1)) := by rw [textP.eq_def]; simp [h]
theorem textP_nil : textP [] = none := by rw [textP.eq_def]
def textO (r : List UInt8) : List UInt8 × Nat := match textP r with | none => ([], 0) | some x => (x.1, x.2 + 1)

/-- What is read so far. -/
def TextSt (r : List UInt8) (l : List UInt8) (k : Nat) (q : List UInt8) : Prop := 1 ≤ k ∧ textP r = (textP q).map (fun x => (l ++ x.1, x.2 + (k - 1)))
theorem TextSt.done {r l q : List UInt8} {k : Nat} (h : TextSt r l k q) (hq : textP q = some ([], 1)) : textO r = (l, k + 1) := by
  have h1 := h.1
  rw [textO, h.2, hq]
  simp
  omega
theorem TextSt.none {r l : List UInt8} {k : Nat} (h : TextSt r l k []) : textO r = ([], 0) := by
  rw [textO, h.2, textP_nil]; rfl
theorem TextSt.step {r l q : List UInt8} {k : Nat} {c : UInt8} (h : TextSt r l k (c :: q)) (hc : c ≠ 39) : TextSt r (l ++ [c]) (k + 1) q := by
  refine ⟨by omega, ?_⟩
  have h1 := h.1
  rw [h.2, textP_c hc, Option.map_map]
  congr 1
  funext x
  simp
  omega
theorem TextSt.two {r l q : List UInt8} {k : Nat} (h : TextSt r l k (39 :: 39 :: q)) : TextSt r (l ++ [39]) (k + 2) q := by
  refine ⟨by omega, ?_⟩
  have h1 := h.1
  rw [h.2, textP_q2, Option.map_map]
  congr 1
  funext x
  simp
  omega

set_option maxRecDepth 100000 in
set_option maxHeartbeats 3200000 in
theorem text_calls (s : ByteArray) (w : World) (h1 : 1 ≤ s.size) (hs : s.size ≤ 1048576) :
    Calls Tryz.prog 113 #[.string s] w fun e w' => e = .returned (.tuple #[.string ⟨(textO (s.data.toList.drop 1)).1.toArray⟩, .int .i64 ((textO (s.data.toList.drop 1)).2 : Nat)]) ∧ Below w.heap.size w w' := by
  have HBF := Asd.mk (bld_fresh w)
  have HB2 : Asd (Below w.heap.size w (w.alloc (.cells #[.pointer none, .slice none 0 0] 149))) := Asd.mk (below_alloc (Below.refl _ w) _)
  have HL2 : Asd (w.heap.size ≤ (w.alloc (.cells #[.pointer none, .slice none 0 0] 149)).heap.size) := Asd.mk (by simp)
  have HLN : Asd (s.data.toList.length = s.size) := Asd.mk rfl
  go_enter Tryz.func113, Tryz.ntmps113
  go_upto_region 2 with fail
  generalize w.alloc (.cells #[.pointer none, .slice none 0 0] 149) = w2 at HBF HB2 HL2 ⊢
  generalize hb : w.heap.size = b at HBF HL2 HB2 ⊢
  have HBW := Asd.mk hb
  clear hb
  go_wp2
  go_loopw [5] (fun i wr => ∃ (k : Nat) (l : List UInt8), k ≤ s.size ∧ l.length ≤ k ∧ i = .int .i64 (k : Int) ∧ Asd (TextSt (s.data.toList.drop 1) l k (s.data.toList.drop k)) ∧ Asd (Lib.IsBuilder 149 5 b b (Lib.byteCells l) wr) ∧ Asd (Below b w2 wr)) (fun i _ => s.size - (intOf i).toNat)
  case atStart => exact ⟨1, [], h1, by simp, rfl, ⟨⟨Nat.le_refl _, by simp⟩⟩, HBF, ⟨Below.refl _ _⟩⟩
  case round =>
    obtain ⟨k, l, hk, hl, rfl, HT, HBD, HBR⟩ := hrel
    by_cases hlt : k < s.size
    · have HD := Asd.mk (drop_cons s k hlt)
      rw [HD.out] at HT
      have hc := s[k].toNat_lt
      by_cases h39 : s[k].toNat = 39
      · have h39' : s[k] = 39 := UInt8.toNat_inj.mp h39
        rw [h39'] at HT
        by_cases hlast : k + 1 = s.size
        · have HO : Asd (textO (s.data.toList.drop 1) = (l, s.size)) := Asd.mk (by
            rw [HT.out.done (by rw [List.drop_of_length_le (by rw [HLN.out]; omega)]; exact textP_q0), hlast])
          go_wp2_with fail
          refine (Tryz.Builder_String_any b b _ wr HBD.out (by have := HL2.out; have := HBR.out.size; omega)).mono ?_
          rintro e w5 ⟨rfl, hb5⟩
          have HBE : Asd (Below b w w5) := Asd.mk (HB2.out.trans (HBR.out.trans hb5))
          clear hb5
          go_wp2
          refine bodyPost_ret (results_tmp2 rfl _ _ _) rfl ?_
          exact ⟨ret_eq (by rw [HO.out]; rfl), by rw [HBW.out]; exact HBE.out⟩
        · have hlt2 : k + 1 < s.size := by omega
          have HD2 := Asd.mk (drop_cons s (k + 1) hlt2)
          rw [HD2.out] at HT
          have hd := s[k + 1].toNat_lt
          by_cases h39d : s[k + 1].toNat = 39
          · have h39d' : s[k + 1] = 39 := UInt8.toNat_inj.mp h39d
            rw [h39d'] at HT
            have HT2 := Asd.mk HT.out.two
            clear HT h39d' h39'
            go_wp2_with fail
            refine (Tryz.Builder_WriteByte b b _ _ wr HBD.out (by rw [byteCells_len]; omega) (by have := HL2.out; have := HBR.out.size; omega)).mono ?_
            rintro e w4 ⟨rfl, hbd, hb4⟩
            rw [show Lib.byteCells l ++ [Value.int .u8 39] = Lib.byteCells (l ++ [39]) by rw [byteCells_snoc]; rfl] at hbd
            have HBD4 := Asd.mk hbd
            have HB4 : Asd (Below b w2 w4) := Asd.mk (HBR.out.trans hb4)
            clear hbd hb4
            go_wp2
            go_roundw
            case rel => exact ⟨k + 2, l ++ [39], by omega, by simp; omega, by go_num, HT2, ⟨.inr HBD4.out⟩, HB4⟩
            case measure => simp [intOf]; omega
          · have HO : Asd (textO (s.data.toList.drop 1) = (l, k + 1)) := Asd.mk (HT.out.done (textP_q1 (fun h => h39d (by rw [h]; rfl)) _))
            go_wp2_with fail
            rotate_left
            · exfalso
              have := (‹((k : Int) + 1 == (s.size : Int)) = false ∧ ((s[k + 1].toNat : Int) != 39) = false›).2
              simp at this
              omega
            refine (Tryz.Builder_String_any b b _ wr HBD.out (by have := HL2.out; have := HBR.out.size; omega)).mono ?_
            rintro e w5 ⟨rfl, hb5⟩
            have HBE : Asd (Below b w w5) := Asd.mk (HB2.out.trans (HBR.out.trans hb5))
            clear hb5
            go_wp2
            refine bodyPost_ret (results_tmp2 rfl _ _ _) rfl ?_
            exact ⟨ret_eq (by rw [HO.out]; rfl), by rw [HBW.out]; exact HBE.out⟩
      · have HT2 := Asd.mk (HT.out.step (fun h => h39 (by rw [h]; rfl)))
        clear HT
        go_wp2_with fail
        refine (Tryz.Builder_WriteByte b b _ _ wr HBD.out (by rw [byteCells_len]; omega) (by have := HL2.out; have := HBR.out.size; omega)).mono ?_
        rintro e w4 ⟨rfl, hbd, hb4⟩
        rw [← byteCells_snoc] at hbd
        have HBD4 := Asd.mk hbd
        have HB4 : Asd (Below b w2 w4) := Asd.mk (HBR.out.trans hb4)
        clear hbd hb4
        go_wp2
        go_roundw
        case rel => exact ⟨k + 1, _, by omega, by simp; omega, by go_num, HT2, ⟨.inr HBD4.out⟩, HB4⟩
        case measure => simp [intOf]; omega
    · obtain rfl : k = s.size := by omega
      have HO : Asd (textO (s.data.toList.drop 1) = ([], 0)) := Asd.mk (TextSt.none (l := l) (k := s.size) (by
        have := HT.out
        rw [List.drop_of_length_le (Nat.le_of_eq HLN.out)] at this
        exact this))
      have HBE : Asd (Below b w wr) := Asd.mk (HB2.out.trans HBR.out)
      clear hlt
      go_wp2
      refine bodyPost_ret (results_tmp2 rfl _ _ _) rfl ?_
      exact ⟨ret_eq (by rw [HO.out]; rfl), by rw [HBW.out]; exact HBE.out⟩
end Go.Proofs.YtcefmhofidoloaaGreatDoor.Lex

/- token: the plain law. -/
set_option linter.unusedVariables false
set_option linter.unusedSimpArgs false
namespace Go.Proofs.YtcefmhofidoloaaGreatDoor.Lex
open Go.RowKit Go.Proofs.YtcefmhofidoloaaGreatDoor.Base Go.Proofs.YtcefmhofidoloaaGreatDoor.App Go.Proofs.YtcefmhofidoloaaGreatDoor.Byt

theorem load_token {w : World} {g : Nat} {cs : Array Value} (hg : w.heap[g]? = some (.cells cs 52 (0, 0))) (h4 : cs.size = 4) : (loadVar 52 ⟨g, 0, none⟩).run Tryz.prog w = .ok (.agg cs) w :=
  run_loadVar_row w g 52 52 cs (0, 0) _ hg Tryz.underlying52 rfl (by rw [h4]; kernel_rfl)
theorem results_token {fn : Func} {p u : Tmp} (h : fn.results = #[.cell p 52, .tmp u]) (tmps : Array Value) (w : World) (g : Nat) (cs : Array Value)
    (hp : tmps.getD p undef = .pointer (some ⟨g, 0, none⟩)) (hg : w.heap[g]? = some (.cells cs 52 (0, 0))) (h4 : cs.size = 4) :
    (results fn tmps).run Tryz.prog w = .ok (.tuple #[.agg cs, tmps.getD u undef]) w := by
  rw [results_cell_tmp h, hp]
  simp [asAddr, load_token hg h4, Result.andThen]

/-- How token ends. -/
def TokEnd (l : List UInt8) (w : World) (e : Ending) (w' : World) : Prop :=
  Below w.heap.size w w' ∧ match tokP l with
  | some x => e = .returned (.tuple #[.agg #[.int .i64 (x.1.kind : Int), .string ⟨x.1.text.toArray⟩, .int .i64 0, .int .i64 x.1.num], .int .i64 (x.2 : Nat)])
  | none => ∃ k tx nm, e = .returned (.tuple #[.agg #[.int .i64 k, .string tx, .int .i64 0, .int .i64 nm], .int .i64 0])
theorem tok_some {l : List UInt8} {x : Tk × Nat} {w w' : World} {e : Ending} (hx : tokP l = some x) (hb : Below w.heap.size w w') (he : e = .returned (.tuple #[.agg #[.int .i64 (x.1.kind : Int), .string ⟨x.1.text.toArray⟩, .int .i64 0, .int .i64 x.1.num], .int .i64 (x.2 : Nat)])) : TokEnd l w e w' := ⟨hb, by rw [hx]; exact he⟩
theorem tok_none {l : List UInt8} {w w' : World} {e : Ending} (hx : tokP l = none) (hb : Below w.heap.size w w') (k : Int) (tx : ByteArray) (nm : Int) (he : e = .returned (.tuple #[.agg #[.int .i64 k, .string tx, .int .i64 0, .int .i64 nm], .int .i64 0])) : TokEnd l w e w' := ⟨hb, by rw [hx]; exact ⟨k, tx, nm, he⟩⟩

theorem tokP_blob {c : UInt8} {r : List UInt8} (hc : c = 120 ∨ c = 88) (hr : r.head? = some 39) : tokP (c :: r) = (blobP r.tail).map fun x => (⟨4, x.1, 0⟩, x.2 + 1) := by
  rw [tokP.eq_2, if_pos ⟨hc, hr⟩]
theorem tokP_word {c : UInt8} {r : List UInt8} (h : ¬ ((c = 120 ∨ c = 88) ∧ r.head? = some 39)) (hl : isLet c = true) : tokP (c :: r) = some (⟨1, ((c :: r).take (runP isWrd (c :: r))).map lowB, 0⟩, runP isWrd (c :: r)) := by
  rw [tokP.eq_2, if_neg h, if_pos hl]
theorem tokP_num {c : UInt8} {r : List UInt8} (h : ¬ ((c = 120 ∨ c = 88) ∧ r.head? = some 39)) (hl : isLet c = false) (hd : isDig c = true) : tokP (c :: r) = (numP ((c :: r).take (runP isDig (c :: r)))).map fun v => (⟨2, [], v⟩, runP isDig (c :: r)) := by
  rw [tokP.eq_2, if_neg h, hl, if_neg (by decide), if_pos hd]
theorem tokP_text {r : List UInt8} : tokP (39 :: r) = (textP r).map fun x => (⟨3, x.1, 0⟩, x.2 + 1) := by
  rw [tokP.eq_2, if_neg (by rintro ⟨h | h, _⟩ <;> cases h), show isLet 39 = false by decide, if_neg (by decide), show isDig 39 = false by decide, if_neg (by decide), if_pos rfl]
theorem tokP_sym {c : UInt8} {r : List UInt8} (h : ¬ ((c = 120 ∨ c = 88) ∧ r.head? = some 39)) (hl : isLet c = false) (hd : isDig c = false) (hq : ¬ c = 39) : tokP (c :: r) = if symP (c :: r) = 0 then none else some (⟨5, (c :: r).take (symP (c :: r)), 0⟩, symP (c :: r)) := by
  rw [tokP.eq_2, if_neg h, hl, if_neg (by decide), hd, if_neg (by decide), if_neg hq]

theorem run_all (p : UInt8 → Bool) : ∀ (l : List UInt8), ∀ c ∈ l.take (runP p l), p c = true
  | [], c, h => by simp [runP] at h
  | a :: r, c, h => by
    rw [runP] at h
    by_cases ha : p a = true
    · rw [if_pos ha, List.take_succ_cons] at h
      rcases List.mem_cons.mp h with rfl | h
      · exact ha
      · exact run_all p r c h
    · rw [if_neg ha] at h
      simp at h
theorem run_pos (p : UInt8 → Bool) {c : UInt8} {r : List UInt8} (h : p c = true) : 1 ≤ runP p (c :: r) := by
  rw [runP, if_pos h]; omega
theorem uintM_dig (M : Nat) : ∀ (l : List UInt8) (acc : Nat), (∀ c ∈ l, isDig c = true) → (∃ u, Lib.parseUintM M acc l = .ok u) ∨ Lib.parseUintM M acc l = .range
  | [], acc, _ => .inl ⟨acc, rfl⟩
  | c :: r, acc, h => by
    have hc : 48 ≤ c.toNat ∧ c.toNat ≤ 57 := by
      have := h c (by simp)
      simpa [isDig, digN] using this
    rw [Lib.parseUintM, if_pos hc]
    split
    · exact .inr rfl
    · split
      · exact .inr rfl
      · exact uintM_dig M r _ fun d hd => h d (by simp [hd])
theorem num_dig {l : List UInt8} (hne : l ≠ []) (h : ∀ c ∈ l, isDig c = true) : (∃ v, Lib.parseIntB 64 l = .ok v) ∨ Lib.parseIntB 64 l = .range := by
  match l, hne with
  | c :: r, _ =>
    have hc : 48 ≤ c.toNat ∧ c.toNat ≤ 57 := by
      have := h c (by simp)
      simpa [isDig, digN] using this
    have hu : Lib.parseUintB 64 (c :: r) = Lib.parseUintM (2 ^ 64 - 1) 0 (c :: r) := by
      rw [Lib.parseUintB, if_neg (by simp)]
    rw [Lib.parseIntB]
    simp only [show ¬ (c.toNat = 43 ∨ c.toNat = 45) by omega, if_false, hu]
    rcases uintM_dig (2 ^ 64 - 1) (c :: r) 0 h with ⟨u, hx⟩ | hx
    · rw [hx]
      simp only
      split
      · exact .inr rfl
      · split
        · exact .inr rfl
        · exact .inl ⟨_, rfl⟩
    · rw [hx]
      exact .inr rfl
theorem textO_none {r : List UInt8} (h : textP r = none) : textO r = ([], 0) := by rw [textO, h]
theorem textO_some {r : List UInt8} {x : List UInt8 × Nat} (h : textP r = some x) : textO r = (x.1, x.2 + 1) := by rw [textO, h]
theorem blobO_none {r : List UInt8} (h : blobP r = none) : blobO r = ([], 0) := by rw [blobO, h]
theorem blobO_some {r : List UInt8} {x : List UInt8 × Nat} (h : blobP r = some x) : blobO r = x := by rw [blobO, h]
theorem blobP_ge {r : List UInt8} {x : List UInt8 × Nat} (h : blobP r = some x) : 2 ≤ x.2 := by
  unfold blobP at h
  split at h
  · obtain ⟨y, hy, rfl⟩ := Option.map_eq_some_iff.mp h
    simp
  · cases h
theorem pre1 (l : List UInt8) (a : UInt8) : Lib.hasPrefix l [a] = decide (l.head? = some a) := by
  unfold Lib.hasPrefix
  cases l with
  | nil => rfl
  | cons x l =>
    simp [List.isPrefixOf]
    by_cases h : a = x
    · subst h; simp
    · have : ¬ x = a := fun e => h e.symm
      simp [h, this]
theorem symP_le : ∀ l : List UInt8, symP l ≤ l.length
  | [] => Nat.le_refl _
  | c :: r => by
    simp only [symP, List.length_cons]
    split
    · rename_i h5
      have hr : r ≠ [] := by rintro rfl; simp at h5
      have : 0 < r.length := List.length_pos_iff.mpr hr
      omega
    · split
      · omega
      · omega
end Go.Proofs.YtcefmhofidoloaaGreatDoor.Lex

/- token: the walk. -/
set_option linter.unusedVariables false
set_option linter.unusedSimpArgs false
namespace Go.Proofs.YtcefmhofidoloaaGreatDoor.Lex
open Go.RowKit Go.Proofs.YtcefmhofidoloaaGreatDoor.Base Go.Proofs.YtcefmhofidoloaaGreatDoor.App Go.Proofs.YtcefmhofidoloaaGreatDoor.Byt

structure TkSt (w W : World) (ct : Array Value) : Prop where
  res : W.heap[w.heap.size]? = some (.cells #[.int .i64 0, .string ⟨#[]⟩, .int .i64 0, .int .i64 0] 52 (0, 0))
  box : W.heap[w.heap.size + 1]? = some (.cells ct 52 (0, 0))
  below : Below w.heap.size w W
theorem TkSt.set {w W : World} {ct : Array Value} (h : TkSt w W ct) (k : Nat) (v : Value) : TkSt w (W.setCell ⟨w.heap.size + 1, k, none⟩ v) (ct.setIfInBounds k v) :=
  ⟨blk_far h.res (by simp) v, blk_set h.box k v, h.below.setCell (Nat.le_succ _) v⟩
theorem TkSt.old {w W W' : World} {ct : Array Value} (h : TkSt w W ct) (hb : Below W.heap.size W W') : TkSt w W' ct :=
  ⟨blk_below hb h.res, blk_below hb h.box, h.below.trans (hb.mono h.below.size)⟩
theorem TkSt.new (w : World) : TkSt w ((w.alloc (.cells #[.int .i64 0, .string ⟨#[]⟩, .int .i64 0, .int .i64 0] 52)).alloc (.cells #[.int .i64 0, .string ⟨#[]⟩, .int .i64 0, .int .i64 0] 52)) #[.int .i64 0, .string ⟨#[]⟩, .int .i64 0, .int .i64 0] := by
  refine ⟨blk_alloc (blk_new w _) _, ?_, below_alloc (below_alloc (Below.refl w.heap.size w) _) _⟩
  have h := blk_new (w.alloc (.cells #[.int .i64 0, .string ⟨#[]⟩, .int .i64 0, .int .i64 0] 52)) (.cells #[.int .i64 0, .string ⟨#[]⟩, .int .i64 0, .int .i64 0] 52)
  rwa [show (w.alloc (.cells #[.int .i64 0, .string ⟨#[]⟩, .int .i64 0, .int .i64 0] 52)).heap.size = w.heap.size + 1 by simp] at h

theorem TkSt.drew {w W : World} {ct : Array Value} (h : TkSt w W ct) : TkSt w W.drew ct := ⟨h.res, h.box, h.below.drew⟩
theorem TkSt.fin {w W : World} {ct : Array Value} (h : TkSt w W ct) (a b c d : Value) :
    (((((W.setCell ⟨w.heap.size, 0, none⟩ a).setCell ⟨w.heap.size, 1, none⟩ b).setCell ⟨w.heap.size, 2, none⟩ c).setCell ⟨w.heap.size, 3, none⟩ d)).heap[w.heap.size]? = some (.cells #[a, b, c, d] 52 (0, 0)) ∧
    Below w.heap.size w (((((W.setCell ⟨w.heap.size, 0, none⟩ a).setCell ⟨w.heap.size, 1, none⟩ b).setCell ⟨w.heap.size, 2, none⟩ c).setCell ⟨w.heap.size, 3, none⟩ d)) :=
  ⟨(blk_set (blk_set (blk_set (blk_set h.res 0 a) 1 b) 2 c) 3 d).trans rfl, (((h.below.setCell (Nat.le_refl _) a).setCell (Nat.le_refl _) b).setCell (Nat.le_refl _) c).setCell (Nat.le_refl _) d⟩

set_option maxRecDepth 100000 in
set_option maxHeartbeats 3200000 in
theorem tok_blob120 (s : ByteArray) (w : World) (h1 : 1 ≤ s.size) (hs : s.size ≤ 1048576) (hw : LexW w) (hc : s[0].toNat = 120) (hp : (s.data.toList.drop 1).head? = some 39) :
    Calls Tryz.prog 52 #[.string s] w fun e w' => TokEnd s.data.toList w e w' := by
  have HW := Asd.mk hw
  clear hw
  have HLN : Asd (s.data.toList.length = s.size) := Asd.mk rfl
  have HL : Asd (s.data.toList = s[0] :: s.data.toList.drop 1) := Asd.mk (by have := drop_cons s 0 h1; simpa using this)
  have HXL : Asd ((s.extract 1 s.size).data.toList = s.data.toList.drop 1) := Asd.mk (by
    rw [ext_list, List.take_of_length_le (Nat.le_of_eq (show s.data.toList.length = s.size from rfl))])
  have hc8 := s[0].toNat_lt
  have HP : Asd (Lib.hasPrefix (s.data.toList.drop 1) [39] = true) := Asd.mk (by rw [pre1]; simpa using hp)
  have HC := Asd.mk (show s[0] = 120 from UInt8.toNat_inj.mp hc)
  have HTP : Asd (tokP s.data.toList = (blobP (s.data.toList.drop 1).tail).map fun x => (⟨4, x.1, 0⟩, x.2 + 1)) := Asd.mk (by rw [HL.out, HC.out]; exact tokP_blob (by decide) hp)
  have HX1 : Asd (1 ≤ (s.extract 1 s.size).size) := Asd.mk (by
    have h3 : (s.extract 1 s.size).data.toList.length = (s.extract 1 s.size).size := rfl
    rw [← h3, HXL.out]
    cases hh : s.data.toList.drop 1 with
    | nil => rw [hh] at hp; cases hp
    | cons a b => simp)
  have HXS : Asd ((s.extract 1 s.size).size ≤ 1048576) := Asd.mk (by rw [ext_size]; omega)
  have HTT : Asd ((s.data.toList.drop 1).tail = (s.extract 1 s.size).data.toList.drop 1) := Asd.mk (by rw [HXL.out]; exact List.drop_one.symm)
  rw [HTT.out] at HTP
  clear hp
  go_enter Tryz.func52, Tryz.ntmps52
  have HS := Asd.mk (TkSt.new w)
  go_upto_region 6 with fail
  generalize (w.alloc (.cells #[.int .i64 0, .string ⟨#[]⟩, .int .i64 0, .int .i64 0] 52)).alloc (.cells #[.int .i64 0, .string ⟨#[]⟩, .int .i64 0, .int .i64 0] 52) = W at HS ⊢
  have HWW := Asd.mk (HW.out.below HS.out.below)
  go_wp2_with fail
  refine (Tryz.strings_HasPrefix (s.extract 1 s.size) ⟨#[39]⟩ _).mono ?_
  rintro e w' ⟨rfl, rfl⟩
  rw [HXL.out, show (⟨#[39]⟩ : ByteArray).data.toList = [39] from rfl, HP.out]
  have a0 := (blk_cell HS.out.box 0).trans rfl
  have za0 := blk_frozen HS.out.box 0
  have HS1 := Asd.mk (HS.out.set 0 (.int .i64 4))
  have HWW1 := Asd.mk (HW.out.below HS1.out.below)
  go_wp2_with fail
  refine (blob_calls (s.extract 1 s.size) _ HX1.out HXS.out HWW1.out).mono ?_
  rintro e w1 ⟨rfl, hb1⟩
  have HS2 := Asd.mk (HS1.out.old hb1)
  clear hb1
  cases hbp : blobP ((s.extract 1 s.size).data.toList.drop 1) with
  | none =>
    rw [blobO_none hbp]
    rw [hbp] at HTP
    clear hbp
    have b1 := (blk_cell HS2.out.box 1).trans rfl
    have zb1 := blk_frozen HS2.out.box 1
    have HS3 := Asd.mk (HS2.out.set 1 (.string ⟨([] : List UInt8).toArray⟩))
    have y0 := (blk_cell HS3.out.box 0).trans rfl
    have y1 := (blk_cell HS3.out.box 1).trans rfl
    have y2 := (blk_cell HS3.out.box 2).trans rfl
    have y3 := (blk_cell HS3.out.box 3).trans rfl
    have r0 := (blk_cell HS3.out.res 0).trans rfl
    have zr0 := blk_frozen HS3.out.res 0
    have r1 := (blk_cell HS3.out.res 1).trans rfl
    have zr1 := blk_frozen HS3.out.res 1
    have r2 := (blk_cell HS3.out.res 2).trans rfl
    have zr2 := blk_frozen HS3.out.res 2
    have r3 := (blk_cell HS3.out.res 3).trans rfl
    have zr3 := blk_frozen HS3.out.res 3
    go_wp2
    refine bodyPost_ret (results_token rfl _ _ w.heap.size _ rfl (HS3.out.fin _ _ _ _).1 rfl) rfl ?_
    exact tok_none HTP.out (HS3.out.fin _ _ _ _).2 4 ⟨#[]⟩ 0 rfl
  | some x =>
    rw [blobO_some hbp]
    have hx2 := blobP_ge hbp
    rw [hbp] at HTP
    clear hbp
    obtain ⟨t, n⟩ := x
    have hn0 : 0 < n := by simp only at hx2; omega
    clear hx2
    have HNB : n ≤ 4194304 := by have := (tokP_le HTP.out).2; have := HLN.out; simp only at *; omega
    have b1 := (blk_cell HS2.out.box 1).trans rfl
    have zb1 := blk_frozen HS2.out.box 1
    have HS3 := Asd.mk (HS2.out.set 1 (.string ⟨t.toArray⟩))
    have y0 := (blk_cell HS3.out.box 0).trans rfl
    have y1 := (blk_cell HS3.out.box 1).trans rfl
    have y2 := (blk_cell HS3.out.box 2).trans rfl
    have y3 := (blk_cell HS3.out.box 3).trans rfl
    have r0 := (blk_cell HS3.out.res 0).trans rfl
    have zr0 := blk_frozen HS3.out.res 0
    have r1 := (blk_cell HS3.out.res 1).trans rfl
    have zr1 := blk_frozen HS3.out.res 1
    have r2 := (blk_cell HS3.out.res 2).trans rfl
    have zr2 := blk_frozen HS3.out.res 2
    have r3 := (blk_cell HS3.out.res 3).trans rfl
    have zr3 := blk_frozen HS3.out.res 3
    go_wp2
    refine bodyPost_ret (results_token rfl _ _ w.heap.size _ rfl (HS3.out.fin _ _ _ _).1 rfl) rfl ?_
    exact tok_some HTP.out (HS3.out.fin _ _ _ _).2 rfl
set_option maxRecDepth 100000 in
set_option maxHeartbeats 3200000 in
theorem tok_blob88 (s : ByteArray) (w : World) (h1 : 1 ≤ s.size) (hs : s.size ≤ 1048576) (hw : LexW w) (hc : s[0].toNat = 88) (hp : (s.data.toList.drop 1).head? = some 39) :
    Calls Tryz.prog 52 #[.string s] w fun e w' => TokEnd s.data.toList w e w' := by
  have HW := Asd.mk hw
  clear hw
  have HLN : Asd (s.data.toList.length = s.size) := Asd.mk rfl
  have HL : Asd (s.data.toList = s[0] :: s.data.toList.drop 1) := Asd.mk (by have := drop_cons s 0 h1; simpa using this)
  have HXL : Asd ((s.extract 1 s.size).data.toList = s.data.toList.drop 1) := Asd.mk (by
    rw [ext_list, List.take_of_length_le (Nat.le_of_eq (show s.data.toList.length = s.size from rfl))])
  have hc8 := s[0].toNat_lt
  have HP : Asd (Lib.hasPrefix (s.data.toList.drop 1) [39] = true) := Asd.mk (by rw [pre1]; simpa using hp)
  have HC := Asd.mk (show s[0] = 88 from UInt8.toNat_inj.mp hc)
  have HTP : Asd (tokP s.data.toList = (blobP (s.data.toList.drop 1).tail).map fun x => (⟨4, x.1, 0⟩, x.2 + 1)) := Asd.mk (by rw [HL.out, HC.out]; exact tokP_blob (by decide) hp)
  have HX1 : Asd (1 ≤ (s.extract 1 s.size).size) := Asd.mk (by
    have h3 : (s.extract 1 s.size).data.toList.length = (s.extract 1 s.size).size := rfl
    rw [← h3, HXL.out]
    cases hh : s.data.toList.drop 1 with
    | nil => rw [hh] at hp; cases hp
    | cons a b => simp)
  have HXS : Asd ((s.extract 1 s.size).size ≤ 1048576) := Asd.mk (by rw [ext_size]; omega)
  have HTT : Asd ((s.data.toList.drop 1).tail = (s.extract 1 s.size).data.toList.drop 1) := Asd.mk (by rw [HXL.out]; exact List.drop_one.symm)
  rw [HTT.out] at HTP
  clear hp
  go_enter Tryz.func52, Tryz.ntmps52
  have HS := Asd.mk (TkSt.new w)
  go_upto_region 6 with fail
  generalize (w.alloc (.cells #[.int .i64 0, .string ⟨#[]⟩, .int .i64 0, .int .i64 0] 52)).alloc (.cells #[.int .i64 0, .string ⟨#[]⟩, .int .i64 0, .int .i64 0] 52) = W at HS ⊢
  have HWW := Asd.mk (HW.out.below HS.out.below)
  go_wp2_with fail
  refine (Tryz.strings_HasPrefix (s.extract 1 s.size) ⟨#[39]⟩ _).mono ?_
  rintro e w' ⟨rfl, rfl⟩
  rw [HXL.out, show (⟨#[39]⟩ : ByteArray).data.toList = [39] from rfl, HP.out]
  have a0 := (blk_cell HS.out.box 0).trans rfl
  have za0 := blk_frozen HS.out.box 0
  have HS1 := Asd.mk (HS.out.set 0 (.int .i64 4))
  have HWW1 := Asd.mk (HW.out.below HS1.out.below)
  go_wp2_with fail
  refine (blob_calls (s.extract 1 s.size) _ HX1.out HXS.out HWW1.out).mono ?_
  rintro e w1 ⟨rfl, hb1⟩
  have HS2 := Asd.mk (HS1.out.old hb1)
  clear hb1
  cases hbp : blobP ((s.extract 1 s.size).data.toList.drop 1) with
  | none =>
    rw [blobO_none hbp]
    rw [hbp] at HTP
    clear hbp
    have b1 := (blk_cell HS2.out.box 1).trans rfl
    have zb1 := blk_frozen HS2.out.box 1
    have HS3 := Asd.mk (HS2.out.set 1 (.string ⟨([] : List UInt8).toArray⟩))
    have y0 := (blk_cell HS3.out.box 0).trans rfl
    have y1 := (blk_cell HS3.out.box 1).trans rfl
    have y2 := (blk_cell HS3.out.box 2).trans rfl
    have y3 := (blk_cell HS3.out.box 3).trans rfl
    have r0 := (blk_cell HS3.out.res 0).trans rfl
    have zr0 := blk_frozen HS3.out.res 0
    have r1 := (blk_cell HS3.out.res 1).trans rfl
    have zr1 := blk_frozen HS3.out.res 1
    have r2 := (blk_cell HS3.out.res 2).trans rfl
    have zr2 := blk_frozen HS3.out.res 2
    have r3 := (blk_cell HS3.out.res 3).trans rfl
    have zr3 := blk_frozen HS3.out.res 3
    go_wp2
    refine bodyPost_ret (results_token rfl _ _ w.heap.size _ rfl (HS3.out.fin _ _ _ _).1 rfl) rfl ?_
    exact tok_none HTP.out (HS3.out.fin _ _ _ _).2 4 ⟨#[]⟩ 0 rfl
  | some x =>
    rw [blobO_some hbp]
    have hx2 := blobP_ge hbp
    rw [hbp] at HTP
    clear hbp
    obtain ⟨t, n⟩ := x
    have hn0 : 0 < n := by simp only at hx2; omega
    clear hx2
    have HNB : n ≤ 4194304 := by have := (tokP_le HTP.out).2; have := HLN.out; simp only at *; omega
    have b1 := (blk_cell HS2.out.box 1).trans rfl
    have zb1 := blk_frozen HS2.out.box 1
    have HS3 := Asd.mk (HS2.out.set 1 (.string ⟨t.toArray⟩))
    have y0 := (blk_cell HS3.out.box 0).trans rfl
    have y1 := (blk_cell HS3.out.box 1).trans rfl
    have y2 := (blk_cell HS3.out.box 2).trans rfl
    have y3 := (blk_cell HS3.out.box 3).trans rfl
    have r0 := (blk_cell HS3.out.res 0).trans rfl
    have zr0 := blk_frozen HS3.out.res 0
    have r1 := (blk_cell HS3.out.res 1).trans rfl
    have zr1 := blk_frozen HS3.out.res 1
    have r2 := (blk_cell HS3.out.res 2).trans rfl
    have zr2 := blk_frozen HS3.out.res 2
    have r3 := (blk_cell HS3.out.res 3).trans rfl
    have zr3 := blk_frozen HS3.out.res 3
    go_wp2
    refine bodyPost_ret (results_token rfl _ _ w.heap.size _ rfl (HS3.out.fin _ _ _ _).1 rfl) rfl ?_
    exact tok_some HTP.out (HS3.out.fin _ _ _ _).2 rfl
set_option maxRecDepth 100000 in
set_option maxHeartbeats 3200000 in
theorem tok_word120 (s : ByteArray) (w : World) (h1 : 1 ≤ s.size) (hs : s.size ≤ 1048576) (hw : LexW w) (hc : s[0].toNat = 120) (hp : ¬ (s.data.toList.drop 1).head? = some 39) :
    Calls Tryz.prog 52 #[.string s] w fun e w' => TokEnd s.data.toList w e w' := by
  have HW := Asd.mk hw
  clear hw
  have HLN : Asd (s.data.toList.length = s.size) := Asd.mk rfl
  have HL : Asd (s.data.toList = s[0] :: s.data.toList.drop 1) := Asd.mk (by have := drop_cons s 0 h1; simpa using this)
  have HXL : Asd ((s.extract 1 s.size).data.toList = s.data.toList.drop 1) := Asd.mk (by
    rw [ext_list, List.take_of_length_le (Nat.le_of_eq (show s.data.toList.length = s.size from rfl))])
  have hc8 := s[0].toNat_lt
  have HP : Asd (Lib.hasPrefix (s.data.toList.drop 1) [39] = false) := Asd.mk (by rw [pre1]; simpa using hp)
  have HNX : ¬ ((s[0] = 120 ∨ s[0] = 88) ∧ (s.data.toList.drop 1).head? = some 39) := fun h => hp h.2
  have HLC : isLet s[0] = true := by show letN s[0].toNat = true; rw [hc]; decide
  have HTP : Asd (tokP s.data.toList = some (⟨1, (s.data.toList.take (runP isWrd s.data.toList)).map lowB, 0⟩, runP isWrd s.data.toList)) := Asd.mk (by
    have h := tokP_word (c := s[0]) (r := s.data.toList.drop 1) HNX HLC
    rwa [← HL.out] at h)
  have HN : Asd (runP isWrd s.data.toList ≤ s.size) := Asd.mk (runP_le _ _)
  clear hp HNX HLC
  go_enter Tryz.func52, Tryz.ntmps52
  have HS := Asd.mk (TkSt.new w)
  go_upto_region 6 with fail
  generalize (w.alloc (.cells #[.int .i64 0, .string ⟨#[]⟩, .int .i64 0, .int .i64 0] 52)).alloc (.cells #[.int .i64 0, .string ⟨#[]⟩, .int .i64 0, .int .i64 0] 52) = W at HS ⊢
  have HWW := Asd.mk (HW.out.below HS.out.below)
  go_wp2_with fail
  refine (Tryz.strings_HasPrefix (s.extract 1 s.size) ⟨#[39]⟩ _).mono ?_
  rintro e w' ⟨rfl, rfl⟩
  rw [HXL.out, show (⟨#[39]⟩ : ByteArray).data.toList = [39] from rfl, HP.out]
  go_wp2_with fail
  refine (letter_calls 120 (by first | exact hc8 | decide) _).mono ?_
  rintro e w' ⟨rfl, rfl⟩
  rw [show letN 120 = true from by decide]
  go_wp2_with fail
  refine (run_word s _ hs).mono ?_
  rintro e w' ⟨rfl, rfl⟩
  generalize runP isWrd s.data.toList = n at HTP HN
  have hn := HN.out
  have HEL : Asd ((s.extract 0 n).data.toList = s.data.toList.take n) := Asd.mk (by rw [ext_list]; simp)
  have HES : Asd ((s.extract 0 n).size ≤ 1048576) := Asd.mk (by rw [ext_size]; omega)
  go_wp2_with fail
  refine (lowered_calls (s.extract 0 n) _ HES.out).mono ?_
  rintro e w1 ⟨rfl, hb1⟩
  rw [HEL.out]
  have HS2 := Asd.mk (HS.out.old hb1)
  clear hb1
  generalize (s.data.toList.take n).map lowB = t at HTP ⊢
  have b0 := (blk_cell HS2.out.box 0).trans rfl
  have zb0 := blk_frozen HS2.out.box 0
  have b1 := (blk_cell HS2.out.box 1).trans rfl
  have zb1 := blk_frozen HS2.out.box 1
  have HS3 := Asd.mk ((HS2.out.set 0 (.int .i64 1)).set 1 (.string ⟨t.toArray⟩))
  have y0 := (blk_cell HS3.out.box 0).trans rfl
  have y1 := (blk_cell HS3.out.box 1).trans rfl
  have y2 := (blk_cell HS3.out.box 2).trans rfl
  have y3 := (blk_cell HS3.out.box 3).trans rfl
  have r0 := (blk_cell HS3.out.res 0).trans rfl
  have zr0 := blk_frozen HS3.out.res 0
  have r1 := (blk_cell HS3.out.res 1).trans rfl
  have zr1 := blk_frozen HS3.out.res 1
  have r2 := (blk_cell HS3.out.res 2).trans rfl
  have zr2 := blk_frozen HS3.out.res 2
  have r3 := (blk_cell HS3.out.res 3).trans rfl
  have zr3 := blk_frozen HS3.out.res 3
  go_wp2
  refine bodyPost_ret (results_token rfl _ _ w.heap.size _ rfl (HS3.out.fin _ _ _ _).1 rfl) rfl ?_
  exact tok_some HTP.out (HS3.out.fin _ _ _ _).2 rfl
set_option maxRecDepth 100000 in
set_option maxHeartbeats 3200000 in
theorem tok_word88 (s : ByteArray) (w : World) (h1 : 1 ≤ s.size) (hs : s.size ≤ 1048576) (hw : LexW w) (hc : s[0].toNat = 88) (hp : ¬ (s.data.toList.drop 1).head? = some 39) :
    Calls Tryz.prog 52 #[.string s] w fun e w' => TokEnd s.data.toList w e w' := by
  have HW := Asd.mk hw
  clear hw
  have HLN : Asd (s.data.toList.length = s.size) := Asd.mk rfl
  have HL : Asd (s.data.toList = s[0] :: s.data.toList.drop 1) := Asd.mk (by have := drop_cons s 0 h1; simpa using this)
  have HXL : Asd ((s.extract 1 s.size).data.toList = s.data.toList.drop 1) := Asd.mk (by
    rw [ext_list, List.take_of_length_le (Nat.le_of_eq (show s.data.toList.length = s.size from rfl))])
  have hc8 := s[0].toNat_lt
  have HP : Asd (Lib.hasPrefix (s.data.toList.drop 1) [39] = false) := Asd.mk (by rw [pre1]; simpa using hp)
  have HNX : ¬ ((s[0] = 120 ∨ s[0] = 88) ∧ (s.data.toList.drop 1).head? = some 39) := fun h => hp h.2
  have HLC : isLet s[0] = true := by show letN s[0].toNat = true; rw [hc]; decide
  have HTP : Asd (tokP s.data.toList = some (⟨1, (s.data.toList.take (runP isWrd s.data.toList)).map lowB, 0⟩, runP isWrd s.data.toList)) := Asd.mk (by
    have h := tokP_word (c := s[0]) (r := s.data.toList.drop 1) HNX HLC
    rwa [← HL.out] at h)
  have HN : Asd (runP isWrd s.data.toList ≤ s.size) := Asd.mk (runP_le _ _)
  clear hp HNX HLC
  go_enter Tryz.func52, Tryz.ntmps52
  have HS := Asd.mk (TkSt.new w)
  go_upto_region 6 with fail
  generalize (w.alloc (.cells #[.int .i64 0, .string ⟨#[]⟩, .int .i64 0, .int .i64 0] 52)).alloc (.cells #[.int .i64 0, .string ⟨#[]⟩, .int .i64 0, .int .i64 0] 52) = W at HS ⊢
  have HWW := Asd.mk (HW.out.below HS.out.below)
  go_wp2_with fail
  refine (Tryz.strings_HasPrefix (s.extract 1 s.size) ⟨#[39]⟩ _).mono ?_
  rintro e w' ⟨rfl, rfl⟩
  rw [HXL.out, show (⟨#[39]⟩ : ByteArray).data.toList = [39] from rfl, HP.out]
  go_wp2_with fail
  refine (letter_calls 88 (by first | exact hc8 | decide) _).mono ?_
  rintro e w' ⟨rfl, rfl⟩
  rw [show letN 88 = true from by decide]
  go_wp2_with fail
  refine (run_word s _ hs).mono ?_
  rintro e w' ⟨rfl, rfl⟩
  generalize runP isWrd s.data.toList = n at HTP HN
  have hn := HN.out
  have HEL : Asd ((s.extract 0 n).data.toList = s.data.toList.take n) := Asd.mk (by rw [ext_list]; simp)
  have HES : Asd ((s.extract 0 n).size ≤ 1048576) := Asd.mk (by rw [ext_size]; omega)
  go_wp2_with fail
  refine (lowered_calls (s.extract 0 n) _ HES.out).mono ?_
  rintro e w1 ⟨rfl, hb1⟩
  rw [HEL.out]
  have HS2 := Asd.mk (HS.out.old hb1)
  clear hb1
  generalize (s.data.toList.take n).map lowB = t at HTP ⊢
  have b0 := (blk_cell HS2.out.box 0).trans rfl
  have zb0 := blk_frozen HS2.out.box 0
  have b1 := (blk_cell HS2.out.box 1).trans rfl
  have zb1 := blk_frozen HS2.out.box 1
  have HS3 := Asd.mk ((HS2.out.set 0 (.int .i64 1)).set 1 (.string ⟨t.toArray⟩))
  have y0 := (blk_cell HS3.out.box 0).trans rfl
  have y1 := (blk_cell HS3.out.box 1).trans rfl
  have y2 := (blk_cell HS3.out.box 2).trans rfl
  have y3 := (blk_cell HS3.out.box 3).trans rfl
  have r0 := (blk_cell HS3.out.res 0).trans rfl
  have zr0 := blk_frozen HS3.out.res 0
  have r1 := (blk_cell HS3.out.res 1).trans rfl
  have zr1 := blk_frozen HS3.out.res 1
  have r2 := (blk_cell HS3.out.res 2).trans rfl
  have zr2 := blk_frozen HS3.out.res 2
  have r3 := (blk_cell HS3.out.res 3).trans rfl
  have zr3 := blk_frozen HS3.out.res 3
  go_wp2
  refine bodyPost_ret (results_token rfl _ _ w.heap.size _ rfl (HS3.out.fin _ _ _ _).1 rfl) rfl ?_
  exact tok_some HTP.out (HS3.out.fin _ _ _ _).2 rfl
set_option maxRecDepth 100000 in
set_option maxHeartbeats 3200000 in
theorem tok_word (s : ByteArray) (w : World) (h1 : 1 ≤ s.size) (hs : s.size ≤ 1048576) (hw : LexW w) (hx : ¬ s[0].toNat = 120) (hX : ¬ s[0].toNat = 88) (hl : letN s[0].toNat = true) :
    Calls Tryz.prog 52 #[.string s] w fun e w' => TokEnd s.data.toList w e w' := by
  have HW := Asd.mk hw
  clear hw
  have HLN : Asd (s.data.toList.length = s.size) := Asd.mk rfl
  have HL : Asd (s.data.toList = s[0] :: s.data.toList.drop 1) := Asd.mk (by have := drop_cons s 0 h1; simpa using this)
  have HXL : Asd ((s.extract 1 s.size).data.toList = s.data.toList.drop 1) := Asd.mk (by
    rw [ext_list, List.take_of_length_le (Nat.le_of_eq (show s.data.toList.length = s.size from rfl))])
  have hc8 := s[0].toNat_lt
  have HNX : ¬ ((s[0] = 120 ∨ s[0] = 88) ∧ (s.data.toList.drop 1).head? = some 39) := fun h => by
    rcases h.1 with h | h
    · exact hx (by rw [h]; rfl)
    · exact hX (by rw [h]; rfl)
  have HLC : isLet s[0] = true := hl
  have HTP : Asd (tokP s.data.toList = some (⟨1, (s.data.toList.take (runP isWrd s.data.toList)).map lowB, 0⟩, runP isWrd s.data.toList)) := Asd.mk (by
    have h := tokP_word (c := s[0]) (r := s.data.toList.drop 1) HNX HLC
    rwa [← HL.out] at h)
  have HN : Asd (runP isWrd s.data.toList ≤ s.size) := Asd.mk (runP_le _ _)
  have HLE := Asd.mk hl
  clear HNX HLC hl
  go_enter Tryz.func52, Tryz.ntmps52
  have HS := Asd.mk (TkSt.new w)
  go_upto_region 6 with fail
  generalize (w.alloc (.cells #[.int .i64 0, .string ⟨#[]⟩, .int .i64 0, .int .i64 0] 52)).alloc (.cells #[.int .i64 0, .string ⟨#[]⟩, .int .i64 0, .int .i64 0] 52) = W at HS ⊢
  have HWW := Asd.mk (HW.out.below HS.out.below)
  go_wp2_with fail
  refine (letter_calls s[0].toNat (by first | exact hc8 | decide) _).mono ?_
  rintro e w' ⟨rfl, rfl⟩
  rw [show letN s[0].toNat = true from HLE.out]
  go_wp2_with fail
  refine (run_word s _ hs).mono ?_
  rintro e w' ⟨rfl, rfl⟩
  generalize runP isWrd s.data.toList = n at HTP HN
  have hn := HN.out
  have HEL : Asd ((s.extract 0 n).data.toList = s.data.toList.take n) := Asd.mk (by rw [ext_list]; simp)
  have HES : Asd ((s.extract 0 n).size ≤ 1048576) := Asd.mk (by rw [ext_size]; omega)
  go_wp2_with fail
  refine (lowered_calls (s.extract 0 n) _ HES.out).mono ?_
  rintro e w1 ⟨rfl, hb1⟩
  rw [HEL.out]
  have HS2 := Asd.mk (HS.out.old hb1)
  clear hb1
  generalize (s.data.toList.take n).map lowB = t at HTP ⊢
  have b0 := (blk_cell HS2.out.box 0).trans rfl
  have zb0 := blk_frozen HS2.out.box 0
  have b1 := (blk_cell HS2.out.box 1).trans rfl
  have zb1 := blk_frozen HS2.out.box 1
  have HS3 := Asd.mk ((HS2.out.set 0 (.int .i64 1)).set 1 (.string ⟨t.toArray⟩))
  have y0 := (blk_cell HS3.out.box 0).trans rfl
  have y1 := (blk_cell HS3.out.box 1).trans rfl
  have y2 := (blk_cell HS3.out.box 2).trans rfl
  have y3 := (blk_cell HS3.out.box 3).trans rfl
  have r0 := (blk_cell HS3.out.res 0).trans rfl
  have zr0 := blk_frozen HS3.out.res 0
  have r1 := (blk_cell HS3.out.res 1).trans rfl
  have zr1 := blk_frozen HS3.out.res 1
  have r2 := (blk_cell HS3.out.res 2).trans rfl
  have zr2 := blk_frozen HS3.out.res 2
  have r3 := (blk_cell HS3.out.res 3).trans rfl
  have zr3 := blk_frozen HS3.out.res 3
  go_wp2
  refine bodyPost_ret (results_token rfl _ _ w.heap.size _ rfl (HS3.out.fin _ _ _ _).1 rfl) rfl ?_
  exact tok_some HTP.out (HS3.out.fin _ _ _ _).2 rfl
set_option maxRecDepth 100000 in
set_option maxHeartbeats 3200000 in
theorem tok_sym (s : ByteArray) (w : World) (h1 : 1 ≤ s.size) (hs : s.size ≤ 1048576) (hw : LexW w) (hx : ¬ s[0].toNat = 120) (hX : ¬ s[0].toNat = 88) (hl : letN s[0].toNat = false) (hd : digN s[0].toNat = false) (hq : ¬ s[0].toNat = 39) :
    Calls Tryz.prog 52 #[.string s] w fun e w' => TokEnd s.data.toList w e w' := by
  have HW := Asd.mk hw
  clear hw
  have HLN : Asd (s.data.toList.length = s.size) := Asd.mk rfl
  have HL : Asd (s.data.toList = s[0] :: s.data.toList.drop 1) := Asd.mk (by have := drop_cons s 0 h1; simpa using this)
  have HXL : Asd ((s.extract 1 s.size).data.toList = s.data.toList.drop 1) := Asd.mk (by
    rw [ext_list, List.take_of_length_le (Nat.le_of_eq (show s.data.toList.length = s.size from rfl))])
  have hc8 := s[0].toNat_lt
  have HNX : ¬ ((s[0] = 120 ∨ s[0] = 88) ∧ (s.data.toList.drop 1).head? = some 39) := fun h => by
    rcases h.1 with h | h
    · exact hx (by rw [h]; rfl)
    · exact hX (by rw [h]; rfl)
  have HTP : Asd (tokP s.data.toList = if symP s.data.toList = 0 then none else some (⟨5, s.data.toList.take (symP s.data.toList), 0⟩, symP s.data.toList)) := Asd.mk (by
    have h := tokP_sym (c := s[0]) (r := s.data.toList.drop 1) HNX hl hd (fun h => hq (by rw [h]; rfl))
    rwa [← HL.out] at h)
  have HN : Asd (symP s.data.toList ≤ s.size) := Asd.mk (symP_le _)
  have HLE := Asd.mk hl
  have HDI := Asd.mk hd
  clear HNX hl hd
  go_enter Tryz.func52, Tryz.ntmps52
  have HS := Asd.mk (TkSt.new w)
  go_upto_region 6 with fail
  generalize (w.alloc (.cells #[.int .i64 0, .string ⟨#[]⟩, .int .i64 0, .int .i64 0] 52)).alloc (.cells #[.int .i64 0, .string ⟨#[]⟩, .int .i64 0, .int .i64 0] 52) = W at HS ⊢
  have HWW := Asd.mk (HW.out.below HS.out.below)
  go_wp2_with fail
  refine (letter_calls s[0].toNat (by first | exact hc8 | decide) _).mono ?_
  rintro e w' ⟨rfl, rfl⟩
  rw [show letN s[0].toNat = false from HLE.out]
  go_wp2_with fail
  refine (digit_calls s[0].toNat (by first | exact hc8 | decide) _).mono ?_
  rintro e w' ⟨rfl, rfl⟩
  rw [show digN s[0].toNat = false from HDI.out]
  go_wp2_with fail
  refine (symbol_calls s _ h1 hs).mono ?_
  rintro e w' ⟨rfl, rfl⟩
  generalize symP s.data.toList = n at HTP HN
  have hn := HN.out
  have HEL : Asd ((s.extract 0 n).data.toList = s.data.toList.take n) := Asd.mk (by rw [ext_list]; simp)
  have b0 := (blk_cell HS.out.box 0).trans rfl
  have zb0 := blk_frozen HS.out.box 0
  have b1 := (blk_cell HS.out.box 1).trans rfl
  have zb1 := blk_frozen HS.out.box 1
  go_upto_region 5 with fail
  go_region
  have HS3 := Asd.mk ((HS.out.set 0 (.int .i64 5)).set 1 (.string (s.extract 0 n))).drew
  generalize ((w'.setCell ⟨w.heap.size + 1, 0, none⟩ (.int .i64 5)).setCell ⟨w.heap.size + 1, 1, none⟩ (.string (s.extract 0 n))).drew = W3 at HS3 ⊢
  have y0 := (blk_cell HS3.out.box 0).trans rfl
  have y1 := (blk_cell HS3.out.box 1).trans rfl
  have y2 := (blk_cell HS3.out.box 2).trans rfl
  have y3 := (blk_cell HS3.out.box 3).trans rfl
  have r0 := (blk_cell HS3.out.res 0).trans rfl
  have zr0 := blk_frozen HS3.out.res 0
  have r1 := (blk_cell HS3.out.res 1).trans rfl
  have zr1 := blk_frozen HS3.out.res 1
  have r2 := (blk_cell HS3.out.res 2).trans rfl
  have zr2 := blk_frozen HS3.out.res 2
  have r3 := (blk_cell HS3.out.res 3).trans rfl
  have zr3 := blk_frozen HS3.out.res 3
  by_cases h0 : n = 0
  · subst h0
    have HTN := Asd.mk (HTP.out.trans (if_pos rfl))
    clear HTP hn
    go_wp2
    refine bodyPost_ret (results_token rfl _ _ w.heap.size _ rfl (HS3.out.fin _ _ _ _).1 rfl) rfl ?_
    exact tok_none HTN.out (HS3.out.fin _ _ _ _).2 5 _ 0 rfl
  · have HTN := Asd.mk (HTP.out.trans (if_neg h0))
    have HEX : Asd (s.extract 0 n = ⟨(s.data.toList.take n).toArray⟩) := Asd.mk (by rw [← HEL.out])
    rw [HEX.out] at y1
    go_wp2
    refine bodyPost_ret (results_token rfl _ _ w.heap.size _ rfl (HS3.out.fin _ _ _ _).1 rfl) rfl ?_
    exact tok_some HTN.out (HS3.out.fin _ _ _ _).2 rfl
set_option maxRecDepth 100000 in
set_option maxHeartbeats 3200000 in
theorem tok_text (s : ByteArray) (w : World) (h1 : 1 ≤ s.size) (hs : s.size ≤ 1048576) (hw : LexW w) (hc : s[0].toNat = 39) :
    Calls Tryz.prog 52 #[.string s] w fun e w' => TokEnd s.data.toList w e w' := by
  have HW := Asd.mk hw
  clear hw
  have HLN : Asd (s.data.toList.length = s.size) := Asd.mk rfl
  have HL : Asd (s.data.toList = s[0] :: s.data.toList.drop 1) := Asd.mk (by have := drop_cons s 0 h1; simpa using this)
  have HXL : Asd ((s.extract 1 s.size).data.toList = s.data.toList.drop 1) := Asd.mk (by
    rw [ext_list, List.take_of_length_le (Nat.le_of_eq (show s.data.toList.length = s.size from rfl))])
  have hc8 := s[0].toNat_lt
  have HC := Asd.mk (show s[0] = 39 from UInt8.toNat_inj.mp hc)
  have HTP : Asd (tokP s.data.toList = (textP (s.data.toList.drop 1)).map fun x => (⟨3, x.1, 0⟩, x.2 + 1)) := Asd.mk (by
    have h := tokP_text (r := s.data.toList.drop 1)
    have h2 := HL.out
    rw [HC.out] at h2
    rwa [← h2] at h)
  go_enter Tryz.func52, Tryz.ntmps52
  have HS := Asd.mk (TkSt.new w)
  go_upto_region 6 with fail
  generalize (w.alloc (.cells #[.int .i64 0, .string ⟨#[]⟩, .int .i64 0, .int .i64 0] 52)).alloc (.cells #[.int .i64 0, .string ⟨#[]⟩, .int .i64 0, .int .i64 0] 52) = W at HS ⊢
  have HWW := Asd.mk (HW.out.below HS.out.below)
  go_wp2_with fail
  refine (letter_calls 39 (by first | exact hc8 | decide) _).mono ?_
  rintro e w' ⟨rfl, rfl⟩
  rw [show letN 39 = false from by decide]
  go_wp2_with fail
  refine (digit_calls 39 (by first | exact hc8 | decide) _).mono ?_
  rintro e w' ⟨rfl, rfl⟩
  rw [show digN 39 = false from by decide]
  have a0 := (blk_cell HS.out.box 0).trans rfl
  have za0 := blk_frozen HS.out.box 0
  have HS1 := Asd.mk (HS.out.set 0 (.int .i64 3))
  go_wp2_with fail
  refine (text_calls s _ h1 hs).mono ?_
  rintro e w1 ⟨rfl, hb1⟩
  have HS2 := Asd.mk (HS1.out.old hb1)
  clear hb1
  have b1 := (blk_cell HS2.out.box 1).trans rfl
  have zb1 := blk_frozen HS2.out.box 1
  cases htp : textP (s.data.toList.drop 1) with
  | none =>
    rw [textO_none htp]
    rw [htp] at HTP
    clear htp
    have HS3 := Asd.mk (HS2.out.set 1 (.string ⟨([] : List UInt8).toArray⟩))
    have y0 := (blk_cell HS3.out.box 0).trans rfl
    have y1 := (blk_cell HS3.out.box 1).trans rfl
    have y2 := (blk_cell HS3.out.box 2).trans rfl
    have y3 := (blk_cell HS3.out.box 3).trans rfl
    have r0 := (blk_cell HS3.out.res 0).trans rfl
    have zr0 := blk_frozen HS3.out.res 0
    have r1 := (blk_cell HS3.out.res 1).trans rfl
    have zr1 := blk_frozen HS3.out.res 1
    have r2 := (blk_cell HS3.out.res 2).trans rfl
    have zr2 := blk_frozen HS3.out.res 2
    have r3 := (blk_cell HS3.out.res 3).trans rfl
    have zr3 := blk_frozen HS3.out.res 3
    go_wp2
    refine bodyPost_ret (results_token rfl _ _ w.heap.size _ rfl (HS3.out.fin _ _ _ _).1 rfl) rfl ?_
    exact tok_none HTP.out (HS3.out.fin _ _ _ _).2 3 ⟨#[]⟩ 0 rfl
  | some x =>
    rw [textO_some htp]
    rw [htp] at HTP
    clear htp
    obtain ⟨t, n⟩ := x
    have HS3 := Asd.mk (HS2.out.set 1 (.string ⟨t.toArray⟩))
    have y0 := (blk_cell HS3.out.box 0).trans rfl
    have y1 := (blk_cell HS3.out.box 1).trans rfl
    have y2 := (blk_cell HS3.out.box 2).trans rfl
    have y3 := (blk_cell HS3.out.box 3).trans rfl
    have r0 := (blk_cell HS3.out.res 0).trans rfl
    have zr0 := blk_frozen HS3.out.res 0
    have r1 := (blk_cell HS3.out.res 1).trans rfl
    have zr1 := blk_frozen HS3.out.res 1
    have r2 := (blk_cell HS3.out.res 2).trans rfl
    have zr2 := blk_frozen HS3.out.res 2
    have r3 := (blk_cell HS3.out.res 3).trans rfl
    have zr3 := blk_frozen HS3.out.res 3
    go_wp2
    refine bodyPost_ret (results_token rfl _ _ w.heap.size _ rfl (HS3.out.fin _ _ _ _).1 rfl) rfl ?_
    exact tok_some HTP.out (HS3.out.fin _ _ _ _).2 rfl
set_option maxRecDepth 100000 in
set_option maxHeartbeats 3200000 in
theorem tok_num (s : ByteArray) (w : World) (h1 : 1 ≤ s.size) (hs : s.size ≤ 1048576) (hw : LexW w) (hx : ¬ s[0].toNat = 120) (hX : ¬ s[0].toNat = 88) (hl : letN s[0].toNat = false) (hd : digN s[0].toNat = true) :
    Calls Tryz.prog 52 #[.string s] w fun e w' => TokEnd s.data.toList w e w' := by
  have HW := Asd.mk hw
  clear hw
  have HLN : Asd (s.data.toList.length = s.size) := Asd.mk rfl
  have HL : Asd (s.data.toList = s[0] :: s.data.toList.drop 1) := Asd.mk (by have := drop_cons s 0 h1; simpa using this)
  have HXL : Asd ((s.extract 1 s.size).data.toList = s.data.toList.drop 1) := Asd.mk (by
    rw [ext_list, List.take_of_length_le (Nat.le_of_eq (show s.data.toList.length = s.size from rfl))])
  have hc8 := s[0].toNat_lt
  have HNX : ¬ ((s[0] = 120 ∨ s[0] = 88) ∧ (s.data.toList.drop 1).head? = some 39) := fun h => by
    rcases h.1 with h | h
    · exact hx (by rw [h]; rfl)
    · exact hX (by rw [h]; rfl)
  have HTP : Asd (tokP s.data.toList = (numP (s.data.toList.take (runP isDig s.data.toList))).map fun v => (⟨2, [], v⟩, runP isDig s.data.toList)) := Asd.mk (by
    have h := tokP_num (c := s[0]) (r := s.data.toList.drop 1) HNX hl hd
    rwa [← HL.out] at h)
  have HN : Asd (runP isDig s.data.toList ≤ s.size) := Asd.mk (runP_le _ _)
  have HNP : Asd (s.data.toList.take (runP isDig s.data.toList) ≠ []) := Asd.mk (by
    have h := run_pos isDig (c := s[0]) (r := s.data.toList.drop 1) hd
    rw [← HL.out] at h
    intro h2
    have h3 := congrArg List.length h2
    rw [List.length_take, HLN.out] at h3
    simp only [List.length_nil] at h3
    omega)
  have HAL := Asd.mk (run_all isDig s.data.toList)
  have HLE := Asd.mk hl
  have HDI := Asd.mk hd
  clear HNX hl hd
  go_enter Tryz.func52, Tryz.ntmps52
  have HS := Asd.mk (TkSt.new w)
  go_upto_region 6 with fail
  generalize (w.alloc (.cells #[.int .i64 0, .string ⟨#[]⟩, .int .i64 0, .int .i64 0] 52)).alloc (.cells #[.int .i64 0, .string ⟨#[]⟩, .int .i64 0, .int .i64 0] 52) = W at HS ⊢
  have HWW := Asd.mk (HW.out.below HS.out.below)
  go_wp2_with fail
  refine (letter_calls s[0].toNat (by first | exact hc8 | decide) _).mono ?_
  rintro e w' ⟨rfl, rfl⟩
  rw [show letN s[0].toNat = false from HLE.out]
  go_wp2_with fail
  refine (digit_calls s[0].toNat (by first | exact hc8 | decide) _).mono ?_
  rintro e w' ⟨rfl, rfl⟩
  rw [show digN s[0].toNat = true from HDI.out]
  go_wp2_with fail
  refine (run_digit s _ hs).mono ?_
  rintro e w' ⟨rfl, rfl⟩
  generalize runP isDig s.data.toList = n at HTP HN HNP HAL
  have hn := HN.out
  have HEL : Asd ((s.extract 0 n).data.toList = s.data.toList.take n) := Asd.mk (by rw [ext_list]; simp)
  have HES : Asd ((s.extract 0 n).size ≤ 1048576) := Asd.mk (by rw [ext_size]; omega)
  go_wp2_with fail
  rcases num_dig HNP.out HAL.out with ⟨v, hv⟩ | hv
  · refine (Tryz.strconv_ParseInt_10_at64_ok (s.extract 0 n) (by have := HES.out; omega) v (by rw [HEL.out]; exact hv) _).mono ?_
    rintro e w1 ⟨rfl, hh⟩
    have hb1 : Below w'.heap.size w' w1 := by
      rcases hh with rfl | ⟨t, rfl⟩
      · exact Below.refl _ _
      · exact below_bytes w' t
    have HS2 := Asd.mk (HS.out.old hb1)
    have HTN : Asd (tokP s.data.toList = some (⟨2, [], v⟩, n)) := Asd.mk (by rw [HTP.out, numP, hv]; rfl)
    clear hb1 hh hv HTP
    have b0 := (blk_cell HS2.out.box 0).trans rfl
    have zb0 := blk_frozen HS2.out.box 0
    have b3 := (blk_cell HS2.out.box 3).trans rfl
    have zb3 := blk_frozen HS2.out.box 3
    have HS3 := Asd.mk ((HS2.out.set 0 (.int .i64 2)).set 3 (.int .i64 v))
    have y0 := (blk_cell HS3.out.box 0).trans rfl
    have y1 := (blk_cell HS3.out.box 1).trans rfl
    have y2 := (blk_cell HS3.out.box 2).trans rfl
    have y3 := (blk_cell HS3.out.box 3).trans rfl
    have r0 := (blk_cell HS3.out.res 0).trans rfl
    have zr0 := blk_frozen HS3.out.res 0
    have r1 := (blk_cell HS3.out.res 1).trans rfl
    have zr1 := blk_frozen HS3.out.res 1
    have r2 := (blk_cell HS3.out.res 2).trans rfl
    have zr2 := blk_frozen HS3.out.res 2
    have r3 := (blk_cell HS3.out.res 3).trans rfl
    have zr3 := blk_frozen HS3.out.res 3
    go_wp2
    refine bodyPost_ret (results_token rfl _ _ w.heap.size _ rfl (HS3.out.fin _ _ _ _).1 rfl) rfl ?_
    exact tok_some HTN.out (HS3.out.fin _ _ _ _).2 rfl
  · obtain ⟨tt, pp, hev⟩ := HWW.out.rng
    refine (Tryz.strconv_ParseInt_10_at64_range (s.extract 0 n) (by have := HES.out; omega) (by rw [HEL.out]; exact hv) (.iface tt pp) _ hev (.inr ⟨tt, pp, rfl⟩)).mono ?_
    rintro e w1 ⟨N, rfl, _, _, hb1⟩
    have HS3 := Asd.mk (HS.out.old hb1)
    have HTN : Asd (tokP s.data.toList = none) := Asd.mk (by rw [HTP.out, numP, hv]; rfl)
    clear hb1 hv HTP hev
    have y0 := (blk_cell HS3.out.box 0).trans rfl
    have y1 := (blk_cell HS3.out.box 1).trans rfl
    have y2 := (blk_cell HS3.out.box 2).trans rfl
    have y3 := (blk_cell HS3.out.box 3).trans rfl
    have r0 := (blk_cell HS3.out.res 0).trans rfl
    have zr0 := blk_frozen HS3.out.res 0
    have r1 := (blk_cell HS3.out.res 1).trans rfl
    have zr1 := blk_frozen HS3.out.res 1
    have r2 := (blk_cell HS3.out.res 2).trans rfl
    have zr2 := blk_frozen HS3.out.res 2
    have r3 := (blk_cell HS3.out.res 3).trans rfl
    have zr3 := blk_frozen HS3.out.res 3
    go_wp2
    refine bodyPost_ret (results_token rfl _ _ w.heap.size _ rfl (HS3.out.fin _ _ _ _).1 rfl) rfl ?_
    exact tok_none HTN.out (HS3.out.fin _ _ _ _).2 0 ⟨#[]⟩ 0 rfl

theorem token_calls (s : ByteArray) (w : World) (h1 : 1 ≤ s.size) (hs : s.size ≤ 1048576) (hw : LexW w) :
    Calls Tryz.prog 52 #[.string s] w fun e w' => TokEnd s.data.toList w e w' := by
  by_cases hx : s[0].toNat = 120
  · by_cases hp : (s.data.toList.drop 1).head? = some 39
    · exact tok_blob120 s w h1 hs hw hx hp
    · exact tok_word120 s w h1 hs hw hx hp
  · by_cases hX : s[0].toNat = 88
    · by_cases hp : (s.data.toList.drop 1).head? = some 39
      · exact tok_blob88 s w h1 hs hw hX hp
      · exact tok_word88 s w h1 hs hw hX hp
    · cases hl : letN s[0].toNat with
      | true => exact tok_word s w h1 hs hw hx hX hl
      | false =>
        cases hd : digN s[0].toNat with
        | true => exact tok_num s w h1 hs hw hx hX hl hd
        | false =>
          by_cases hq : s[0].toNat = 39
          · exact tok_text s w h1 hs hw hq
          · exact tok_sym s w h1 hs hw hx hX hl hd hq
end Go.Proofs.YtcefmhofidoloaaGreatDoor.Lex

/- Tokens: the plain law of its loop. -/
set_option linter.unusedVariables false
set_option linter.unusedSimpArgs false
namespace Go.Proofs.YtcefmhofidoloaaGreatDoor.Lex
open Go.RowKit Go.Proofs.YtcefmhofidoloaaGreatDoor.Base Go.Proofs.YtcefmhofidoloaaGreatDoor.App Go.Proofs.YtcefmhofidoloaaGreatDoor.Byt

/-- The words of a text. -/
def lexT (l : List UInt8) : Except Nat (List (Tk × Nat)) := toksP l.length 0 l
def addT (done : List (Tk × Nat)) (x : Except Nat (List (Tk × Nat))) : Except Nat (List (Tk × Nat)) := match x with | .ok r => .ok (done ++ r) | .error k => .error k
/-- The words that are found so far, and the place. -/
def LexSt (l : List UInt8) (done : List (Tk × Nat)) (k : Nat) : Prop :=
  ∃ f, l.length - k ≤ f ∧ lexT l = addT done (toksP f k (l.drop k))
theorem LexSt.start (l : List UInt8) : LexSt l [] 0 := by
  refine ⟨l.length, by omega, ?_⟩
  rw [List.drop_zero]
  unfold lexT
  cases toksP l.length 0 l <;> rfl
theorem drop_len {l : List UInt8} {k : Nat} {c : UInt8} {r : List UInt8} (h : l.drop k = c :: r) : k < l.length ∧ r = l.drop (k + 1) ∧ l.length - k = r.length + 1 := by
  have h1 := congrArg List.length h
  simp only [List.length_drop, List.length_cons] at h1
  have hk : k < l.length := by omega
  refine ⟨hk, ?_, h1⟩
  rw [List.drop_eq_getElem_cons hk] at h
  injection h with _ h
  exact h.symm
theorem LexSt.fin {l : List UInt8} {done : List (Tk × Nat)} {k : Nat} (h : LexSt l done k) (hk : l.drop k = []) : lexT l = .ok done := by
  obtain ⟨f, hf, h⟩ := h
  rw [h, hk]
  cases f with
  | zero => simp [toksP, addT]
  | succ f => simp [toksP, addT]
theorem LexSt.unfold {l : List UInt8} {done : List (Tk × Nat)} {k : Nat} {c : UInt8} {r : List UInt8} (h : LexSt l done k) (hk : l.drop k = c :: r) : ∃ f, r.length ≤ f ∧ lexT l = addT done (toksP (f + 1) k (c :: r)) := by
  obtain ⟨f, hf, h⟩ := h
  obtain ⟨h1, h2, h3⟩ := drop_len hk
  cases f with
  | zero => omega
  | succ f => exact ⟨f, by omega, by rw [h, hk]⟩
def isBl (c : UInt8) : Prop := c = 32 ∨ c = 9 ∨ c = 10 ∨ c = 13
theorem LexSt.blank {l : List UInt8} {done : List (Tk × Nat)} {k : Nat} {c : UInt8} {r : List UInt8} (h : LexSt l done k) (hk : l.drop k = c :: r) (hb : isBl c) : LexSt l done (k + 1) := by
  obtain ⟨f, hf, h⟩ := h.unfold hk
  obtain ⟨h1, h2, h3⟩ := drop_len hk
  refine ⟨f, by omega, ?_⟩
  rw [h, ← h2, toksP]
  try simp only
  rw [if_pos (show c = 32 ∨ c = 9 ∨ c = 10 ∨ c = 13 from hb)]
theorem LexSt.note {l : List UInt8} {done : List (Tk × Nat)} {k : Nat} {c : UInt8} {r : List UInt8} (h : LexSt l done k) (hk : l.drop k = c :: r) (hc : c = 45) (hr : r.head? = some 45) (hm : 10 ∈ l.drop k) : LexSt l done (k + ((l.drop k).takeWhile (· != 10)).length) := by
  obtain ⟨f, hf, h⟩ := h.unfold hk
  obtain ⟨h1, h2, h3⟩ := drop_len hk
  have hw : (l.drop k).dropWhile (· != 10) = l.drop (k + ((l.drop k).takeWhile (· != 10)).length) := by
    rw [← List.drop_drop]
    have e : (l.drop k).takeWhile (· != 10) ++ (l.drop k).dropWhile (· != 10) = l.drop k := List.takeWhile_append_dropWhile
    have := List.drop_left' (l₁ := (l.drop k).takeWhile (· != 10)) (l₂ := (l.drop k).dropWhile (· != 10)) rfl
    rw [e] at this
    exact this.symm
  have hge : 1 ≤ ((l.drop k).takeWhile (· != 10)).length := by
    rw [hk, List.takeWhile_cons, hc]
    simp
  refine ⟨f, by omega, ?_⟩
  rw [h, ← hw, hk, toksP]
  try simp only
  rw [if_neg (by rw [hc]; decide), if_pos ⟨hc, hr⟩, if_pos (by rw [← hk]; exact hm)]
theorem LexSt.last {l : List UInt8} {done : List (Tk × Nat)} {k : Nat} {c : UInt8} {r : List UInt8} (h : LexSt l done k) (hk : l.drop k = c :: r) (hc : c = 45) (hr : r.head? = some 45) (hm : ¬ 10 ∈ l.drop k) : lexT l = .ok done := by
  obtain ⟨f, hf, h⟩ := h.unfold hk
  rw [h, toksP]
  try simp only
  rw [if_neg (by rw [hc]; decide), if_pos ⟨hc, hr⟩, if_neg (by rw [← hk]; exact hm)]
  simp [addT]
theorem LexSt.bad {l : List UInt8} {done : List (Tk × Nat)} {k : Nat} {c : UInt8} {r : List UInt8} (h : LexSt l done k) (hk : l.drop k = c :: r) (hb : ¬ isBl c) (hn : ¬ (c = 45 ∧ r.head? = some 45)) (ht : tokP (l.drop k) = none) : lexT l = .error k := by
  obtain ⟨f, hf, h⟩ := h.unfold hk
  rw [hk] at ht
  rw [h, toksP]
  try simp only
  rw [if_neg (show ¬ (c = 32 ∨ c = 9 ∨ c = 10 ∨ c = 13) from hb), if_neg hn, ht]
  rfl
theorem LexSt.word {l : List UInt8} {done : List (Tk × Nat)} {k : Nat} {c : UInt8} {r : List UInt8} (h : LexSt l done k) (hk : l.drop k = c :: r) (hb : ¬ isBl c) (hn : ¬ (c = 45 ∧ r.head? = some 45)) {t : Tk} {n : Nat} (ht : tokP (l.drop k) = some (t, n)) : LexSt l (done ++ [(t, k)]) (k + n) := by
  obtain ⟨f, hf, h⟩ := h.unfold hk
  obtain ⟨h1, h2, h3⟩ := drop_len hk
  have h4 := tokP_le ht
  simp only at h4
  rw [hk] at ht
  refine ⟨f, by omega, ?_⟩
  rw [h, toksP]
  try simp only
  rw [if_neg (show ¬ (c = 32 ∨ c = 9 ∨ c = 10 ∨ c = 13) from hb), if_neg hn, ht]
  try simp only
  rw [← hk, List.drop_drop]
  cases toksP f (k + n) (l.drop (k + n)) <;> simp [addT, Except.map]
end Go.Proofs.YtcefmhofidoloaaGreatDoor.Lex

/- How the reference writes a number. -/
set_option linter.unusedVariables false
set_option linter.unusedSimpArgs false
namespace Go.Proofs.YtcefmhofidoloaaGreatDoor.Lex
open Go.RowKit Go.Proofs.YtcefmhofidoloaaGreatDoor.Base Go.Proofs.YtcefmhofidoloaaGreatDoor.App Go.Proofs.YtcefmhofidoloaaGreatDoor.Byt

theorem nDigits_le : ∀ (k u : Nat), u < 10 ^ (k + 1) → Lib.nDigits u ≤ k + 1
  | 0, u, h => by rw [Lib.nDigits, dif_pos (by omega)]; exact Nat.le_refl _
  | k + 1, u, h => by
    rw [Lib.nDigits]
    split
    · omega
    · have := nDigits_le k (u / 10) (by rw [Nat.div_lt_iff_lt_mul (by omega)]; rw [Nat.pow_succ] at h; exact h)
      omega
theorem digits_small {u : Nat} (h : u < 18446744073709551616) : (Lib.decDigits u).length ≤ 20 := by
  rw [Lib.decDigits_length]
  exact nDigits_le 19 u (by omega)
/-- A number's last digit. -/
def dgt (n : Nat) : UInt8 := UInt8.ofNat (48 + n % 10)
theorem decDigits_step (n : Nat) : Lib.decDigits n = (if n / 10 = 0 then [] else Lib.decDigits (n / 10)) ++ [dgt n] := by
  by_cases h : n < 10
  · rw [Lib.decDigits, dif_pos h, if_pos (by omega), dgt, Nat.mod_eq_of_lt h]
    rfl
  · rw [Lib.decDigits, dif_neg h, if_neg (by omega)]
    rfl

theorem conv_digit (n : Nat) (W : World) : (convert 120 9 (.slice (some ⟨W.heap.size, 0, none⟩) 1 1)).run Tryz.prog (W.alloc (.cells #[.int .u8 (48 + (n : Int) % 10)] 5)) = .ok (.string ⟨#[dgt n]⟩) (W.alloc (.cells #[.int .u8 (48 + (n : Int) % 10)] 5)) := by
  have h := IsBytes.new W [dgt n] 5 (by simp)
  have e : bcells [dgt n] = [.int .u8 (48 + (n : Int) % 10)] := by
    have h2 : (dgt n).toNat = 48 + n % 10 := by
      unfold dgt
      rw [UInt8.toNat_ofNat']
      omega
    simp only [bcells, List.map_cons, List.map_nil, bcell, h2]
    congr 2
  rw [e] at h
  exact run_string 120 9 5 Tryz.underlying120 Tryz.underlying5 Tryz.underlying9 1 h

set_option maxRecDepth 100000 in
set_option maxHeartbeats 1600000 in
theorem digits_calls (u : Nat) (hu : u < 18446744073709551616) (w : World) :
    Calls Tryz.prog 222 #[.int .u64 (u : Int)] w fun e w' => e = .returned (.string ⟨(Lib.decDigits u).toArray⟩) ∧ Below w.heap.size w w' := by
  have hcv := conv_digit u
  have HLN := Asd.mk (digits_small hu)
  have HST := Asd.mk (decDigits_step u)
  go_enter Tryz.func222, Tryz.ntmps222
  go_wp2
  have hcv2 := hcv
  clear hcv
  go_loopw [0, 3] (fun v0 v3 wr => ∃ (n : Nat) (s : List UInt8), n < 18446744073709551616 ∧ v0 = .int .u64 (n : Int) ∧ v3 = .string ⟨s.toArray⟩ ∧ Asd ((if n = 0 then [] else Lib.decDigits n) ++ s = Lib.decDigits u) ∧ Asd (Below w.heap.size w wr)) (fun v0 _ _ => (intOf v0).toNat)
  case atStart => exact ⟨u / 10, [dgt u], by omega, by first | rfl | go_num | simp, by rfl, ⟨HST.out.symm⟩, ⟨below_alloc (Below.refl _ _) _⟩⟩
  case round =>
    obtain ⟨n, s, hn, rfl, rfl, HR, HB⟩ := hrel
    by_cases h0 : 0 < n
    · have hcv := conv_digit n
      have hsl : (⟨s.toArray⟩ : ByteArray).size ≤ 20 := by
        have h1 := HLN.out
        rw [← HR.out, List.length_append] at h1
        have h3 : (⟨s.toArray⟩ : ByteArray).size = s.length := by simp [ByteArray.size]
        rw [h3]
        omega
      have HE : Asd ((⟨#[dgt n]⟩ : ByteArray) ++ ⟨s.toArray⟩ = ⟨(dgt n :: s).toArray⟩) := Asd.mk (by
        rw [show (⟨#[dgt n]⟩ : ByteArray) = ⟨[dgt n].toArray⟩ from rfl, str_cat]
        rfl)
      have HR2 : Asd ((if n / 10 = 0 then [] else Lib.decDigits (n / 10)) ++ (dgt n :: s) = Lib.decDigits u) := Asd.mk (by
        have h1 := HR.out
        rw [if_neg (by omega), decDigits_step n, List.append_assoc] at h1
        exact h1)
      generalize (⟨s.toArray⟩ : ByteArray) = sb at hsl HE ⊢
      go_wp2
      go_roundw
      case rel => exact ⟨n / 10, _, by omega, by first | rfl | go_num | simp, by first | rw [← HE.out] | (rw [← HE.out]; rfl), HR2, ⟨below_alloc HB.out _⟩⟩
      case measure => simp [intOf]; omega
    · obtain rfl : n = 0 := by omega
      have HE : Asd (s = Lib.decDigits u) := Asd.mk (by have := HR.out; simpa using this)
      generalize hsb : (⟨s.toArray⟩ : ByteArray) = sb
      have HSB := Asd.mk hsb
      clear hsb
      go_wp2
      go_ret
      exact ⟨ret_eq (by rw [← HE.out, HSB.out]; rfl), HB.out⟩

theorem wrap_abs {n : Int} (h0 : -9223372036854775808 ≤ n) (h : n < 0) : IntKind.u64.wrap (-(IntKind.u64.wrap n)) = (n.natAbs : Int) := by
  simp [IntKind.wrap, IntKind.signed, IntKind.bits]
  omega
theorem wrap_pos {n : Int} (h1 : n ≤ 9223372036854775807) (h : 0 ≤ n) : IntKind.u64.wrap n = (n.toNat : Int) := by
  simp [IntKind.wrap, IntKind.signed, IntKind.bits]
  omega
set_option maxRecDepth 100000 in
set_option maxHeartbeats 1600000 in
theorem number_calls (n : Int) (h0 : -9223372036854775808 ≤ n) (h1 : n ≤ 9223372036854775807) (w : World) :
    Calls Tryz.prog 167 #[.int .i64 n] w fun e w' => e = .returned (.string ⟨(Lib.itoa n).toArray⟩) ∧ Below w.heap.size w w' := by
  by_cases h : n < 0
  · have HE := Asd.mk (wrap_abs h0 h)
    have hl := digits_small (u := n.natAbs) (by omega)
    have HI : Asd ((⟨#[45]⟩ : ByteArray) ++ ⟨(Lib.decDigits n.natAbs).toArray⟩ = ⟨(Lib.itoa n).toArray⟩) := Asd.mk (by
      rw [show (⟨#[45]⟩ : ByteArray) = ⟨[45].toArray⟩ from rfl, str_cat, Lib.itoa, if_pos h]
      rfl)
    have hsz : (⟨(Lib.decDigits n.natAbs).toArray⟩ : ByteArray).size ≤ 20 := by
      have h3 : (⟨(Lib.decDigits n.natAbs).toArray⟩ : ByteArray).size = (Lib.decDigits n.natAbs).length := by simp [ByteArray.size]
      omega
    have HD := Asd.mk (fun w => digits_calls n.natAbs (by omega) w)
    generalize (⟨(Lib.decDigits n.natAbs).toArray⟩ : ByteArray) = ds at hsz HI HD
    clear hl
    go_enter Tryz.func167, Tryz.ntmps167
    go_wp2_with fail
    rw [HE.out]
    refine (HD.out _).mono ?_
    rintro e w1 ⟨rfl, hb⟩
    have HB := Asd.mk hb
    clear hb
    go_wp2
    go_ret
    exact ⟨ret_eq (by rw [← HI.out]; rfl), HB.out⟩
  · obtain ⟨m, rfl⟩ := Int.eq_ofNat_of_zero_le (show 0 ≤ n by omega)
    have HI : Asd ((⟨(Lib.decDigits m).toArray⟩ : ByteArray) = ⟨(Lib.itoa (m : Int)).toArray⟩) := Asd.mk (by rw [Lib.itoa, if_neg h]; rfl)
    have HD := Asd.mk (fun w => digits_calls m (by omega) w)
    generalize (⟨(Lib.decDigits m).toArray⟩ : ByteArray) = ds at HI HD
    go_enter Tryz.func167, Tryz.ntmps167
    go_wp2_with fail
    refine (HD.out _).mono ?_
    rintro e w1 ⟨rfl, hb⟩
    have HB := Asd.mk hb
    clear hb
    go_wp2
    go_ret
    exact ⟨ret_eq (by rw [← HI.out]; rfl), HB.out⟩
end Go.Proofs.YtcefmhofidoloaaGreatDoor.Lex

/- How the reference writes a text, and a blob. -/
set_option linter.unusedVariables false
set_option linter.unusedSimpArgs false
namespace Go.Proofs.YtcefmhofidoloaaGreatDoor.Lex
open Go.RowKit Go.Proofs.YtcefmhofidoloaaGreatDoor.Base Go.Proofs.YtcefmhofidoloaaGreatDoor.App Go.Proofs.YtcefmhofidoloaaGreatDoor.Byt

set_option maxRecDepth 100000 in
set_option maxHeartbeats 1600000 in
theorem rcheck_calls (k : Int) (hk : k = 3 ∨ k = 4) (s : ByteArray) (w : World) :
    Calls Tryz.prog 170 #[.agg #[.int .i64 k, .int .i64 0, .string s]] w fun e w' => e = .returned (.int .i64 0) ∧ Below w.heap.size w w' := by
  rcases hk with rfl | rfl
  · go_enter Tryz.func170, Tryz.ntmps170
    go_wp2
    go_ret
    exact ⟨rfl, below_alloc (Below.refl _ _) _⟩
  · go_enter Tryz.func170, Tryz.ntmps170
    go_wp2
    go_ret
    exact ⟨rfl, below_alloc (Below.refl _ _) _⟩

theorem infoU8 : (Tryz.prog.info? 5).map (fun i => (i.zero, i.size, i.bytes)) = some (some (.int .u8 0), 1, 1) := by kernel_rfl
theorem rowB : RowT Tryz.prog 120 5 1 1 := ⟨Tryz.underlying120, by obtain ⟨i, h1, h2, h3, h4⟩ := info_parts infoU8; exact ⟨i, _, h1, h2, h3, h4, rfl⟩, by decide⟩

theorem bcells_length (l : List UInt8) : (bcells l).length = l.length := by simp [bcells]
theorem own_made {w : World} {B b : Nat} {xs : List UInt8} (h : w.heap[b]? = some (.cells (bcells xs).toArray 5 (0, 0))) (hB : B ≤ b) (hl : xs.length ≤ 100000) : w.ownsRow B 5 1 (.slice (some ⟨b, 0, none⟩) xs.length xs.length) xs.length (bcells xs) :=
  ⟨by rw [bcells_length]; omega, .inr ⟨b, xs.length, _, rfl, hB, h, Nat.le_refl _, by unfold maxLen; omega, by simp [bcells], by rw [List.take_of_length_le (by simp [bcells])]⟩⟩

set_option maxRecDepth 100000 in
set_option maxHeartbeats 3200000 in
theorem rlit_text (s : ByteArray) (w : World) (hs : s.size ≤ 1048576) :
    Calls Tryz.prog 99 #[.agg #[.int .i64 3, .int .i64 0, .string s]] w fun e w' => e = .returned (.string ⟨(litText s.data.toList).toArray⟩) ∧ Below w.heap.size w w' := by
  go_enter Tryz.func99, Tryz.ntmps99
  go_wp2_with fail
  refine (rcheck_calls 3 (.inl rfl) s _).mono ?_
  rintro e w1 ⟨rfl, hb1⟩
  have HB0 := Asd.mk (below_alloc (Below.refl _ w) (.cells #[.int .i64 3, .int .i64 0, .string s] 56))
  have HX := Asd.mk (blk_below hb1 (blk_new w (.cells #[.int .i64 3, .int .i64 0, .string s] 56)))
  have HB1 : Asd (Below w.heap.size w w1) := Asd.mk (below_step HB0.out hb1)
  have x0 := (blk_cell HX.out 0).trans rfl
  have y0 := (blk_cell (blk_alloc HX.out (.cells #[.int .u8 39] 5)) 0).trans rfl
  have HO0 : Asd ((w1.alloc (.cells #[.int .u8 39] 5)).ownsRow w1.heap.size 5 1 (.slice (some ⟨w1.heap.size, 0, none⟩) 1 1) 1 (bcells [39])) := Asd.mk (own_made (xs := [39]) (blk_new w1 _) (Nat.le_refl _) (by simp))
  have HBW : Asd (w.heap.size < w1.heap.size) := Asd.mk (blk_lt HX.out)
  clear hb1
  go_wp2
  go_loopw [3, 4] (fun v3 v4 wr => ∃ (k m c : Nat) (A : Option Addr), k ≤ s.size ∧ v4 = .int .i64 (k : Int) ∧ v3 = .slice A m c ∧ Asd (wr.ownsRow w1.heap.size 5 1 (.slice A m c) m (bcells (39 :: quotes (s.data.toList.take k)))) ∧ Asd (Below w1.heap.size w1 wr)) (fun _ v4 _ => s.size - (intOf v4).toNat)
  case atStart => exact ⟨0, 1, 1, _, by omega, rfl, rfl, ⟨HO0.out⟩, ⟨below_alloc (Below.refl _ _) _⟩⟩
  case round =>
    obtain ⟨k, m, c, A, hk, rfl, rfl, HO, HBR⟩ := hrel
    have HXR := Asd.mk (blk_below HBR.out HX.out)
    have x0 := (blk_cell HXR.out 0).trans rfl
    have x2 := (blk_cell HXR.out 2).trans rfl
    have hm : m ≤ 2097153 := by
      have h1 := HO.out.1
      have h2 := quotes_len (s.data.toList.take k)
      have h3 : (s.data.toList.take k).length ≤ k := by rw [List.length_take]; omega
      simp only [bcells, List.length_map, List.length_cons, Nat.mul_one] at h1
      omega
    have hsz : w1.heap.size ≤ wr.heap.size := HBR.out.size
    by_cases hlt : k < s.size
    · have hc := s[k].toNat_lt
      have HTS := Asd.mk (take_snoc s k hlt)
      generalize hsk : s[k] = b at hc HTS
      by_cases h39 : b = 39
      · subst h39
        have HOA := Asd.mk (HO.out.alloc (.cells #[.int .u8 39, .int .u8 39] 5))
        have HF := Asd.mk (Feeds.of_block (size := 1) (m := 2) (c := 2) (blk_new wr (.cells #[.int .u8 39, .int .u8 39] 5)) rfl (by simp [Value.oneCell']))
        go_wp2_with (at_builtin; refine wpList_src rfl (.tmp 59) (.tmp 60) _ rfl rowB _ rfl HOA.out (some ⟨wr.heap.size, 0, none⟩) 2 2 rfl HF.out (by unfold maxLen; omega) (by omega) (by simp; omega) ?_)
        intro A9 c9 w9 ho9 hg9
        have HO9 : Asd (w9.ownsRow w1.heap.size 5 1 (.slice A9 (m + 2) c9) (m + 2) (bcells (39 :: quotes (s.data.toList.take (k + 1))))) := Asd.mk (by
          rw [HTS.out, quotes_append]
          simpa [bcells, bcell, quotes, quote1] using ho9)
        have HB9 : Asd (Below w1.heap.size w1 w9) := Asd.mk (below_own (below_alloc HBR.out _) HOA.out hg9 (Nat.le_refl _))
        clear ho9 hg9
        go_wp2
        go_roundw
        case rel => exact ⟨k + 1, _, _, _, by omega, by go_num, rfl, HO9, HB9⟩
        case measure => simp [intOf]; omega
      · have hne : ((b.toNat : Int) == 39) = false := by
          rw [beq_eq_false_iff_ne]
          intro e
          exact h39 (UInt8.toNat_inj.1 (show b.toNat = 39 by omega))
        have HOA := Asd.mk (HO.out.alloc (.cells #[.int .u8 (b.toNat : Int)] 5))
        have HF := Asd.mk (Feeds.of_block (size := 1) (m := 1) (c := 1) (blk_new wr (.cells #[.int .u8 (b.toNat : Int)] 5)) rfl (by simp [Value.oneCell']))
        have H39 := Asd.mk h39
        clear h39
        go_wp2_with (at_builtin; refine wpList_src rfl (.tmp 39) (.tmp 41) _ rfl rowB _ rfl HOA.out (some ⟨wr.heap.size, 0, none⟩) 1 1 rfl HF.out (by unfold maxLen; omega) (by omega) (by simp; omega) ?_)
        intro A9 c9 w9 ho9 hg9
        have HO9 : Asd (w9.ownsRow w1.heap.size 5 1 (.slice A9 (m + 1) c9) (m + 1) (bcells (39 :: quotes (s.data.toList.take (k + 1))))) := Asd.mk (by
          rw [HTS.out, quotes_append]
          simpa [bcells, bcell, quotes, quote1, H39.out] using ho9)
        have HB9 : Asd (Below w1.heap.size w1 w9) := Asd.mk (below_own (below_alloc HBR.out _) HOA.out hg9 (Nat.le_refl _))
        clear ho9 hg9
        go_wp2
        go_roundw
        case rel => exact ⟨k + 1, _, _, _, by omega, by go_num, rfl, HO9, HB9⟩
        case measure => simp [intOf]; omega
    · obtain rfl : k = s.size := by omega
      have HOA := Asd.mk (HO.out.alloc (.cells #[.int .u8 39] 5))
      have HF := Asd.mk (Feeds.of_block (size := 1) (m := 1) (c := 1) (blk_new wr (.cells #[.int .u8 39] 5)) rfl (by simp [Value.oneCell']))
      have HTK := Asd.mk (List.take_of_length_le (Nat.le_of_eq (show s.data.toList.length = s.size from rfl)))
      clear hlt
      go_wp2_with (at_builtin; refine wpList_src rfl (.tmp 62) (.tmp 63) _ rfl rowB _ rfl HOA.out (some ⟨wr.heap.size, 0, none⟩) 1 1 rfl HF.out (by unfold maxLen; omega) (by omega) (by simp; omega) ?_)
      intro A9 c9 w9 ho9 hg9
      have HB9 : Asd (Below w1.heap.size w1 w9) := Asd.mk (below_own (below_alloc HBR.out _) HOA.out hg9 (Nat.le_refl _))
      have HO9 : w9.ownsRow w1.heap.size 5 1 (.slice A9 (m + 1) c9) (m + 1) (bcells (litText s.data.toList)) := by
        rw [HTK.out] at ho9
        simpa [bcells, bcell, litText] using ho9
      obtain ⟨A8, c8, e8, hib, _⟩ := of_own HO9 (by omega)
      injection e8 with e1 e2 e3
      subst e1 e3
      have hcv := run_string 120 9 5 Tryz.underlying120 Tryz.underlying5 Tryz.underlying9 c9 hib
      have HBE : Asd (Below w.heap.size w w9) := Asd.mk (HB1.out.trans (HB9.out.mono HB1.out.size))
      clear ho9 hg9 HO9 hib
      generalize hrr : (⟨(litText s.data.toList).toArray⟩ : ByteArray) = rr at hcv
      have HRR := Asd.mk hrr
      clear hrr
      go_wp2
      go_ret
      exact ⟨ret_eq (by rw [HRR.out]; rfl), HBE.out⟩
end Go.Proofs.YtcefmhofidoloaaGreatDoor.Lex

/- Tokens: the walk. -/
set_option linter.unusedVariables false
set_option linter.unusedSimpArgs false
namespace Go.Proofs.YtcefmhofidoloaaGreatDoor.Lex
open Go.RowKit Go.Proofs.YtcefmhofidoloaaGreatDoor.Base Go.Proofs.YtcefmhofidoloaaGreatDoor.App Go.Proofs.YtcefmhofidoloaaGreatDoor.Byt

theorem infoT : (Tryz.prog.info? 52).map (fun i => (i.zero, i.size, i.bytes)) = some (some (.agg #[.int .i64 0, .string ⟨#[]⟩, .int .i64 0, .int .i64 0]), 4, 40) := by kernel_rfl
theorem rowT : RowT Tryz.prog 40 52 4 40 := ⟨Tryz.underlying40, by obtain ⟨i, h1, h2, h3, h4⟩ := info_parts infoT; exact ⟨i, _, h1, h2, h3, h4, rfl⟩, by decide⟩
def tcells (x : Tk × Nat) : List Value := [.int .i64 (x.1.kind : Int), .string ⟨x.1.text.toArray⟩, .int .i64 (x.2 : Nat), .int .i64 x.1.num]
def tkCells (l : List (Tk × Nat)) : List Value := l.flatMap tcells
theorem tkCells_snoc (l : List (Tk × Nat)) (x : Tk × Nat) : tkCells (l ++ [x]) = tkCells l ++ tcells x := by simp [tkCells]
/-- An error with a place. -/
def FaultE (w : World) (e : Ending) (w' : World) (k : Nat) (n : Int) : Prop :=
  ∃ N, e = .returned (.tuple #[.slice none 0 0, .iface 93 (.pointer (some ⟨N, 0, none⟩))]) ∧ w.heap.size ≤ N ∧ w'.heap[N]? = some (.cells #[.int .i64 (k : Int), .iface 33 (.int .i64 n)] 95 (0, 0))
def LexEnd (l : List UInt8) (w : World) (e : Ending) (w' : World) : Prop :=
  Below w.heap.size w w' ∧ if 16384 < l.length then FaultE w e w' 0 8 else match lexT l with
  | .ok ts => ∃ A m c, e = .returned (.tuple #[.slice A m c, .nilIface]) ∧ m = ts.length ∧ w'.ownsRow w.heap.size 52 4 (.slice A m c) m (tkCells ts)
  | .error k => FaultE w e w' k 20
theorem lex_ok {l : List UInt8} {w w' : World} {e : Ending} {ts : List (Tk × Nat)} {A : Option Addr} {m c : Nat} (h : ¬ 16384 < l.length) (hl : lexT l = .ok ts) (hb : Below w.heap.size w w') (he : e = .returned (.tuple #[.slice A m c, .nilIface])) (hm : m = ts.length) (ho : w'.ownsRow w.heap.size 52 4 (.slice A m c) m (tkCells ts)) : LexEnd l w e w' :=
  ⟨hb, by rw [if_neg h, hl]; exact ⟨A, m, c, he, hm, ho⟩⟩
theorem lex_bad {l : List UInt8} {w w' : World} {e : Ending} {k : Nat} (h : ¬ 16384 < l.length) (hl : lexT l = .error k) (hb : Below w.heap.size w w') (he : FaultE w e w' k 20) : LexEnd l w e w' :=
  ⟨hb, by rw [if_neg h, hl]; exact he⟩
theorem lex_long {l : List UInt8} {w w' : World} {e : Ending} (h : 16384 < l.length) (hb : Below w.heap.size w w') (he : FaultE w e w' 0 8) : LexEnd l w e w' :=
  ⟨hb, by rw [if_pos h]; exact he⟩

set_option maxRecDepth 100000 in
set_option maxHeartbeats 1600000 in
theorem tokens_long (s : ByteArray) (w : World) (hs : 16384 < s.size) :
    Calls Tryz.prog 14 #[.string s] w fun e w' => LexEnd s.data.toList w e w' := by
  have HL := Asd.mk (show 16384 < s.data.toList.length from hs)
  have HB := Asd.mk (below_alloc (Below.refl w.heap.size w) (.cells #[.int .i64 0, .iface 33 (.int .i64 8)] 95))
  have HN := Asd.mk (blk_new w (.cells #[.int .i64 0, .iface 33 (.int .i64 8)] 95))
  go_enter Tryz.func14, Tryz.ntmps14
  go_wp2
  go_step3
  go_wp2
  (try rw [Exit.noGoto_ret])
  refine bodyPost_ret (results_tmp2 rfl _ _ _) rfl ?_
  exact lex_long HL.out HB.out ⟨_, rfl, Nat.le_refl _, HN.out⟩

set_option maxRecDepth 100000 in
set_option maxHeartbeats 6400000 in
theorem tokens_short (s : ByteArray) (w : World) (hs : ¬ 16384 < s.size) (hw : LexW w) :
    Calls Tryz.prog 14 #[.string s] w fun e w' => LexEnd s.data.toList w e w' := by
  have HW := Asd.mk hw
  clear hw
  have HNL := Asd.mk (show ¬ 16384 < s.data.toList.length from hs)
  have HLN : Asd (s.data.toList.length = s.size) := Asd.mk rfl
  go_enter Tryz.func14, Tryz.ntmps14
  go_wp2
  go_step3
  go_wp2
  go_step3
  go_wp2
  go_loopw [4, 5] (fun v4 v5 wr => ∃ (k : Nat) (done : List (Tk × Nat)) (A : Option Addr) (m c : Nat), k ≤ s.size ∧ v4 = .slice A m c ∧ v5 = .int .i64 (k : Int) ∧ Asd (m = done.length) ∧ Asd (done.length ≤ k) ∧ Asd (LexSt s.data.toList done k) ∧ Asd (wr.ownsRow w.heap.size 52 4 (.slice A m c) m (tkCells done)) ∧ Asd (Below w.heap.size w wr)) (fun _ v5 _ => s.size - (intOf v5).toNat)
  case atStart => exact ⟨0, [], none, 0, 0, by omega, rfl, rfl, ⟨rfl⟩, ⟨Nat.le_refl _⟩, ⟨LexSt.start _⟩, ⟨World.ownsRow_nil _ _ _ _⟩, ⟨Below.refl _ _⟩⟩
  case round =>
    obtain ⟨k, done, A, m, c, hk, rfl, rfl, HM, HDK, HS, HO, HB⟩ := hrel
    by_cases hlt : k < s.size
    · have HD := Asd.mk (drop_cons s k hlt)
      have hc8 := s[k].toNat_lt
      have HXL : Asd ((s.extract k s.size).data.toList = s.data.toList.drop k) := Asd.mk (by
        rw [ext_list, List.take_of_length_le (Nat.le_of_eq (show s.data.toList.length = s.size from rfl))])
      have HX1 : Asd (1 ≤ (s.extract k s.size).size) := Asd.mk (by rw [ext_size]; omega)
      have HXS : Asd ((s.extract k s.size).size ≤ 1048576) := Asd.mk (by rw [ext_size]; omega)
      have HWR := Asd.mk (HW.out.below HB.out)
      by_cases hb32 : s[k].toNat = 32
      · have HS2 := Asd.mk (HS.out.blank HD.out (by unfold isBl; rw [show s[k] = 32 from UInt8.toNat_inj.mp hb32]; decide))
        clear HWR HX1 HXS HXL
        go_wp2
        go_roundw
        case rel => exact ⟨k + 1, done, A, m, c, by omega, rfl, by go_num, HM, ⟨by have := HDK.out; omega⟩, HS2, HO, HB⟩
        case measure => simp [intOf]; omega
      · by_cases hb9 : s[k].toNat = 9
        · have HS2 := Asd.mk (HS.out.blank HD.out (by unfold isBl; rw [show s[k] = 9 from UInt8.toNat_inj.mp hb9]; decide))
          clear HWR HX1 HXS HXL
          go_wp2
          go_roundw
          case rel => exact ⟨k + 1, done, A, m, c, by omega, rfl, by go_num, HM, ⟨by have := HDK.out; omega⟩, HS2, HO, HB⟩
          case measure => simp [intOf]; omega
        · by_cases hb10 : s[k].toNat = 10
          · have HS2 := Asd.mk (HS.out.blank HD.out (by unfold isBl; rw [show s[k] = 10 from UInt8.toNat_inj.mp hb10]; decide))
            clear HWR HX1 HXS HXL
            go_wp2
            go_roundw
            case rel => exact ⟨k + 1, done, A, m, c, by omega, rfl, by go_num, HM, ⟨by have := HDK.out; omega⟩, HS2, HO, HB⟩
            case measure => simp [intOf]; omega
          · by_cases hb13 : s[k].toNat = 13
            · have HS2 := Asd.mk (HS.out.blank HD.out (by unfold isBl; rw [show s[k] = 13 from UInt8.toNat_inj.mp hb13]; decide))
              clear HWR HX1 HXS HXL
              go_wp2
              go_roundw
              case rel => exact ⟨k + 1, done, A, m, c, by omega, rfl, by go_num, HM, ⟨by have := HDK.out; omega⟩, HS2, HO, HB⟩
              case measure => simp [intOf]; omega
            · by_cases hb45 : s[k].toNat = 45
              · have h45 : s[k] = 45 := UInt8.toNat_inj.mp hb45
                by_cases hp : (s.data.toList.drop (k + 1)).head? = some 45
                · have HP : Asd (Lib.hasPrefix (s.data.toList.drop k) [45, 45] = true) := Asd.mk (by
                    rw [HD.out, h45, pre2]
                    cases hh : s.data.toList.drop (k + 1) with
                    | nil => rw [hh] at hp; cases hp
                    | cons a b => rw [hh] at hp; injection hp with hp; exact ⟨b, by rw [hp]⟩)
                  by_cases hm : (10 : UInt8) ∈ s.data.toList.drop k
                  · have HS2 := Asd.mk (HS.out.note HD.out h45 hp hm)
                    have HIX := Asd.mk (index_take _ _ hm)
                    have HJL : Asd (k + ((s.data.toList.drop k).takeWhile (· != 10)).length ≤ s.size ∧ 1 ≤ ((s.data.toList.drop k).takeWhile (· != 10)).length) := Asd.mk (by
                      have h := takeW_le (· != (10 : UInt8)) (s.data.toList.drop k)
                      rw [List.length_drop, HLN.out] at h
                      refine ⟨by omega, ?_⟩
                      rw [HD.out, h45, List.takeWhile_cons]
                      simp)
                    generalize ((s.data.toList.drop k).takeWhile (· != 10)).length = j at HS2 HIX HJL
                    obtain ⟨hj, hj1⟩ := HJL.out
                    clear hm hp h45
                    go_wp2_with fail
                    refine (Tryz.strings_HasPrefix (s.extract k s.size) ⟨#[45, 45]⟩ _).mono ?_
                    rintro e w' ⟨rfl, rfl⟩
                    rw [HXL.out, show (⟨#[45, 45]⟩ : ByteArray).data.toList = [45, 45] from rfl, HP.out]
                    go_wp2_with fail
                    refine (Tryz.strings_IndexByte (s.extract k s.size) 10 _).mono ?_
                    rintro e w' ⟨rfl, rfl⟩
                    rw [HXL.out, show ((10 : Int).toNat.toUInt8) = 10 by decide, HIX.out]
                    have hj0 : (0 : Int) ≤ (j : Int) := by omega
                    go_wp2
                    go_roundw
                    case rel => exact ⟨k + j, done, A, m, c, hj, rfl, by go_num, HM, ⟨by have := HDK.out; omega⟩, HS2, HO, HB⟩
                    case measure => simp [intOf]; omega
                  · have HR := Asd.mk (HS.out.last HD.out h45 hp hm)
                    have HIX := Asd.mk (index_not _ _ hm)
                    clear hm hp h45
                    go_wp2_with fail
                    refine (Tryz.strings_HasPrefix (s.extract k s.size) ⟨#[45, 45]⟩ _).mono ?_
                    rintro e w' ⟨rfl, rfl⟩
                    rw [HXL.out, show (⟨#[45, 45]⟩ : ByteArray).data.toList = [45, 45] from rfl, HP.out]
                    go_wp2_with fail
                    refine (Tryz.strings_IndexByte (s.extract k s.size) 10 _).mono ?_
                    rintro e w' ⟨rfl, rfl⟩
                    rw [HXL.out, show ((10 : Int).toNat.toUInt8) = 10 by decide, HIX.out]
                    go_wp2
                    (try rw [Exit.noGoto_ret])
                    refine bodyPost_ret (results_tmp2 rfl _ _ _) rfl ?_
                    exact lex_ok HNL.out HR.out HB.out rfl HM.out HO.out
                · have HP : Asd (Lib.hasPrefix (s.data.toList.drop k) [45, 45] = false) := Asd.mk (by
                    cases hh : Lib.hasPrefix (s.data.toList.drop k) [45, 45] with
                    | false => rfl
                    | true =>
                      obtain ⟨r, hr⟩ := (pre2 _ _ _).mp hh
                      rw [HD.out] at hr
                      injection hr with _ hr
                      exact absurd (by rw [hr]; rfl) hp)
                  have HNB : Asd (¬ isBl s[k]) := Asd.mk (by intro h; unfold isBl at h; rcases h with h | h | h | h; exact hb32 (by rw [h]; rfl); exact hb9 (by rw [h]; rfl); exact hb10 (by rw [h]; rfl); exact hb13 (by rw [h]; rfl))
                  have HNN : Asd (¬ (s[k] = 45 ∧ (s.data.toList.drop (k + 1)).head? = some 45)) := Asd.mk (by intro h; exact hp h.2)
                  clear hp h45
                  go_wp2_with fail
                  refine (Tryz.strings_HasPrefix (s.extract k s.size) ⟨#[45, 45]⟩ _).mono ?_
                  rintro e w' ⟨rfl, rfl⟩
                  rw [HXL.out, show (⟨#[45, 45]⟩ : ByteArray).data.toList = [45, 45] from rfl, HP.out]
                  go_wp2_with fail
                  refine (token_calls (s.extract k s.size) _ HX1.out HXS.out HWR.out).mono ?_
                  rintro e w1 ⟨hb1, he⟩
                  rw [HXL.out] at he
                  have HB1 : Asd (Below w.heap.size w w1) := Asd.mk (HB.out.trans (hb1.mono HB.out.size))
                  have HO1 := Asd.mk (own_below HO.out hb1)
                  clear hb1
                  cases hx : tokP (s.data.toList.drop k) with
                  | none =>
                    rw [hx] at he
                    obtain ⟨kd, tx, nm, rfl⟩ := he
                    have HR := Asd.mk (HS.out.bad HD.out HNB.out HNN.out hx)
                    clear hx
                    have HB2 := Asd.mk (below_alloc (below_alloc HB1.out (.cells #[.int .i64 kd, .string tx, .int .i64 0, .int .i64 nm] 52)) (.cells #[.int .i64 (k : Int), .iface 33 (.int .i64 20)] 95))
                    have HN2 := Asd.mk (blk_new (w1.alloc (.cells #[.int .i64 kd, .string tx, .int .i64 0, .int .i64 nm] 52)) (.cells #[.int .i64 (k : Int), .iface 33 (.int .i64 20)] 95))
                    have HNW : Asd (w.heap.size ≤ (w1.alloc (.cells #[.int .i64 kd, .string tx, .int .i64 0, .int .i64 nm] 52)).heap.size) := Asd.mk (by have := HB1.out.size; simp; omega)
                    rw [show (w1.alloc (.cells #[.int .i64 kd, .string tx, .int .i64 0, .int .i64 nm] 52)).heap.size = w1.heap.size + 1 by simp] at HN2 HNW
                    go_wp2
                    (try rw [Exit.noGoto_ret])
                    refine bodyPost_ret (results_tmp2 rfl _ _ _) rfl ?_
                    exact lex_bad HNL.out HR.out HB2.out ⟨_, rfl, HNW.out, HN2.out⟩
                  | some x =>
                    rw [hx] at he
                    obtain ⟨t, n⟩ := x
                    obtain rfl := he
                    have HS2 := Asd.mk (HS.out.word HD.out HNB.out HNN.out hx)
                    have hn := tokP_le hx
                    rw [List.length_drop, HLN.out] at hn
                    obtain ⟨hn1, hn2⟩ := hn
                    simp only at hn1 hn2
                    have hn0 : 0 < n := hn1
                    have hnk : k + n ≤ s.size := by omega
                    clear hx
                    have HB2 := Asd.mk (below_alloc HB1.out (.cells #[.int .i64 (t.kind : Int), .string ⟨t.text.toArray⟩, .int .i64 0, .int .i64 t.num] 52))
                    have HB12 := Asd.mk (below_alloc (Below.refl w1.heap.size w1) (.cells #[.int .i64 (t.kind : Int), .string ⟨t.text.toArray⟩, .int .i64 0, .int .i64 t.num] 52))
                    have HN2 := Asd.mk (blk_new w1 (.cells #[.int .i64 (t.kind : Int), .string ⟨t.text.toArray⟩, .int .i64 0, .int .i64 t.num] 52))
                    have HNW : Asd (w.heap.size ≤ w1.heap.size) := Asd.mk HB1.out.size
                    go_upto_region 18 with fail
                    generalize w1.alloc (.cells #[.int .i64 (t.kind : Int), .string ⟨t.text.toArray⟩, .int .i64 0, .int .i64 t.num] 52) = W2 at HB2 HB12 HN2 ⊢
                    have x2 := (blk_cell HN2.out 2).trans rfl
                    have z2 := blk_frozen HN2.out 2
                    go_upto_region 21 with fail
                    have HB13 := Asd.mk (HB12.out.setCell (p := ⟨w1.heap.size, 2, none⟩) (Nat.le_refl _) (.int .i64 (k : Int)))
                    have HB3 := Asd.mk (HB2.out.setCell (p := ⟨w1.heap.size, 2, none⟩) HNW.out (.int .i64 (k : Int)))
                    have HN3 := Asd.mk ((blk_set HN2.out 2 (.int .i64 (k : Int))).trans rfl)
                    have HO3 := Asd.mk (own_below HO1.out HB13.out)
                    generalize W2.setCell ⟨w1.heap.size, 2, none⟩ (.int .i64 (k : Int)) = W3 at HB3 HN3 HO3 ⊢
                    have y0 := (blk_cell HN3.out 0).trans rfl
                    have y1 := (blk_cell HN3.out 1).trans rfl
                    have y2 := (blk_cell HN3.out 2).trans rfl
                    have y3 := (blk_cell HN3.out 3).trans rfl
                    have HO4 := Asd.mk (HO3.out.alloc (.cells #[.int .i64 (t.kind : Int), .string ⟨t.text.toArray⟩, .int .i64 (k : Int), .int .i64 t.num] 52))
                    have HF := Asd.mk (Feeds.of_block (size := 4) (m := 1) (c := 1) (blk_new W3 (.cells #[.int .i64 (t.kind : Int), .string ⟨t.text.toArray⟩, .int .i64 (k : Int), .int .i64 t.num] 52)) rfl (by simp [Value.oneCell']))
                    have hmm : m ≤ 16384 := by have := HM.out; have := HDK.out; omega
                    have HWS : Asd (w.heap.size ≤ (W3.alloc (.cells #[.int .i64 (t.kind : Int), .string ⟨t.text.toArray⟩, .int .i64 (k : Int), .int .i64 t.num] 52)).heap.size) := Asd.mk (by have := HB3.out.size; simp; omega)
                    clear HB13 HB12 HB2 HN2
                    go_wp2_with (at_builtin; refine wpList_src rfl (.tmp 61) (.tmp 63) _ rfl rowT _ rfl HO4.out (some ⟨W3.heap.size, 0, none⟩) 1 1 rfl HF.out (by unfold maxLen; omega) (by omega) HWS.out ?_)
                    intro A9 c9 w9 ho9 hg9
                    have HB9 : Asd (Below w.heap.size w w9) := Asd.mk (below_own (below_alloc HB3.out _) HO4.out hg9 (Nat.le_refl _))
                    have HO9 : Asd (w9.ownsRow w.heap.size 52 4 (.slice A9 (m + 1) c9) (m + 1) (tkCells (done ++ [(t, k)]))) := Asd.mk (by rw [tkCells_snoc]; exact ho9)
                    clear ho9 hg9
                    go_wp2
                    go_roundw
                    case rel => exact ⟨k + n, done ++ [(t, k)], A9, m + 1, c9, hnk, rfl, by go_num, ⟨by have := HM.out; simp; omega⟩, ⟨by have := HDK.out; simp; omega⟩, HS2, HO9, HB9⟩
                    case measure => simp [intOf]; omega
              · have HNB : Asd (¬ isBl s[k]) := Asd.mk (by intro h; unfold isBl at h; rcases h with h | h | h | h; exact hb32 (by rw [h]; rfl); exact hb9 (by rw [h]; rfl); exact hb10 (by rw [h]; rfl); exact hb13 (by rw [h]; rfl))
                have HNN : Asd (¬ (s[k] = 45 ∧ (s.data.toList.drop (k + 1)).head? = some 45)) := Asd.mk (by intro h; exact hb45 (by rw [h.1]; rfl))
                go_wp2_with fail
                refine (token_calls (s.extract k s.size) _ HX1.out HXS.out HWR.out).mono ?_
                rintro e w1 ⟨hb1, he⟩
                rw [HXL.out] at he
                have HB1 : Asd (Below w.heap.size w w1) := Asd.mk (HB.out.trans (hb1.mono HB.out.size))
                have HO1 := Asd.mk (own_below HO.out hb1)
                clear hb1
                cases hx : tokP (s.data.toList.drop k) with
                | none =>
                  rw [hx] at he
                  obtain ⟨kd, tx, nm, rfl⟩ := he
                  have HR := Asd.mk (HS.out.bad HD.out HNB.out HNN.out hx)
                  clear hx
                  have HB2 := Asd.mk (below_alloc (below_alloc HB1.out (.cells #[.int .i64 kd, .string tx, .int .i64 0, .int .i64 nm] 52)) (.cells #[.int .i64 (k : Int), .iface 33 (.int .i64 20)] 95))
                  have HN2 := Asd.mk (blk_new (w1.alloc (.cells #[.int .i64 kd, .string tx, .int .i64 0, .int .i64 nm] 52)) (.cells #[.int .i64 (k : Int), .iface 33 (.int .i64 20)] 95))
                  have HNW : Asd (w.heap.size ≤ (w1.alloc (.cells #[.int .i64 kd, .string tx, .int .i64 0, .int .i64 nm] 52)).heap.size) := Asd.mk (by have := HB1.out.size; simp; omega)
                  rw [show (w1.alloc (.cells #[.int .i64 kd, .string tx, .int .i64 0, .int .i64 nm] 52)).heap.size = w1.heap.size + 1 by simp] at HN2 HNW
                  go_wp2
                  (try rw [Exit.noGoto_ret])
                  refine bodyPost_ret (results_tmp2 rfl _ _ _) rfl ?_
                  exact lex_bad HNL.out HR.out HB2.out ⟨_, rfl, HNW.out, HN2.out⟩
                | some x =>
                  rw [hx] at he
                  obtain ⟨t, n⟩ := x
                  obtain rfl := he
                  have HS2 := Asd.mk (HS.out.word HD.out HNB.out HNN.out hx)
                  have hn := tokP_le hx
                  rw [List.length_drop, HLN.out] at hn
                  obtain ⟨hn1, hn2⟩ := hn
                  simp only at hn1 hn2
                  have hn0 : 0 < n := hn1
                  have hnk : k + n ≤ s.size := by omega
                  clear hx
                  have HB2 := Asd.mk (below_alloc HB1.out (.cells #[.int .i64 (t.kind : Int), .string ⟨t.text.toArray⟩, .int .i64 0, .int .i64 t.num] 52))
                  have HB12 := Asd.mk (below_alloc (Below.refl w1.heap.size w1) (.cells #[.int .i64 (t.kind : Int), .string ⟨t.text.toArray⟩, .int .i64 0, .int .i64 t.num] 52))
                  have HN2 := Asd.mk (blk_new w1 (.cells #[.int .i64 (t.kind : Int), .string ⟨t.text.toArray⟩, .int .i64 0, .int .i64 t.num] 52))
                  have HNW : Asd (w.heap.size ≤ w1.heap.size) := Asd.mk HB1.out.size
                  go_upto_region 18 with fail
                  generalize w1.alloc (.cells #[.int .i64 (t.kind : Int), .string ⟨t.text.toArray⟩, .int .i64 0, .int .i64 t.num] 52) = W2 at HB2 HB12 HN2 ⊢
                  have x2 := (blk_cell HN2.out 2).trans rfl
                  have z2 := blk_frozen HN2.out 2
                  go_upto_region 21 with fail
                  have HB13 := Asd.mk (HB12.out.setCell (p := ⟨w1.heap.size, 2, none⟩) (Nat.le_refl _) (.int .i64 (k : Int)))
                  have HB3 := Asd.mk (HB2.out.setCell (p := ⟨w1.heap.size, 2, none⟩) HNW.out (.int .i64 (k : Int)))
                  have HN3 := Asd.mk ((blk_set HN2.out 2 (.int .i64 (k : Int))).trans rfl)
                  have HO3 := Asd.mk (own_below HO1.out HB13.out)
                  generalize W2.setCell ⟨w1.heap.size, 2, none⟩ (.int .i64 (k : Int)) = W3 at HB3 HN3 HO3 ⊢
                  have y0 := (blk_cell HN3.out 0).trans rfl
                  have y1 := (blk_cell HN3.out 1).trans rfl
                  have y2 := (blk_cell HN3.out 2).trans rfl
                  have y3 := (blk_cell HN3.out 3).trans rfl
                  have HO4 := Asd.mk (HO3.out.alloc (.cells #[.int .i64 (t.kind : Int), .string ⟨t.text.toArray⟩, .int .i64 (k : Int), .int .i64 t.num] 52))
                  have HF := Asd.mk (Feeds.of_block (size := 4) (m := 1) (c := 1) (blk_new W3 (.cells #[.int .i64 (t.kind : Int), .string ⟨t.text.toArray⟩, .int .i64 (k : Int), .int .i64 t.num] 52)) rfl (by simp [Value.oneCell']))
                  have hmm : m ≤ 16384 := by have := HM.out; have := HDK.out; omega
                  have HWS : Asd (w.heap.size ≤ (W3.alloc (.cells #[.int .i64 (t.kind : Int), .string ⟨t.text.toArray⟩, .int .i64 (k : Int), .int .i64 t.num] 52)).heap.size) := Asd.mk (by have := HB3.out.size; simp; omega)
                  clear HB13 HB12 HB2 HN2
                  go_wp2_with (at_builtin; refine wpList_src rfl (.tmp 61) (.tmp 63) _ rfl rowT _ rfl HO4.out (some ⟨W3.heap.size, 0, none⟩) 1 1 rfl HF.out (by unfold maxLen; omega) (by omega) HWS.out ?_)
                  intro A9 c9 w9 ho9 hg9
                  have HB9 : Asd (Below w.heap.size w w9) := Asd.mk (below_own (below_alloc HB3.out _) HO4.out hg9 (Nat.le_refl _))
                  have HO9 : Asd (w9.ownsRow w.heap.size 52 4 (.slice A9 (m + 1) c9) (m + 1) (tkCells (done ++ [(t, k)]))) := Asd.mk (by rw [tkCells_snoc]; exact ho9)
                  clear ho9 hg9
                  go_wp2
                  go_roundw
                  case rel => exact ⟨k + n, done ++ [(t, k)], A9, m + 1, c9, hnk, rfl, by go_num, ⟨by have := HM.out; simp; omega⟩, ⟨by have := HDK.out; simp; omega⟩, HS2, HO9, HB9⟩
                  case measure => simp [intOf]; omega
    · obtain rfl : k = s.size := by omega
      have HR := Asd.mk (HS.out.fin (by rw [List.drop_of_length_le (Nat.le_of_eq HLN.out)]))
      clear hlt
      go_wp2
      (try rw [Exit.noGoto_ret])
      refine bodyPost_ret (results_tmp2 rfl _ _ _) rfl ?_
      exact lex_ok HNL.out HR.out HB.out rfl HM.out HO.out
theorem tokens_calls (s : ByteArray) (w : World) (hw : LexW w) :
    Calls Tryz.prog 14 #[.string s] w fun e w' => LexEnd s.data.toList w e w' := by
  by_cases h : 16384 < s.size
  · exact tokens_long s w h
  · exact tokens_short s w h hw
end Go.Proofs.YtcefmhofidoloaaGreatDoor.Lex
