/- lowered. -/
import Derived.Test.YtcefmhofidoloaaGreatDoorLx1
import Derived.Lib.ConvBytes
set_option linter.unusedVariables false
set_option linter.unusedSimpArgs false
namespace Go.Proofs.YtcefmhofidoloaaGreatDoor.Lex
open Go.RowKit Go.Proofs.YtcefmhofidoloaaGreatDoor.Base Go.Proofs.YtcefmhofidoloaaGreatDoor.App Go.Proofs.YtcefmhofidoloaaGreatDoor.Byt

def lowF (l : List UInt8) (k j : Nat) : UInt8 := if j < k then lowB (l.getD j 0) else l.getD j 0
/-- The row of the bytes, k of them lowered. -/
def LowSt (w : World) (b : Nat) (l : List UInt8) (k : Nat) : Prop :=
  ∃ (cs : Array Value) (N : Nat), l.length ≤ N ∧ w.heap[b]? = some (.cells cs 5 (N, N + 1)) ∧ l.length ≤ cs.size ∧ ∀ j, j < l.length → cs[j]? = some (bcell (lowF l k j))
theorem LowSt.cell {w : World} {b : Nat} {l : List UInt8} {k : Nat} (h : LowSt w b l k) (j : Nat) (hj : j < l.length) : w.cell? ⟨b, j, none⟩ = some (bcell (lowF l k j)) ∧ w.frozen? ⟨b, j, none⟩ = false := by
  obtain ⟨cs, N, hN, hb, hs, hc⟩ := h
  refine ⟨(blk_cell hb j).trans (hc j hj), ?_⟩
  simp [World.frozen?, hb]
  omega
theorem LowSt.turn {w : World} {b : Nat} {l : List UInt8} {k : Nat} (h : LowSt w b l k) (hk : k < l.length) : LowSt (w.setCell ⟨b, k, none⟩ (bcell (lowB (l.getD k 0)))) b l (k + 1) := by
  obtain ⟨cs, N, hN, hb, hs, hc⟩ := h
  refine ⟨_, N, hN, blk_set hb k _, by simpa using hs, fun j hj => ?_⟩
  rw [Array.getElem?_setIfInBounds]
  split
  · rename_i e
    subst e
    rw [if_pos (by omega)]
    simp [lowF]
  · rw [hc j hj]
    congr 2
    unfold lowF
    split <;> split <;> first | rfl | omega
theorem LowSt.keep {w : World} {b : Nat} {l : List UInt8} {k : Nat} (h : LowSt w b l k) (hk : lowB (l.getD k 0) = l.getD k 0) : LowSt w b l (k + 1) := by
  obtain ⟨cs, N, hN, hb, hs, hc⟩ := h
  refine ⟨cs, N, hN, hb, hs, fun j hj => ?_⟩
  rw [hc j hj]
  congr 2
  unfold lowF
  split
  · split <;> first | rfl | omega
  · split
    · obtain rfl : j = k := by omega
      exact hk.symm
    · rfl
theorem LowSt.new (w : World) (s : ByteArray) : LowSt (Lib.bytesWorld w 5 s) w.heap.size s.data.toList 0 := by
  refine ⟨_, _, ?_, Lib.bytesWorld_at_new w 5 s, ?_, fun j hj => ?_⟩
  · simp [Lib.bytesCells]
  · simp [Lib.bytesCells]
  · have hj2 : j < s.data.size := by simpa using hj
    have hj3 : j < s.size := hj2
    simp [Lib.bytesCells, Array.getElem?_append, lowF, List.getD, hj2, hj3, bcell]
theorem LowSt.bytes {w : World} {b : Nat} {l : List UInt8} (h : LowSt w b l l.length) (hl : l.length ≤ 1048576) : IsBytes w (some ⟨b, 0, none⟩) l.length (l.map lowB) := by
  refine ⟨by simp, by omega, fun _ => ⟨b, 0, rfl, fun j hj => ?_⟩⟩
  rw [Nat.zero_add, (h.cell j hj).1]
  simp [lowF, hj, List.getD]
theorem below_bytes (w : World) (s : ByteArray) : Below w.heap.size w (Lib.bytesWorld w 5 s) := by
  have h : Below w.heap.size w (w.drew.alloc (.cells (Lib.bytesCells w 5 s) 5)) := below_alloc (Below.refl _ w).drew _
  refine ⟨h.1, h.2, h.3, ?_, fun k hk => Lib.bytesWorld_at_old w _ s k hk⟩
  rw [Lib.bytesWorld_size]
  omega
theorem up_low {n : Nat} (h0 : 65 ≤ n) (h1 : n ≤ 90) : ((n : Int) + 97 - 65) = ((n + 32 : Nat) : Int) := by
  omega

set_option maxRecDepth 100000 in
set_option maxHeartbeats 1600000 in
theorem lowered_calls (s : ByteArray) (w : World) (hs : s.size ≤ 1048576) :
    Calls Tryz.prog 111 #[.string s] w fun e w' => e = .returned (.string ⟨(s.data.toList.map lowB).toArray⟩) ∧ Below w.heap.size w w' := by
  have hcv := Lib.run_convert_string_bytes (P := Tryz.prog) w 9 120 5 s Tryz.underlying9 Tryz.underlying120 Tryz.underlying5
  have HS0 := Asd.mk (LowSt.new w s)
  have HB0 := Asd.mk (below_bytes w s)
  have HL : Asd (s.data.toList.length = s.size) := Asd.mk rfl
  generalize hb : w.heap.size = b at hcv HS0
  have HBB := Asd.mk hb
  clear hb
  generalize grownCap w s.size 0 5 = cap at hcv
  generalize Lib.bytesWorld w 5 s = W1 at hcv HS0 HB0
  go_enter Tryz.func111, Tryz.ntmps111
  go_wp2
  go_loopw [10] (fun v wr => ∃ k : Nat, k ≤ s.size ∧ v = .int .i64 (k : Int) ∧ Asd (LowSt wr b s.data.toList k) ∧ Asd (Below w.heap.size w wr)) (fun v _ => s.size - (intOf v).toNat)
  case atStart => exact ⟨0, by omega, rfl, HS0, HB0⟩
  case round =>
    obtain ⟨k, hk, rfl, HS, HB⟩ := hrel
    by_cases hlt : k < s.size
    · have hkl : k < s.data.toList.length := hlt
      obtain ⟨q0, z0⟩ := HS.out.cell k hkl
      have HE : Asd (lowF s.data.toList k k = s.data.toList.getD k 0) := Asd.mk (by simp [lowF])
      rw [HE.out] at q0
      have HT := Asd.mk (HS.out.turn hkl)
      have HK := Asd.mk (HS.out.keep (k := k))
      generalize s.data.toList.getD k 0 = c at q0 HT HK
      have hc := c.toNat_lt
      simp only [bcell] at q0
      by_cases hup : 65 ≤ c.toNat ∧ c.toNat ≤ 90
      · have HW := Asd.mk (up_low hup.1 hup.2)
        have HLB : Asd (bcell (lowB c) = .int .u8 ((c.toNat + 32 : Nat) : Int)) := Asd.mk (by
          rw [lowB, if_pos hup, bcell, UInt8.toNat_ofNat']
          congr 2
          omega)
        rw [HLB.out] at HT
        have HB2 := Asd.mk (HB.out.setCell (p := ⟨b, k, none⟩) (Nat.le_of_eq HBB.out) (.int .u8 ((c.toNat + 32 : Nat) : Int)))
        rw [← HW.out] at HT HB2
        clear HK
        go_wp2
        go_roundw
        case rel => exact ⟨k + 1, by omega, by go_num, HT, HB2⟩
        case measure => simp [intOf]; omega
      · have HK2 := Asd.mk (HK.out (by rw [lowB, if_neg hup]))
        clear HT HK
        by_cases h65 : c.toNat < 65
        · clear hup
          go_wp2
          go_roundw
          case rel => exact ⟨k + 1, by omega, by go_num, HK2, HB⟩
          case measure => simp [intOf]; omega
        · have h91 : 90 < c.toNat := by omega
          have h65' : 65 ≤ c.toNat := by omega
          clear hup h65
          go_wp2
          go_roundw
          case rel => exact ⟨k + 1, by omega, by go_num, HK2, HB⟩
          case measure => simp [intOf]; omega
    · obtain rfl : k = s.size := by omega
      have hib := HS.out.bytes (by rw [HL.out]; exact hs)
      rw [HL.out] at hib
      have hcv := run_string (P := Tryz.prog) 120 9 5 Tryz.underlying120 Tryz.underlying5 Tryz.underlying9 cap hib
      generalize hrr : (⟨(s.data.toList.map lowB).toArray⟩ : ByteArray) = rr at hcv
      have HRR := Asd.mk hrr
      clear hrr hlt hib
      go_wp2
      go_ret
      exact ⟨ret_eq (by rw [HRR.out]; rfl), by rw [← HBB.out]; exact HB.out⟩
end Go.Proofs.YtcefmhofidoloaaGreatDoor.Lex
