/- strconv.ParseUint of two hexadecimal digits; ContainsAny; the plain law of blobs. -/
import Derived.Test.YtcefmhofidoloaaGreatDoorLx7
import Derived.Test.YtcefmhofidoloaaGreatDoorLx5
set_option linter.unusedVariables false
set_option linter.unusedSimpArgs false
namespace Go.Proofs.YtcefmhofidoloaaGreatDoor.Lex
open Go.RowKit Go.Proofs.YtcefmhofidoloaaGreatDoor.Base Go.Proofs.YtcefmhofidoloaaGreatDoor.App Go.Proofs.YtcefmhofidoloaaGreatDoor.Byt

def HexedP (l : List UInt8) (w : World) (e : Ending) (w' : World) : Prop :=
  Below w.heap.size w w' ∧ match hexT l with
  | some n => e = .returned (.tuple #[.int .u64 (n : Int), .nilIface])
  | none => ∃ p, e = .returned (.tuple #[.int .u64 0, .iface 250 p])
set_option maxRecDepth 100000 in
set_option maxHeartbeats 1600000 in
theorem parse_calls (s : ByteArray) (w : World) (h2 : s.size = 2) (hw : LexW w) :
    Calls Tryz.prog 173 #[.string s, .int .i64 16, .int .i64 8] w fun e w' => HexedP s.data.toList w e w' := by
  have HW := Asd.mk hw
  clear hw
  have HS2 := Asd.mk h2
  clear h2
  cases hx : hexT s.data.toList with
  | some n =>
    have HX := Asd.mk hx
    clear hx
    go_enter Tryz.func173, Tryz.ntmps173
    go_wp2_with fail
    refine (hex_calls s _ HS2.out).mono ?_
    rintro e w' ⟨hb, he⟩
    rw [HX.out] at he
    obtain rfl := he
    have HB := Asd.mk hb
    clear hb
    go_wp2
    refine bodyPost_ret (results_tmp2 rfl _ _ _) rfl ?_
    exact ⟨HB.out, by rw [HX.out]; rfl⟩
  | none =>
    have HX := Asd.mk hx
    clear hx
    go_enter Tryz.func173, Tryz.ntmps173
    go_wp2_with fail
    refine (hex_calls s _ HS2.out).mono ?_
    rintro e w1 ⟨hb, he⟩
    rw [HX.out] at he
    obtain rfl := he
    have HB := Asd.mk hb
    have HW1 := Asd.mk (HW.out.below hb)
    clear hb
    go_wp2_with fail
    obtain ⟨t, p, hv⟩ := HW1.out.syn
    refine (Tryz.strconv_toError_syntax ⟨#[80, 97, 114, 115, 101, 85, 105, 110, 116]⟩ s 16 8 (.iface t p) w1 (by have := HS2.out; omega) hv (.inr ⟨t, p, rfl⟩)).mono ?_
    rintro e w2 ⟨N, rfl, _, _, hb2⟩
    have HB2 : Asd (Below w.heap.size w w2) := Asd.mk (HB.out.trans (hb2.mono HB.out.size))
    clear hb2 hv
    go_wp2
    refine bodyPost_ret (results_tmp2 rfl _ _ _) rfl ?_
    exact ⟨HB2.out, by rw [HX.out]; exact ⟨_, rfl⟩⟩

theorem iter_below (w : World) (s : ByteArray) (p : Nat) : Below w.heap.size w (w.iter s p) := below_alloc (Below.refl _ w) _

set_option maxRecDepth 100000 in
set_option maxHeartbeats 1600000 in
theorem any_calls (s chars : ByteArray) (w : World) (h2 : 2 ≤ chars.size) (h8 : s.size ≤ 8) (hascii : ∀ (j : Nat) b, s.data.toList[j]? = some b → b.toNat < 128) (hno : Lib.indexAny s.data.toList chars.data.toList = -1) :
    Calls Tryz.prog 174 #[.string s, .string chars] w fun e w' => e = .returned (.bool false) ∧ Below w.heap.size w w' := by
  have HC := Asd.mk (Tryz.strings_IndexAny_short s chars w h2 h8 hascii)
  have HNO := Asd.mk hno
  clear h2 h8 hascii hno
  go_enter Tryz.func174, Tryz.ntmps174
  go_wp2_with fail
  refine HC.out.mono ?_
  rintro e w1 ⟨rfl, pos, rfl⟩
  rw [HNO.out]
  have HB := Asd.mk (iter_below w s pos)
  generalize w.iter s pos = w1 at HB ⊢
  go_wp2
  go_ret
  exact ⟨ret_eq rfl, HB.out⟩

theorem hexT_two (a b : UInt8) : hexT [a, b] = hexPair a b := by
  unfold hexT hexPair
  simp
theorem hexPair_lt {a b : UInt8} {n : Nat} (h : hexPair a b = some n) : n < 256 := by
  unfold hexPair at h
  obtain ⟨x, hx, h⟩ := Option.bind_eq_some_iff.mp h
  obtain ⟨y, hy, rfl⟩ := Option.map_eq_some_iff.mp h
  have := hexV_lt hx
  have := hexV_lt hy
  omega
theorem hexV_ascii {c : UInt8} {v : Nat} (h : hexV c = some v) : c.toNat < 128 ∧ ¬ c ∈ [(43 : UInt8), 45, 95] := by
  have hn : ∀ d : UInt8, d ∈ [(43 : UInt8), 45, 95] → hexV d = none := by decide
  refine ⟨?_, fun hm => by rw [hn c hm] at h; cases h⟩
  unfold hexV at h
  split at h
  · rename_i hd
    simp [digN] at hd
    omega
  · split at h
    · omega
    · split at h
      · omega
      · cases h
theorem hexPair_ascii {a b : UInt8} {n : Nat} (h : hexPair a b = some n) : (∀ (j : Nat) c, [a, b][j]? = some c → c.toNat < 128) ∧ Lib.indexAny [a, b] [43, 45, 95] = -1 := by
  unfold hexPair at h
  obtain ⟨x, hx, h⟩ := Option.bind_eq_some_iff.mp h
  obtain ⟨y, hy, rfl⟩ := Option.map_eq_some_iff.mp h
  have h1 := hexV_ascii hx
  have h2 := hexV_ascii hy
  refine ⟨fun j c hj => ?_, ?_⟩
  · match j, hj with
    | 0, hj => simp at hj; subst hj; exact h1.1
    | 1, hj => simp at hj; subst hj; exact h2.1
    | j + 2, hj => simp at hj
  · have e1 : ([(43 : UInt8), 45, 95].contains a) = false := by simpa using h1.2
    have e2 : ([(43 : UInt8), 45, 95].contains b) = false := by simpa using h2.2
    simp only [Lib.indexAny, e1, e2]
    rfl

theorem unhex_cons (a b : UInt8) (r : List UInt8) : unhex (a :: b :: r) = (hexPair a b).bind fun x => (unhex r).map fun l => UInt8.ofNat x :: l := by rw [unhex]
theorem unhex_odd : ∀ (n : Nat) (l : List UInt8), l.length = 2 * n + 1 → unhex l = none
  | 0, [a], _ => rfl
  | 0, [], h => by simp at h
  | 0, a :: b :: r, h => by simp at h
  | n + 1, [], h => by simp at h
  | n + 1, [a], h => by simp at h
  | n + 1, a :: b :: r, h => by
    rw [unhex_cons, unhex_odd n r (by simp only [List.length_cons] at h; omega)]
    cases hexPair a b <;> rfl
/-- What of the digits is read so far. -/
def BlobSt (D l : List UInt8) (q : List UInt8) : Prop := unhex D = (unhex q).map (fun x => l ++ x)
theorem BlobSt.step {D l q : List UInt8} {a b : UInt8} {n : Nat} (h : BlobSt D l (a :: b :: q)) (hn : hexPair a b = some n) : BlobSt D (l ++ [UInt8.ofNat n]) q := by
  unfold BlobSt at h ⊢
  rw [h, unhex_cons, hn, Option.bind_some, Option.map_map]
  congr 1
  funext x
  simp
theorem BlobSt.stop {D l q : List UInt8} {a b : UInt8} (h : BlobSt D l (a :: b :: q)) (hn : hexPair a b = none) : unhex D = none := by
  unfold BlobSt at h
  rw [h, unhex_cons, hn]
  rfl
theorem BlobSt.done {D l : List UInt8} (h : BlobSt D l []) : unhex D = some l := by
  unfold BlobSt at h
  rw [h]
  simp [unhex]
def blobO (r : List UInt8) : List UInt8 × Nat := match blobP r with | none => ([], 0) | some x => x
theorem blobO_no {r : List UInt8} (h : ¬ 39 ∈ r) : blobO r = ([], 0) := by rw [blobO, blobP, if_neg h]
theorem blobO_bad {r : List UInt8} (h : unhex (r.takeWhile (· != 39)) = none) : blobO r = ([], 0) := by
  rw [blobO, blobP]
  split
  · rfl
  · rename_i heq
    split at heq
    · rw [h] at heq; cases heq
    · cases heq
theorem blobO_good {r l : List UInt8} (hm : 39 ∈ r) (h : unhex (r.takeWhile (· != 39)) = some l) : blobO r = (l, (r.takeWhile (· != 39)).length + 2) := by
  rw [blobO, blobP, if_pos hm, h]
  rfl
theorem index_take : ∀ (l : List UInt8) (c : UInt8), c ∈ l → Lib.indexByte l c = (l.takeWhile (· != c)).length
  | [], c, h => by simp at h
  | b :: l, c, h => by
    unfold Lib.indexByte
    by_cases hb : b = c
    · subst hb
      simp
    · have hm : c ∈ l := by
        rcases List.mem_cons.mp h with e | h
        · exact absurd e.symm hb
        · exact h
      have ih := index_take l c hm
      have h1 : (b == c) = false := by simpa using hb
      have h2 : (b != c) = true := by simp [bne, h1]
      rw [h1, List.takeWhile_cons, h2, ih]
      simp
theorem index_not (l : List UInt8) (c : UInt8) (h : ¬ c ∈ l) : Lib.indexByte l c = -1 := by
  have h1 := Lib.indexByte_ge l c
  have h2 : ¬ 0 ≤ Lib.indexByte l c := fun h0 => h ((indexByte_nn l c).mp h0)
  omega
theorem take_take (l : List UInt8) (c : UInt8) : l.take (l.takeWhile (· != c)).length = l.takeWhile (· != c) := by
  have h : l.takeWhile (· != c) ++ l.dropWhile (· != c) = l := List.takeWhile_append_dropWhile
  have := List.take_left' (l₁ := l.takeWhile (· != c)) (l₂ := l.dropWhile (· != c)) rfl
  rwa [h] at this
theorem cut_yes {l : List UInt8} (h : 39 ∈ l) : (Lib.cut l [39]).1 = l.takeWhile (· != 39) ∧ (Lib.cut l [39]).2.2 = true := by
  have hi := index_take l 39 h
  unfold Lib.cut
  rw [Lib.index_one, hi, if_pos (by omega)]
  exact ⟨by rw [Int.toNat_natCast]; exact take_take l 39, rfl⟩
theorem cut_no {l : List UInt8} (h : ¬ 39 ∈ l) : (Lib.cut l [39]).1 = l ∧ (Lib.cut l [39]).2.2 = false := by
  have hi := index_not l 39 h
  unfold Lib.cut
  rw [Lib.index_one, hi, if_neg (by omega)]
  exact ⟨rfl, rfl⟩
end Go.Proofs.YtcefmhofidoloaaGreatDoor.Lex
