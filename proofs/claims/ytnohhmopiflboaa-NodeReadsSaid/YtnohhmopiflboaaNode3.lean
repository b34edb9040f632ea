/- Package node and its reference: how nodes read; sizes. -/
import Derived.Test.YtnohhmopiflboaaNode2
set_option linter.unusedVariables false
set_option linter.unusedSimpArgs false
namespace Go.Proofs.Ytnohhmopiflboaa.Nod
open Go.RowKit Go.Proofs.Ytnohhmopiflboaa.Base Go.Proofs.Ytnohhmopiflboaa.Byt Go.Proofs.Ytnohhmopiflboaa.Rd

abbrev PB := List UInt8
abbrev PCell := PB × PB × Int × Int
abbrev PNode := Bool × List PCell × List PB × List Int

def rByte : Rel UInt8 := fun _ cs x => cs = [bcell x]
abbrev rB : Rel PB := rSl rByte 1 1
abbrev rCell : Rel PCell := rS4 rB rB (rInt .i64) (rInt .i64)
abbrev rCells : Rel (List PCell) := rSl rCell 4 64
abbrev rKeys : Rel (List PB) := rSl rB 1 24
abbrev rKids : Rel (List Int) := rSl (rInt .i64) 1 8
abbrev rNode : Rel PNode := rS4 rBool rCells rKeys rKids

theorem lasts_byte : Lasts rByte := fun _ _ _ _ _ h => h
theorem lasts_b : Lasts rB := lasts_sl lasts_byte _ _
theorem lasts_cell : Lasts rCell := lasts_s4 lasts_b lasts_b (lasts_int _) (lasts_int _)
theorem lasts_cells : Lasts rCells := lasts_sl lasts_cell _ _
theorem lasts_keys : Lasts rKeys := lasts_sl lasts_b _ _
theorem lasts_kids : Lasts rKids := lasts_sl (lasts_int _) _ _
theorem lasts_node : Lasts rNode := lasts_s4 lasts_bool lasts_cells lasts_keys lasts_kids

theorem opens_byte : Opens Try.prog 5 rByte := by
  intro H enc W fuel cs d p h _
  obtain ⟨n, rfl, _, hw⟩ := DataW.trod_int Try.underlying5 h
  have hb : 0 ≤ n ∧ n ≤ 255 := by simpa [Lit.wf, IntKind.min, IntKind.max, IntKind.signed, IntKind.bits] using hw
  refine ⟨UInt8.ofNat n.toNat, ?_⟩
  simp only [rByte, bcell]
  congr 2
  rw [UInt8.toNat_ofNat']
  omega
theorem opens_b : Opens Try.prog 31 rB := opens_sl Try.underlying31 (by kernel_rfl) (by decide) (by kernel_rfl) opens_byte
theorem opens_rcell : Opens Try.prog 78 rCell :=
  opens_s4 Try.underlying78 (by kernel_rfl) ⟨rfl, by kernel_rfl⟩ ⟨rfl, by kernel_rfl⟩ ⟨rfl, by kernel_rfl⟩ ⟨rfl, by kernel_rfl⟩ opens_b opens_b (opens_int Try.underlying3) (opens_int Try.underlying3)
theorem opens_rcells : Opens Try.prog 22 rCells := opens_sl Try.underlying22 (by kernel_rfl) (by decide) (by kernel_rfl) opens_rcell
theorem opens_keys : Opens Try.prog 23 rKeys := opens_sl Try.underlying23 (by kernel_rfl) (by decide) (by kernel_rfl) opens_b
theorem opens_kids : Opens Try.prog 24 rKids := opens_sl Try.underlying24 (by kernel_rfl) (by decide) (by kernel_rfl) (opens_int Try.underlying3)
theorem opens_node : Opens Try.prog 26 rNode :=
  opens_s4 Try.underlying26 (by kernel_rfl) ⟨rfl, by kernel_rfl⟩ ⟨rfl, by kernel_rfl⟩ ⟨rfl, by kernel_rfl⟩ ⟨rfl, by kernel_rfl⟩ (opens_bool Try.underlying4) opens_rcells opens_keys opens_kids

/-- Bytes that read as an element of a slice are bytes. -/
theorem bytes_of {W : World} {A : Option Addr} {n : Nat} {xs : PB} (h : IsSl rByte 1 W A n xs) (hn : n * 1 ≤ reachBytes) : IsBytes W A n xs := by
  refine ⟨h.1, by simp only [reachBytes] at hn; omega, fun hp => ?_⟩
  obtain ⟨b, o, rfl, _, hc⟩ := h.2 hp
  refine ⟨b, o, rfl, fun j hj => ?_⟩
  have hj' : j < xs.length := by rw [h.1]; exact hj
  obtain ⟨es, h1, h2, h3⟩ := hc j hj'
  have := h2 0 (by omega)
  rw [h3] at this
  simpa [List.getD, hj'] using this
theorem b_of {W : World} {c : Value} {xs : PB} (h : rB W [c] xs) : ∃ A n cp, c = .slice A n cp ∧ IsBytes W A n xs ∧ (A = none → cp = 0) ∧ n ≤ 140737488351232 := by
  obtain ⟨A, n, cp, e, hn, h0, hs⟩ := h
  simp only [List.cons.injEq, and_true] at e
  exact ⟨A, n, cp, e, bytes_of hs hn, h0, by simp only [reachBytes] at hn; omega⟩

/-! ### Sizes -/
def cellSz (c : PCell) : Int := csz c.1.length c.2.1.length c.2.2.1
def keySz (k : PB) : Int := 3 + k.length
def sumI (l : List Int) : Int := l.foldr (· + ·) 0
def nodeSz (x : PNode) : Int := if x.1 then 3 + sumI (x.2.1.map cellSz) else 5 + sumI (x.2.2.1.map keySz)
theorem sumI_snoc (l : List Int) (a : Int) : sumI (l ++ [a]) = sumI l + a := by
  induction l with
  | nil => simp [sumI]
  | cons b l ih => simp only [sumI, List.cons_append, List.foldr_cons] at ih ⊢; rw [ih]; omega
theorem take_snoc {α : Type} (l : List α) (k : Nat) (h : k < l.length) : l.take (k + 1) = l.take k ++ [l[k]] := List.take_succ_eq_append_getElem h
theorem wrap_add (a b : Int) : wrap64 (wrap64 a + b) = wrap64 (a + b) := by unfold wrap64; omega

/-- A node's four cells. -/
structure NodeAt (W : World) (x : PNode) (A1 : Option Addr) (n1 c1 : Nat) (A2 : Option Addr) (n2 c2 : Nat) (A3 : Option Addr) (n3 c3 : Nat) : Prop where
  cells : IsSl rCell 4 W A1 n1 x.2.1
  keys : IsSl rB 1 W A2 n2 x.2.2.1
  kids : IsSl (rInt .i64) 1 W A3 n3 x.2.2.2
  b1 : n1 * 64 ≤ reachBytes
  b2 : n2 * 24 ≤ reachBytes
  b3 : n3 * 8 ≤ reachBytes
  z1 : A1 = none → c1 = 0
  z2 : A2 = none → c2 = 0
  z3 : A3 = none → c3 = 0
theorem node_of {W : World} {v0 v1 v2 v3 : Value} {x : PNode} (h : rNode W [v0, v1, v2, v3] x) :
    ∃ A1 n1 c1 A2 n2 c2 A3 n3 c3, v0 = .bool x.1 ∧ v1 = .slice A1 n1 c1 ∧ v2 = .slice A2 n2 c2 ∧ v3 = .slice A3 n3 c3 ∧ NodeAt W x A1 n1 c1 A2 n2 c2 A3 n3 c3 := by
  obtain ⟨e0, e1, e2, e3, he, h0, ⟨A1, n1, c1, q1, b1, z1, s1⟩, ⟨A2, n2, c2, q2, b2, z2, s2⟩, ⟨A3, n3, c3, q3, b3, z3, s3⟩⟩ := h
  simp only [rBool, List.cons.injEq, and_true] at he h0 q1 q2 q3
  obtain ⟨rfl, rfl, rfl, rfl⟩ := he
  exact ⟨A1, n1, c1, A2, n2, c2, A3, n3, c3, h0, q1, q2, q3, s1, s2, s3, b1, b2, b3, z1, z2, z3⟩
theorem NodeAt.below {W W' : World} {x : PNode} {A1 A2 A3 : Option Addr} {n1 c1 n2 c2 n3 c3 : Nat} (h : NodeAt W x A1 n1 c1 A2 n2 c2 A3 n3 c3) (hb : Below W.heap.size W W') : NodeAt W' x A1 n1 c1 A2 n2 c2 A3 n3 c3 :=
  ⟨h.cells.below lasts_cell hb, h.keys.below lasts_b hb, h.kids.below (lasts_int _) hb, h.b1, h.b2, h.b3, h.z1, h.z2, h.z3⟩

/-- The cells at place k of a leaf. -/
theorem cell_at {W : World} {A : Option Addr} {n : Nat} {xs : List PCell} (h : IsSl rCell 4 W A n xs) (k : Nat) (hk : k < xs.length) :
    ∃ b o Ak nk ck Av nv cv, A = some ⟨b, o, none⟩ ∧ b < W.heap.size ∧ W.cell? ⟨b, o + k * 4, none⟩ = some (.slice Ak nk ck) ∧ W.cell? ⟨b, o + k * 4 + 1, none⟩ = some (.slice Av nv cv) ∧
      W.cell? ⟨b, o + k * 4 + 2, none⟩ = some (.int .i64 xs[k].2.2.1) ∧ W.cell? ⟨b, o + k * 4 + 3, none⟩ = some (.int .i64 xs[k].2.2.2) ∧
      IsBytes W Ak nk xs[k].1 ∧ IsBytes W Av nv xs[k].2.1 ∧ (Ak = none → ck = 0) ∧ (Av = none → cv = 0) ∧ nk ≤ 140737488351232 ∧ nv ≤ 140737488351232 := by
  have hn : 0 < n := by have := h.1; omega
  obtain ⟨b, o, rfl, hlt, hc⟩ := h.2 hn
  obtain ⟨es, _, hcell, c0, c1, c2, c3, rfl, h0, h1, ⟨h2, _⟩, ⟨h3, _⟩⟩ := hc k hk
  obtain ⟨Ak, nk, ck, rfl, ib0, z0, l0⟩ := b_of h0
  obtain ⟨Av, nv, cv, rfl, ib1, z1, l1⟩ := b_of h1
  simp only [List.cons.injEq, and_true] at h2 h3
  subst h2 h3
  refine ⟨b, o, Ak, nk, ck, Av, nv, cv, rfl, hlt, ?_, ?_, ?_, ?_, ib0, ib1, z0, z1, l0, l1⟩
  · simpa using hcell 0 (by omega)
  · simpa [Nat.add_assoc] using hcell 1 (by omega)
  · simpa [Nat.add_assoc] using hcell 2 (by omega)
  · simpa [Nat.add_assoc] using hcell 3 (by omega)
/-- The key at place k. -/
theorem key_at {W : World} {A : Option Addr} {n : Nat} {xs : List PB} (h : IsSl rB 1 W A n xs) (k : Nat) (hk : k < xs.length) :
    ∃ b o Ak nk ck, A = some ⟨b, o, none⟩ ∧ b < W.heap.size ∧ W.cell? ⟨b, o + k, none⟩ = some (.slice Ak nk ck) ∧ IsBytes W Ak nk xs[k] ∧ (Ak = none → ck = 0) ∧ nk ≤ 140737488351232 := by
  have hn : 0 < n := by have := h.1; omega
  obtain ⟨b, o, rfl, hlt, hc⟩ := h.2 hn
  obtain ⟨es, hes, hcell, h0⟩ := hc k hk
  match es, hes, hcell, h0 with
  | [c0], _, hcell, h0 =>
    obtain ⟨Ak, nk, ck, rfl, ib0, z0, l0⟩ := b_of h0
    exact ⟨b, o, Ak, nk, ck, rfl, hlt, by simpa using hcell 0 (by omega), ib0, z0, l0⟩
/-- The kid at place k. -/
theorem kid_at {W : World} {A : Option Addr} {n : Nat} {xs : List Int} (h : IsSl (rInt .i64) 1 W A n xs) (k : Nat) (hk : k < xs.length) :
    ∃ b o, A = some ⟨b, o, none⟩ ∧ b < W.heap.size ∧ W.cell? ⟨b, o + k, none⟩ = some (.int .i64 xs[k]) ∧ -9223372036854775808 ≤ xs[k] ∧ xs[k] ≤ 9223372036854775807 := by
  have hn : 0 < n := by have := h.1; omega
  obtain ⟨b, o, rfl, hlt, hc⟩ := h.2 hn
  obtain ⟨es, hes, hcell, h0, hw⟩ := hc k hk
  have hb : -9223372036854775808 ≤ xs[k] ∧ xs[k] ≤ 9223372036854775807 := by simpa [Lit.wf, IntKind.min, IntKind.max, IntKind.signed, IntKind.bits] using hw
  refine ⟨b, o, rfl, hlt, ?_, hb⟩
  have := hcell 0 (by omega)
  rw [h0] at this
  simpa using this

set_option maxHeartbeats 1600000 in
theorem size_calls (v0 v1 v2 v3 : Value) (x : PNode) (w : World) (h : rNode w [v0, v1, v2, v3] x) :
    Calls Try.prog 14 #[.agg #[v0, v1, v2, v3]] w fun e w' => e = .returned (.int .i64 (wrap64 (nodeSz x))) ∧ Below w.heap.size w w' := by
  obtain ⟨A1, n1, c1, A2, n2, c2, A3, n3, c3, rfl, rfl, rfl, rfl, hna⟩ := node_of h
  have HNA := Asd.mk hna
  have hb1 : n1 ≤ 140737488351232 := by have := hna.b1; simp only [reachBytes] at this; omega
  have hb2 : n2 ≤ 140737488351232 := by have := hna.b2; simp only [reachBytes] at this; omega
  clear h hna
  cases hx : x.1 with
  | true =>
    have HX := Asd.mk hx
    clear hx
    go_enter Try.func14, Try.ntmps14
    go_wp2
    go_loopw [3, 14] (fun s i wr => ∃ (k : Nat) (t : Int), k ≤ n1 ∧ i = .int .i64 (k : Int) ∧ s = .int .i64 t ∧ Asd (t = wrap64 (3 + sumI ((x.2.1.take k).map cellSz))) ∧ Below w.heap.size w wr) (fun _ i _ => n1 - (intOf i).toNat)
    case atStart => exact ⟨0, 3, by omega, rfl, rfl, ⟨by simp [sumI, wrap64]⟩, (Below.refl _ _).alloc (Nat.le_refl _) _⟩
    case round =>
      obtain ⟨k, t, hk, rfl, rfl, HT, hb⟩ := hrel
      have HB := Asd.mk hb
      by_cases hlt : k < n1
      · have hkl : k < x.2.1.length := by rw [HNA.out.cells.1]; exact hlt
        obtain ⟨b, o, Ak, nk, ck, Av, nv, cv, rfl, hbl, q0, q1, q2, q3, ib0, ib1, _, _, hnk, hnv⟩ := cell_at (HNA.out.below hb).cells k hkl
        have HSN := Asd.mk (take_snoc x.2.1 k hkl)
        have HC : Asd (cellSz x.2.1[k] = csz nk nv x.2.1[k].2.2.1) := Asd.mk (by unfold cellSz; rw [ib0.1, ib1.1])
        generalize hover : x.2.1[k].2.2.1 = over at q2 HC
        generalize hsize : x.2.1[k].2.2.2 = size at q3
        have hsz := HB.out.size
        clear hb ib0 ib1 hover hsize
        go_wp2_with fail
        refine (csize_calls Ak Av nk nv ck cv over size _ hnk hnv).mono ?_
        rintro e w2 ⟨rfl, hb2⟩
        have HB2 : Asd (Below w.heap.size w w2) := Asd.mk ((HB.out.alloc HB.out.size _).trans (hb2.mono (by simp; omega)))
        clear hb2
        go_wp2
        go_roundw
        case rel =>
          refine ⟨k + 1, _, by omega, by go_num, rfl, ⟨?_⟩, HB2.out⟩
          rw [HT.out, wrap_add, HSN.out, List.map_append, List.map_cons, List.map_nil, sumI_snoc, HC.out, Int.add_assoc]
        case measure => simp [intOf]; omega
      · have hkn : x.2.1.take k = x.2.1 := List.take_of_length_le (by rw [HNA.out.cells.1]; omega)
        have HE := Asd.mk hkn
        clear hkn hb
        go_wp2
        go_ret
        exact ⟨ret_eq (by rw [HT.out, HE.out]; simp [nodeSz, HX.out]), HB.out⟩
  | false =>
    have HX := Asd.mk hx
    clear hx
    go_enter Try.func14, Try.ntmps14
    go_wp2
    go_loop [6, 27] (fun s i => ∃ (k : Nat) (t : Int), k ≤ n2 ∧ i = .int .i64 (k : Int) ∧ s = .int .i64 t ∧ Asd (t = wrap64 (5 + sumI ((x.2.2.1.take k).map keySz)))) (fun _ i => n2 - (intOf i).toNat)
    case atStart => exact ⟨0, 5, by omega, rfl, rfl, ⟨by simp [sumI, wrap64]⟩⟩
    case round =>
      obtain ⟨k, t, hk, rfl, rfl, HT⟩ := hrel
      by_cases hlt : k < n2
      · have hkl : k < x.2.2.1.length := by rw [HNA.out.keys.1]; exact hlt
        obtain ⟨b, o, Ak, nk, ck, rfl, hbl, q0, ib0, _, hnk⟩ := key_at HNA.out.keys k hkl
        have HSN := Asd.mk (take_snoc x.2.2.1 k hkl)
        have HC : Asd (keySz x.2.2.1[k] = 3 + nk) := Asd.mk (by unfold keySz; rw [ib0.1])
        clear ib0
        go_wp2
        go_round
        case rel =>
          refine ⟨k + 1, _, by omega, by go_num, rfl, ⟨?_⟩⟩
          rw [HT.out, wrap_add, HSN.out, List.map_append, List.map_cons, List.map_nil, sumI_snoc, HC.out, Int.add_assoc]
        case measure => simp [intOf]; omega
      · have hkn : x.2.2.1.take k = x.2.2.1 := List.take_of_length_le (by rw [HNA.out.keys.1]; omega)
        have HE := Asd.mk hkn
        clear hkn
        go_wp2
        go_ret
        exact ⟨ret_eq (by rw [HT.out, HE.out]; simp [nodeSz, HX.out]), (Below.refl _ _).alloc (Nat.le_refl _) _⟩
end Go.Proofs.Ytnohhmopiflboaa.Nod
