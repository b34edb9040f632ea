/- NodeWrites: the walk. -/
import Derived.Test.YtnohhmopiflboaaNode21
set_option linter.unusedVariables false
set_option linter.unusedSimpArgs false
namespace Go.Proofs.Ytnohhmopiflboaa.Nod
open Go.RowKit Go.Proofs.Ytnohhmopiflboaa.Base Go.Proofs.Ytnohhmopiflboaa.Byt Go.Proofs.Ytnohhmopiflboaa.Rd Go.Proofs.Ytnohhmopiflboaa.App

theorem own_node_form {T : TypeId} {w : World} {B : Nat} {v0 v1 v2 v3 : Value} {x : PNode} (h : OwnNode T w B v0 v1 v2 v3 x) :
    v0 = .bool x.1 ∧ (∃ A n c, v1 = .slice A n c) ∧ (∃ A n c, v2 = .slice A n c) ∧ (∃ A n c, v3 = .slice A n c) := by
  obtain ⟨h0, ⟨ps, h1⟩, ⟨qs, h2⟩, h3⟩ := h
  obtain ⟨A, c, e⟩ := own_form h1.own
  obtain ⟨A2, c2, e2⟩ := own_form h2.own
  obtain ⟨A3, c3, e3⟩ := own_form h3
  exact ⟨h0, ⟨_, _, _, e⟩, ⟨_, _, _, e2⟩, ⟨_, _, _, e3⟩⟩

/-- One byte of a row of the call's own. -/
theorem own_cell {w : World} {B n : Nat} {A : Option Addr} {c : Nat} {ys : PB} (h : OwnM w B A n c ys) (k : Nat) (hk : k < n) :
    ∃ g cur, A = some ⟨g, 0, none⟩ ∧ B ≤ g ∧ w.heap[g]? = some (.cells cur 5 (0, 0)) ∧ cur[k]? = some (bcell (ys.getD k 0)) := by
  have hl := h.len
  rcases h.2 with ⟨he, h0⟩ | ⟨g, cap, cur, he, hb, hh, hc, _, hs, ht⟩
  · omega
  · injection he with h1 h2 h3
    refine ⟨g, cur, h1, hb, hh, ?_⟩
    have : (cur.toList.take (n * 1))[k]? = (bcells ys)[k]? := by rw [ht]
    rw [List.getElem?_take, if_pos (by omega), Array.getElem?_toList] at this
    rw [this]
    simp [bcells, List.getD, show k < ys.length by omega]
theorem own_set {w : World} {B n g : Nat} {c : Nat} {ys : PB} (h : OwnM w B (some ⟨g, 0, none⟩) n c ys) (k : Nat) (y : UInt8) : OwnM (w.setCell ⟨g, k, none⟩ (bcell y)) B (some ⟨g, 0, none⟩) n c (ys.set k y) := by
  have hl := h.len
  refine ⟨by simp [bcells]; omega, ?_⟩
  rcases h.2 with ⟨he, h0⟩ | ⟨g', cap, cur, he, hb, hh, hc, hm, hs, ht⟩
  · cases he
  · injection he with h1 h2 h3
    injection h1 with h1
    injection h1 with h1
    subst h1 h3
    refine .inr ⟨g, c, _, rfl, hb, blk_set hh k (bcell y), hc, hm, by simpa using hs, ?_⟩
    rw [Array.toList_setIfInBounds, List.take_set, ht]
    simp [bcells, List.map_set]
theorem byte_up (b : UInt8) : Value.int .u8 (IntKind.u8.wrap ((b.toNat : Int) + 1)) = bcell (UInt8.ofNat ((b.toNat + 1) % 256)) := by
  simp only [bcell]
  congr 1
  rw [UInt8.toNat_ofNat']
  have : IntKind.u8.wrap ((b.toNat : Int) + 1) = ((b.toNat : Int) + 1) % 256 := by simp [IntKind.wrap, IntKind.signed, IntKind.bits]
  rw [this]
  omega

theorem OwnM.bytes {w : World} {B : Nat} {A : Option Addr} {m c : Nat} {xs : PB} (h : OwnM w B A m c xs) (hm : m ≤ 140737488351232) : IsBytes w A m xs := by
  obtain ⟨A', c', e, hb, _⟩ := of_own h hm
  injection e with e1 e2 e3
  subst e1
  exact hb
theorem body_small {x : PNode} (h : checkN x = 0) (hs : Sane x) : (bodyB x).length ≤ 508 := by
  cases hx : x.1 with
  | true => exact (leaf_len h hs hx).1
  | false => exact (inner_len h hs hx).1
theorem encB_len {x : PNode} (hs : Sane x) : (encB x).length ≤ 508 := by
  unfold encB
  split
  · have := body_small (by assumption) hs
    simp [padB, noughts]; omega
  · simp
/-- The node as it came, and as the program has it, each in a box. -/
structure Both (w wr : World) (g : Nat) (u ux : Array Value) (x : PNode) : Prop where
  n : wr.heap[w.heap.size]? = some (.cells u 26 (0, 0))
  xb : wr.heap[g]? = some (.cells ux 29 (0, 0))
  below : Below w.heap.size w wr
  rn : rNode wr u.toList x
  rx : rNode wr ux.toList x
theorem Both.old {w a b : World} {g : Nat} {u ux : Array Value} {x : PNode} (h : Both w a g u ux x) (hb : Below a.heap.size a b) : Both w b g u ux x :=
  ⟨blk_below hb h.n, blk_below hb h.xb, h.below.trans (hb.mono h.below.size), lasts_node _ _ _ _ hb h.rn, lasts_node _ _ _ _ hb h.rx⟩

set_option maxRecDepth 100000 in
set_option maxHeartbeats 3200000 in
theorem law_writes (v0 v1 v2 v3 : Value) (x : PNode) (w : World) (h : rNode w [v0, v1, v2, v3] x) :
    Calls Try.prog 3 #[.agg #[v0, v1, v2, v3]] w (Tells w (.bool true)) := by
  have HR := Asd.mk h
  obtain ⟨A1, n1, c1, A2, n2, c2, A3, n3, c3, rfl, rfl, rfl, rfl, hna⟩ := node_of h
  have HSN := Asd.mk hna.sane
  clear h hna
  have HBX0 := Asd.mk (Box.start (w := w) (u := #[.bool x.1, .slice A1 n1 c1, .slice A2 n2 c2, .slice A3 n3 c3]) (t := 26))
  generalize hx0 : x.1 = x0 at HR HBX0 ⊢
  have HX0 := Asd.mk hx0
  clear hx0
  go_enter Try.func3, Try.ntmps3
  go_wp2_with fail
  refine (its_calls _ _ _ _ x _ (lasts_node _ _ _ _ HBX0.out.below HR.out)).mono ?_
  rintro e w1 ⟨u0, u1, u2, u3, rfl, hon, hb1⟩
  obtain ⟨rfl, ⟨E1, i1, j1, rfl⟩, ⟨E2, i2, j2, rfl⟩, ⟨E3, i3, j3, rfl⟩⟩ := own_node_form hon
  rw [HX0.out] at hon ⊢
  have HB1 : Asd (Both w (w1.alloc (.cells #[.bool x0, .slice E1 i1 j1, .slice E2 i2 j2, .slice E3 i3 j3] 29)) w1.heap.size #[.bool x0, .slice A1 n1 c1, .slice A2 n2 c2, .slice A3 n3 c3] #[.bool x0, .slice E1 i1 j1, .slice E2 i2 j2, .slice E3 i3 j3] x) := Asd.mk (by
    have hb := HBX0.out.old hb1
    exact ⟨blk_alloc hb.n _, blk_new _ _, hb.below.alloc hb.below.size _, lasts_node _ _ _ _ (hb.below.alloc hb.below.size _) HR.out, lasts_node _ _ _ _ (below_alloc (Below.refl _ _) _) (hon.read HSN.out)⟩)
  clear hon hb1 HBX0
  go_wp2_with fail
  refine (encode_calls _ _ _ _ x _ HB1.out.rx).mono ?_
  rintro e w2 ⟨va, rfl, hoa, hb2⟩
  obtain ⟨Aa, ca, rfl⟩ := own_form hoa
  have HOA := Asd.mk (own_m hoa rfl)
  have HB2 := Asd.mk (HB1.out.old hb2)
  have HD2 := Asd.mk hb2
  have q0 := (blk_cell HB2.out.n 0).trans rfl
  have q1 := (blk_cell HB2.out.n 1).trans rfl
  have q2 := (blk_cell HB2.out.n 2).trans rfl
  have q3 := (blk_cell HB2.out.n 3).trans rfl
  clear hoa hb2
  go_wp2_with fail
  refine (rencode_calls _ _ _ _ x _ HB2.out.rn).mono ?_
  rintro e w3 ⟨vb, rfl, hob, hb3⟩
  obtain ⟨Ab, cb, rfl⟩ := own_form hob
  have HOB := Asd.mk (own_m hob rfl)
  have HOA3 := Asd.mk (HOA.out.old hb3)
  have HB3 := Asd.mk (HB2.out.old hb3)
  have HD3 := Asd.mk (HD2.out.trans (hb3.mono HD2.out.size))
  clear hob hb3 q0 q1 q2 q3 HOA HB2 HD2
  have hla2 : (encB x).length ≤ 140737488351232 := by have := encB_len HSN.out; omega
  generalize hla : (encB x).length = la at HOA3 HOB hla2 ⊢
  generalize checkN x = cn
  have HBS : Asd (w1.heap.size < w3.heap.size) := Asd.mk (blk_lt HB3.out.xb)
  go_upto_region 4 with fail
  generalize hsk : (⟨(encB x).toArray⟩ : ByteArray) = sk
  have HS : Asd (∀ w', Below w3.heap.size w3 w' → w'.cell? ⟨w.heap.size, 0, none⟩ = some (.bool x0) ∧ w'.cell? ⟨w.heap.size, 1, none⟩ = some (.slice A1 n1 c1) ∧ w'.cell? ⟨w.heap.size, 2, none⟩ = some (.slice A2 n2 c2) ∧ w'.cell? ⟨w.heap.size, 3, none⟩ = some (.slice A3 n3 c3)
      ∧ w'.cell? ⟨w1.heap.size, 0, none⟩ = some (.bool x0) ∧ w'.cell? ⟨w1.heap.size, 1, none⟩ = some (.slice E1 i1 j1) ∧ w'.cell? ⟨w1.heap.size, 2, none⟩ = some (.slice E2 i2 j2) ∧ w'.cell? ⟨w1.heap.size, 3, none⟩ = some (.slice E3 i3 j3)
      ∧ (convert 31 9 (.slice Aa la ca)).run Try.prog w' = .ok (.string sk) w' ∧ (convert 31 9 (.slice Ab la cb)).run Try.prog w' = .ok (.string sk) w' ∧ Below w3.heap.size w3 w') := Asd.mk fun w' hb => by
    have h := HB3.out.old hb
    have h1 := (HOA3.out.old hb).bytes hla2
    have h2 := (HOB.out.old hb).bytes hla2
    subst hsk
    exact ⟨(blk_cell h.n 0).trans rfl, (blk_cell h.n 1).trans rfl, (blk_cell h.n 2).trans rfl, (blk_cell h.n 3).trans rfl, (blk_cell h.xb 0).trans rfl, (blk_cell h.xb 1).trans rfl, (blk_cell h.xb 2).trans rfl, (blk_cell h.xb 3).trans rfl, conv_b ca h1, conv_b cb h2, hb⟩
  clear hsk
  go_region_held3 (fun w' => w'.cell? ⟨w.heap.size, 0, none⟩ = some (.bool x0) ∧ w'.cell? ⟨w.heap.size, 1, none⟩ = some (.slice A1 n1 c1) ∧ w'.cell? ⟨w.heap.size, 2, none⟩ = some (.slice A2 n2 c2) ∧ w'.cell? ⟨w.heap.size, 3, none⟩ = some (.slice A3 n3 c3)
      ∧ w'.cell? ⟨w1.heap.size, 0, none⟩ = some (.bool x0) ∧ w'.cell? ⟨w1.heap.size, 1, none⟩ = some (.slice E1 i1 j1) ∧ w'.cell? ⟨w1.heap.size, 2, none⟩ = some (.slice E2 i2 j2) ∧ w'.cell? ⟨w1.heap.size, 3, none⟩ = some (.slice E3 i3 j3)
      ∧ (convert 31 9 (.slice Aa la ca)).run Try.prog w' = .ok (.string sk) w' ∧ (convert 31 9 (.slice Ab la cb)).run Try.prog w' = .ok (.string sk) w' ∧ Below w3.heap.size w3 w')
    (first
      | exact HS.out _ (Below.refl _ _).drew
      | exact HS.out _ HC.out
      | (go_split_ands; exact HS.out _ (by assumption))
      | fail)
    (first
      | (go_at_call 14
         go_split_ands
         refine (size_calls _ _ _ _ x _ (HB3.out.old (by assumption)).rx).mono ?_
         rintro e w4 ⟨rfl, hb4⟩
         have HC : Asd (Below w3.heap.size w3 w4) := Asd.mk (below_step (by assumption) hb4)
         clear hb4)
      | (go_at_call 15
         go_split_ands
         refine (rsize_calls _ _ _ _ x _ (HB3.out.old (by assumption)).rn).mono ?_
         rintro e w5 ⟨rfl, hb4⟩
         have HC : Asd (Below w3.heap.size w3 w5) := Asd.mk (below_step (by assumption) hb4)
         clear hb4)
      | (go_at_call 16
         go_split_ands
         refine (check_calls _ _ _ _ x _ (HB3.out.old (by assumption)).rx).mono ?_
         rintro e w6 ⟨rfl, hb4⟩
         have HC : Asd (Below w3.heap.size w3 w6) := Asd.mk (below_step (by assumption) hb4)
         clear hb4)
      | (go_at_call 17
         go_split_ands
         refine (rcheck_calls _ _ _ _ x _ (HB3.out.old (by assumption)).rn).mono ?_
         rintro e w7 ⟨rfl, hb4⟩
         have HC : Asd (Below w3.heap.size w3 w7) := Asd.mk (below_step (by assumption) hb4)
         clear hb4)
      | fail)
  have HBC := Asd.mk (HB3.out.old HC.out)
  have HOC := Asd.mk (HOA3.out.old HC.out)
  have HDC := Asd.mk (HD3.out.trans (HC.out.mono HD3.out.size))
  clear HB3 HOA3 HD3 HC HOB HS
  go_wp2
  go_loopw [8] (fun i wr => ∃ (k : Nat) (ys : PB), k ≤ la ∧ i = .int .i64 (k : Int) ∧ Asd (OwnM wr (w1.heap.size + 1) Aa la ca ys) ∧ Asd (Below (w1.heap.size + 1) w7 wr)) (fun i _ => la - (intOf i).toNat)
  case atStart =>
    refine ⟨0, encB x, by omega, rfl, ⟨?_⟩, ⟨Below.refl _ _⟩⟩
    have := HOC.out
    simpa using this
  case round =>
    obtain ⟨k, ys, hk, rfl, HO, HB⟩ := hrel
    by_cases hlt : k < la
    · obtain ⟨g, cur, rfl, hbg, hh, hcur⟩ := own_cell HO.out k hlt
      have q0 := (blk_cell hh k).trans hcur
      have z0 := blk_frozen hh k
      generalize ys.getD k 0 = y at q0
      have HO2 := Asd.mk (own_set HO.out k (UInt8.ofNat ((y.toNat + 1) % 256)))
      have HB2 := Asd.mk (HB.out.setCell (p := ⟨g, k, none⟩) hbg (bcell (UInt8.ofNat ((y.toNat + 1) % 256))))
      rw [← byte_up] at HO2 HB2
      simp only [bcell] at q0
      clear hh hcur hbg
      go_wp2
      go_roundw
      case rel => exact ⟨k + 1, _, by omega, by go_num, HO2, HB2⟩
      case measure => simp [intOf]; omega
    · have HBE : Asd (Both w wr w1.heap.size #[.bool x0, .slice A1 n1 c1, .slice A2 n2 c2, .slice A3 n3 c3] #[.bool x0, .slice E1 i1 j1, .slice E2 i2 j2, .slice E3 i3 j3] x) := Asd.mk (by
        have e : (w1.alloc (.cells #[.bool x0, .slice E1 i1 j1, .slice E2 i2 j2, .slice E3 i3 j3] 29)).heap.size = w1.heap.size + 1 := by simp
        have h := HDC.out
        rw [e] at h
        exact HB1.out.old (by rw [e]; exact h.trans HB.out))
      have HS : Asd (∀ w', Below wr.heap.size wr w' → w'.cell? ⟨w.heap.size, 0, none⟩ = some (.bool x0) ∧ w'.cell? ⟨w.heap.size, 1, none⟩ = some (.slice A1 n1 c1) ∧ w'.cell? ⟨w.heap.size, 2, none⟩ = some (.slice A2 n2 c2) ∧ w'.cell? ⟨w.heap.size, 3, none⟩ = some (.slice A3 n3 c3)
          ∧ w'.cell? ⟨w1.heap.size, 0, none⟩ = some (.bool x0) ∧ w'.cell? ⟨w1.heap.size, 1, none⟩ = some (.slice E1 i1 j1) ∧ w'.cell? ⟨w1.heap.size, 2, none⟩ = some (.slice E2 i2 j2) ∧ w'.cell? ⟨w1.heap.size, 3, none⟩ = some (.slice E3 i3 j3)) := Asd.mk fun w' hb => by
        have h := HBE.out.old hb
        exact ⟨(blk_cell h.n 0).trans rfl, (blk_cell h.n 1).trans rfl, (blk_cell h.n 2).trans rfl, (blk_cell h.n 3).trans rfl, (blk_cell h.xb 0).trans rfl, (blk_cell h.xb 1).trans rfl, (blk_cell h.xb 2).trans rfl, (blk_cell h.xb 3).trans rfl⟩
      go_upto_region 10 with fail
      go_region_held3 (fun w' => w'.cell? ⟨w.heap.size, 0, none⟩ = some (.bool x0) ∧ w'.cell? ⟨w.heap.size, 1, none⟩ = some (.slice A1 n1 c1) ∧ w'.cell? ⟨w.heap.size, 2, none⟩ = some (.slice A2 n2 c2) ∧ w'.cell? ⟨w.heap.size, 3, none⟩ = some (.slice A3 n3 c3)
          ∧ w'.cell? ⟨w1.heap.size, 0, none⟩ = some (.bool x0) ∧ w'.cell? ⟨w1.heap.size, 1, none⟩ = some (.slice E1 i1 j1) ∧ w'.cell? ⟨w1.heap.size, 2, none⟩ = some (.slice E2 i2 j2) ∧ w'.cell? ⟨w1.heap.size, 3, none⟩ = some (.slice E3 i3 j3))
        (first
          | exact HS.out _ HC.out
          | exact HS.out _ (Below.refl _ _).drew
          | fail)
        (first
          | (go_at_call 19
             refine (ours_calls _ _ _ _ x _ (HBE.out.old (Below.refl _ _).drew).rx).mono ?_
             rintro e w8 ⟨u0, u1, u2, u3, rfl, hon, hb4⟩
             have HC : Asd (Below wr.heap.size wr w8) := Asd.mk (below_step (Below.refl _ _).drew hb4)
             have HRO := Asd.mk (hon.read HSN.out)
             clear hb4 hon)
          | (go_at_call 18
             refine (same_calls _ _ _ _ _ _ _ _ x x _ HRO.out (HBE.out.old HC.out).rn).mono ?_
             rintro e w9 ⟨rfl, hb5⟩
             have HC8 := HC
             have HC : Asd (Below wr.heap.size wr w9) := Asd.mk (below_step HC8.out hb5)
             clear hb5)
          | fail)
      have HF : Asd (sameB x x = true) := Asd.mk (by simp [sameB])
      rw [HF.out]
      have HBZ := Asd.mk ((HBE.out.old HC.out).below)
      clear HS HC8 HC HRO HBE
      go_wp2
      go_ret
      exact ⟨rfl, HBZ.out⟩

set_option maxRecDepth 100000 in
/-- A node that came in, as the walks read it. -/
theorem node_open {H : Type} {enc : TypeId × Value → H} (W : World) (v : Value) (d : DataW H) (p : List MemPlace) {base : Nat} (ok : Value.okWide Try.prog W .any base 26 v) (h : DataW.Trod enc Try.prog W 0 (fun _ => true) true 26 v d p)
    (wt : ∀ k ∈ d.weights Try.prog 26, k ≤ reachBytes) : ∃ v0 v1 v2 v3 x, v = .agg #[v0, v1, v2, v3] ∧ rNode W [v0, v1, v2, v3] x := by
  obtain ⟨fuel, hf⟩ := h
  obtain ⟨x, hx⟩ := opens_node H enc W fuel _ d p hf wt
  obtain ⟨cs, rfl, _⟩ := Go.WideShapes.okWide_struct Try.underlying26 ok
  have hx2 := hx
  obtain ⟨v0, v1, v2, v3, he, _⟩ := hx2
  have hcs : cs = #[v0, v1, v2, v3] := by
    apply Array.toList_inj.1
    simpa [Value.cells] using he
  subst hcs
  exact ⟨v0, v1, v2, v3, x, rfl, by simpa [Value.cells] using hx⟩
set_option maxRecDepth 100000 in
theorem writes_open {H : Type} {enc : TypeId × Value → H} (W : World) (v : Value) (d : DataW H) (p : List MemPlace) {base : Nat} (ok : Value.okWide Try.prog W .any base 26 v) (h : DataW.Trod enc Try.prog W 0 (fun _ => true) true 26 v d p)
    (wt : ∀ k ∈ d.weights Try.prog 26, k ≤ reachBytes) : Calls Try.prog 3 #[v] W (Tells W (.bool true)) := by
  obtain ⟨v0, v1, v2, v3, x, rfl, hx⟩ := node_open W v d p ok h wt
  exact law_writes v0 v1 v2 v3 x W hx
end Go.Proofs.Ytnohhmopiflboaa.Nod
