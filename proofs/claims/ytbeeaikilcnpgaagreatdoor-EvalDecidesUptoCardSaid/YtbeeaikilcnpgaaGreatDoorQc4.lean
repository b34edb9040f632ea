/- Texts put together: Rd17, Rd18. -/
import Derived.Test.YtbeeaikilcnpgaaGreatDoorQc3
import Derived.Defers
import Derived.Recover
set_option linter.unusedVariables false
set_option linter.unusedSimpArgs false
set_option maxHeartbeats 25600000
namespace Go.Proofs.YtbeeaikilcnpgaaGreatDoor.Exp
open Go.RowKit Go.Proofs.YtbeeaikilcnpgaaGreatDoor.Base Go.Proofs.YtbeeaikilcnpgaaGreatDoor.App Go.Proofs.YtbeeaikilcnpgaaGreatDoor.Byt Go.Proofs.YtbeeaikilcnpgaaGreatDoor.Lex
theorem infoE : (Tryz.prog.info? 26).map (fun i => (i.zero, i.size, i.bytes)) = some (some (.agg #[.int .i64 0, .int .i64 0, .int .i64 0, .int .i64 0, .string ⟨#[]⟩, .string ⟨#[]⟩, .string ⟨#[]⟩, .int .i64 0, .int .i64 0, .slice none 0 0]), 10, 120) := by kernel_rfl
theorem rowE : RowT Tryz.prog 24 26 10 120 := ⟨Tryz.underlying24, by obtain ⟨i, h1, h2, h3, h4⟩ := info_parts infoE; exact ⟨i, _, h1, h2, h3, h4, rfl⟩, by decide⟩
def inC (l : Toks) (p : PF) (f : Int × Int × Nat) (i : Nat) : Res Ex :=
  if f.1 = 6 ∧ f.2.1 = 1 ∧ isT l i 5 [42] = true then
    match mustT l (i + 1) 5 [41] with
    | .error x => .error x
    | .ok j => .ok (callE f.1 f.2.1 [], j)
  else match argsP l p f.2.2 i with
    | .error x => .error x
    | .ok (es, j) => match mustT l j 5 [41] with
      | .error x => .error x
      | .ok k => .ok (callE f.1 f.2.1 es, k)
theorem callP_in (l : Toks) (p : PF) (f : Int × Int × Nat) (i : Nat) : callP l (some p) f i = inC l p f (i + 1) := rfl
structure Gath (W : World) (B b5 R : Nat) (f : Int × Int × Nat) (ps : List (Ex × Value)) (k : Nat) (A : Option Addr) (c : Nat) : Prop where
  e : W.heap[b5]? = some (.cells (exC (callE f.1 f.2.1 (ps.map (·.1))) (.slice A k c)).toArray 26 (0, 0))
  own : W.ownsRow B 26 10 (.slice A k c) k (rowsC ps)
  len : ps.length = k
  held : ∀ p ∈ ps, Held (fun g => B ≤ g ∧ (Value.slice A k c).ownBlock ≠ some g) W p.1.args p.2
theorem own_frS {S : Nat → Prop} {W W' : World} {B : Nat} {e : TypeId} {s : Nat} {v : Value} {n : Nat} {xs : List Value} (h : W.ownsRow B e s v n xs) (hf : Fr S W W') (hS : ∀ g, B ≤ g → ¬ S g) : W'.ownsRow B e s v n xs := by
  refine ⟨h.1, ?_⟩
  rcases h.2 with h0 | ⟨g, cap, cur, hv, hb, hh, rest⟩
  · exact .inl h0
  · exact .inr ⟨g, cap, cur, hv, hb, blk_fr hh hf (hS g hb), rest⟩
theorem Gath.frS {S : Nat → Prop} {W W' : World} {B b5 R : Nat} {f : Int × Int × Nat} {ps : List (Ex × Value)} {k : Nat} {A : Option Addr} {c : Nat} (h : Gath W B b5 R f ps k A c) (hf : Fr S W W') (h5 : ¬ S b5) (hS : ∀ g, B ≤ g → ¬ S g) : Gath W' B b5 R f ps k A c :=
  ⟨blk_fr h.e hf h5, own_frS h.own hf hS, h.len, fun p hp => held_frS (h.held p hp) hf (fun g hg => hS g hg.1)⟩
theorem Gath.start {W : World} {B b5 R : Nat} {f : Int × Int × Nat} (h : W.heap[b5]? = some (.cells (exC (callE f.1 f.2.1 []) (.slice none 0 0)).toArray 26 (0, 0))) : Gath W B b5 R f [] 0 none 0 :=
  ⟨h, World.ownsRow_nil _ _ _ _, rfl, fun p hp => by simp at hp⟩
theorem fr_newS {a b c : World} {S T : Nat → Prop} (h : Fr S a b) (k : Fr T b c) (hs : ∀ k, T k → S k ∨ a.heap.size ≤ k) : Fr S a c :=
  ⟨k.os.trans h.os, k.tape.trans h.tape, k.output.trans h.output, Nat.le_trans h.size k.size, fun i hi hu => (k.block i (Nat.lt_of_lt_of_le hi h.size) (fun h' => by rcases hs i h' with h | h; exact hu h; omega)).trans (h.block i hi hu)⟩
theorem rdw_far {W W' : World} {R b : Nat} {A : Option Addr} {m c : Nat} {l : Toks} {i i' d d' : Nat} (h : RdW W R A m c l i d) (hf : Fr (fun k => k = R ∨ k = b) W W') (hR : R < b) {x y : Ex} {s s' : Value} (h1 : W.heap[b]? = some (.cells (exC x s).toArray 26 (0, 0))) (h2 : W'.heap[b]? = some (.cells (exC y s').toArray 26 (0, 0))) (hb : W'.heap[R]? = some (rdO A m c i' d')) (hj : i' ≤ l.length) : RdW W' R A m c l i' d' := by
  refine ⟨hb, ⟨h.tok.1, h.tok.2.1, fun h0 => ?_⟩, hj, ?_, h.low⟩
  · obtain ⟨g, rfl, hc⟩ := h.tok.2.2 h0
    have hg : ¬ (g = R ∨ g = b) := by
      rintro (rfl | rfl)
      · have := (hc 0 (by have := h.tok.1; omega)).2.2.2
        rw [blk_cell h.blk] at this
        simp at this
      · have := (hc 0 (by have := h.tok.1; omega)).2.1
        rw [blk_cell h1] at this
        simp [exC] at this
    refine ⟨g, rfl, fun i hi => ?_⟩
    obtain ⟨a, b, c, e⟩ := hc i hi
    exact ⟨cell_frS hf hg a, cell_frS hf hg b, cell_frS hf hg c, cell_frS hf hg e⟩
  · refine h.sh.keptBut (may := fun p => p.block = R ∨ p.block = b) ⟨hf.os, hf.output, fun k hk => ?_⟩ (fun p hp => by have := h.low; rcases hp with e | e <;> rw [e] <;> omega)
    by_cases hkb : k = b
    · subst hkb
      rw [h1, h2]
      exact ⟨rfl, rfl, rfl, fun j hj => absurd (.inr rfl) hj⟩
    · by_cases hkR : k = R
      · subst hkR
        rw [h.blk, hb]
        exact ⟨rfl, rfl, rfl, fun j hj => absurd (.inl rfl) hj⟩
      · rw [hf.block k hk (fun h => h.elim hkR hkb)]
        cases hx : W.heap[k]? with
        | none => rfl
        | some o => cases o <;> simp
def zRow : List Value := [(.int .i64 0 : Value), (.int .i64 0 : Value), (.int .i64 0 : Value), (.int .i64 0 : Value), (.string ⟨#[]⟩ : Value), (.string ⟨#[]⟩ : Value), (.string ⟨#[]⟩ : Value), (.int .i64 0 : Value), (.int .i64 0 : Value), (.slice none 0 0 : Value)]
theorem rowsC_len (ps : List (Ex × Value)) : (rowsC ps).length = ps.length * 10 := by
  induction ps with
  | nil => rfl
  | cons p r ih => rw [rowsC_cons, List.length_append, exC_len, ih, List.length_cons]; omega
theorem own_zero {W : World} {B g cap k : Nat} {xs : List Value} (hl : xs.length = k * 10) (h : W.ownsRow B 26 10 (.slice (some ⟨g, 0, none⟩) (k + 1) cap) (k + 1) (xs ++ zRow)) (t : Nat) (ht : t < 10) : W.cell? ⟨g, k * 10 + t, none⟩ = some (zRow[t]'ht) := by
  rw [h.cellAt (k * 10 + t) (by omega), List.getElem?_append_right (by omega), hl, Nat.add_sub_cancel_left]
  exact List.getElem?_eq_getElem ht
theorem set10 (a : List Value) (v0 v1 v2 v3 v4 v5 v6 v7 v8 v9 : Value) : (((((((((((a ++ zRow).set a.length v0).set (a.length + 1) v1).set (a.length + 2) v2).set (a.length + 3) v3).set (a.length + 4) v4).set (a.length + 5) v5).set (a.length + 6) v6).set (a.length + 7) v7).set (a.length + 8) v8).set (a.length + 9) v9) = a ++ [v0, v1, v2, v3, v4, v5, v6, v7, v8, v9] := by
  simp [zRow, List.set_append]

theorem own_put {W : World} {B g cap k : Nat} {xs : List Value} (hl : xs.length = k * 10) (h : W.ownsRow B 26 10 (.slice (some ⟨g, 0, none⟩) (k + 1) cap) (k + 1) (xs ++ zRow)) (v0 v1 v2 v3 v4 v5 v6 v7 v8 v9 : Value) :
    ((((((((((W.setCell ⟨g, k * 10, none⟩ (v0)).setCell ⟨g, k * 10 + 1, none⟩ (v1)).setCell ⟨g, k * 10 + 2, none⟩ (v2)).setCell ⟨g, k * 10 + 3, none⟩ (v3)).setCell ⟨g, k * 10 + 4, none⟩ (v4)).setCell ⟨g, k * 10 + 5, none⟩ (v5)).setCell ⟨g, k * 10 + 6, none⟩ (v6)).setCell ⟨g, k * 10 + 7, none⟩ (v7)).setCell ⟨g, k * 10 + 8, none⟩ (v8)).setCell ⟨g, k * 10 + 9, none⟩ (v9)).ownsRow B 26 10 (.slice (some ⟨g, 0, none⟩) (k + 1) cap) (k + 1) (xs ++ [v0, v1, v2, v3, v4, v5, v6, v7, v8, v9]) := by
  have h0 := (h.stored (k * 10) v0).1
  have h1 := (h0.stored (k * 10 + 1) v1).1
  have h2 := (h1.stored (k * 10 + 2) v2).1
  have h3 := (h2.stored (k * 10 + 3) v3).1
  have h4 := (h3.stored (k * 10 + 4) v4).1
  have h5 := (h4.stored (k * 10 + 5) v5).1
  have h6 := (h5.stored (k * 10 + 6) v6).1
  have h7 := (h6.stored (k * 10 + 7) v7).1
  have h8 := (h7.stored (k * 10 + 8) v8).1
  have h9 := (h8.stored (k * 10 + 9) v9).1
  have e := set10 xs v0 v1 v2 v3 v4 v5 v6 v7 v8 v9
  rw [hl] at e
  rw [e] at h9
  exact h9
theorem put_fr {W : World} {g o : Nat} (v0 v1 v2 v3 v4 v5 v6 v7 v8 v9 : Value) : Fr (fun k => k = g) W ((((((((((W.setCell ⟨g, o, none⟩ (v0)).setCell ⟨g, o + 1, none⟩ (v1)).setCell ⟨g, o + 2, none⟩ (v2)).setCell ⟨g, o + 3, none⟩ (v3)).setCell ⟨g, o + 4, none⟩ (v4)).setCell ⟨g, o + 5, none⟩ (v5)).setCell ⟨g, o + 6, none⟩ (v6)).setCell ⟨g, o + 7, none⟩ (v7)).setCell ⟨g, o + 8, none⟩ (v8)).setCell ⟨g, o + 9, none⟩ (v9)) := by
  exact Fr.setCell (S := fun k => k = g) (Fr.setCell (S := fun k => k = g) (Fr.setCell (S := fun k => k = g) (Fr.setCell (S := fun k => k = g) (Fr.setCell (S := fun k => k = g) (Fr.setCell (S := fun k => k = g) (Fr.setCell (S := fun k => k = g) (Fr.setCell (S := fun k => k = g) (Fr.setCell (S := fun k => k = g) (Fr.setCell (S := fun k => k = g) (Fr.refl _ W) (p := ⟨g, o, none⟩) rfl v0) (p := ⟨g, o + 1, none⟩) rfl v1) (p := ⟨g, o + 2, none⟩) rfl v2) (p := ⟨g, o + 3, none⟩) rfl v3) (p := ⟨g, o + 4, none⟩) rfl v4) (p := ⟨g, o + 5, none⟩) rfl v5) (p := ⟨g, o + 6, none⟩) rfl v6) (p := ⟨g, o + 7, none⟩) rfl v7) (p := ⟨g, o + 8, none⟩) rfl v8) (p := ⟨g, o + 9, none⟩) rfl v9
set_option maxRecDepth 100000 in
theorem call1_calls (bf b1 b5 R : Nat) (A : Option Addr) (m c : Nat) (l : Toks) (f : Int × Int × Nat) (p : PF) (i d : Nat) (w : World) (hnear : Near l) (hn : 1 ≤ f.2.2 ∧ f.2.2 ≤ 3)
    (pf : w.heap[bf]? = some (.cells #[.int .i64 f.1, .int .i64 f.2.1, .int .i64 (f.2.2 : Nat)] 163 (0, 0))) (p1 : w.heap[b1]? = some (.cells #[.pointer (some ⟨R, 0, none⟩)] 91 (0, 0)))
    (p5 : w.heap[b5]? = some (.cells (exC (callE f.1 f.2.1 []) (.slice none 0 0)).toArray 26 (0, 0))) (nf : bf ≠ R) (n1 : b1 ≠ R) (nf5 : bf ≠ b5) (n15 : b1 ≠ b5) (hrb : R < b5)
    (hp : PartOK 59 R A m c l p.or d) (h : RdW w R A m c l i d) :
    Calls Tryz.prog 145 #[.pointer (some ⟨bf, 0, none⟩), .pointer (some ⟨b1, 0, none⟩), .pointer (some ⟨b5, 0, none⟩)] w fun e w' => Fr (fun k => k = R ∨ k = b5) w w' ∧ Ins R A m c l d (resJ (inC l p f i)) (ExAt b5 w.heap.size (exOf (inC l p f i))) e w' := by
  have HH := Asd.mk h
  have HPA := Asd.mk hp
  have HNE := Asd.mk hnear
  have HPF := Asd.mk pf
  have HP1 := Asd.mk p1
  have HP5 := Asd.mk p5
  have HNB : Asd (bf ≠ R ∧ b1 ≠ R ∧ bf ≠ b5 ∧ b1 ≠ b5 ∧ R < b5 ∧ b5 < w.heap.size ∧ R < w.heap.size ∧ b1 < w.heap.size) := Asd.mk ⟨nf, n1, nf5, n15, hrb, blk_lt p5, blk_lt h.blk, blk_lt p1⟩
  have q0 := (blk_cell pf 0).trans rfl
  have q1 := (blk_cell pf 1).trans rfl
  have c1 := (blk_cell p1 0).trans rfl
  clear h hp hnear pf p1 p5 nf n1 nf5 n15 hrb
  go_enter Tryz.func145, Tryz.ntmps145
  go_upto_region 0 with fail
  go_cut [15] (fun s15 wx => ∃ b : Bool, s15 = .bool b ∧ Asd (Fr (fun k => k = R) w wx) ∧ Asd ((b = true ∧ (f.1 = 6 ∧ f.2.1 = 1 ∧ isT l i 5 [42] = true) ∧ RdW wx R A m c l (i + 1) d) ∨ (b = false ∧ ¬ (f.1 = 6 ∧ f.2.1 = 1 ∧ isT l i 5 [42] = true) ∧ RdW wx R A m c l i d)))
  case first =>
    by_cases k6 : f.1 = 6
    · by_cases k1 : f.2.1 = 1
      · go_wp2_with fail
        refine (take_calls R A m c l i d 5 [42] w (by omega) HH.out).mono ?_
        rintro e w1 ⟨rfl, hf1, hr1⟩
        have HF1 := Asd.mk hf1
        have HR1 := Asd.mk hr1
        have HK := Asd.mk (And.intro k6 k1)
        clear hf1 hr1
        cases hT : isT l i 5 [42] with
        | true =>
          have HT := Asd.mk hT
          have HR2 : Asd (RdW w1 R A m c l (i + 1) d) := Asd.mk (by have := HR1.out; unfold tookT at this; rw [hT] at this; exact this)
          clear hT
          go_wp2
          go_meet
          exact ⟨true, rfl, HF1, ⟨.inl ⟨rfl, ⟨HK.out.1, HK.out.2, HT.out⟩, HR2.out⟩⟩⟩
        | false =>
          have HT := Asd.mk hT
          have HR2 : Asd (RdW w1 R A m c l i d) := Asd.mk (by have := HR1.out; unfold tookT at this; rw [hT] at this; exact this)
          clear hT
          go_wp2
          go_meet
          exact ⟨false, rfl, HF1, ⟨.inr ⟨rfl, (fun h => by have := h.2.2; rw [HT.out] at this; cases this), HR2.out⟩⟩⟩
      · have HK := Asd.mk k1
        go_wp2
        go_meet
        exact ⟨false, rfl, ⟨Fr.refl _ _⟩, ⟨.inr ⟨rfl, (fun h => HK.out h.2.1), HH.out⟩⟩⟩
    · have HK := Asd.mk k6
      go_wp2
      go_meet
      exact ⟨false, rfl, ⟨Fr.refl _ _⟩, ⟨.inr ⟨rfl, (fun h => HK.out h.1), HH.out⟩⟩⟩
  case rest =>
    obtain ⟨b, rfl, HF, HW⟩ := hcut
    clear q0 q1 c1
    have HPF1 := Asd.mk (blk_fr HPF.out HF.out HNB.out.1)
    have HP11 := Asd.mk (blk_fr HP1.out HF.out HNB.out.2.1)
    have HP51 := Asd.mk (blk_fr HP5.out HF.out (by show ¬ b5 = R; have := HNB.out.2.2.2.2.1; omega))
    have c1 := (blk_cell HP11.out 0).trans rfl
    rcases HW.out with ⟨rfl, hk, hr⟩ | ⟨rfl, hk, hr⟩
    · have HK := Asd.mk hk
      have HR := Asd.mk hr
      clear hk hr HW
      go_wp2_with fail
      refine (must_calls R A m c l (i + 1) d 5 [41] wc HNE.out (by omega) HR.out).mono ?_
      rintro e w2 ⟨hf2, hm⟩
      have HF2 : Asd (Fr (fun k => k = R ∨ k = b5) w w2) := Asd.mk ((frR_trans HF.out hf2).mono (fun k h _ => .inl h))
      have HP52 := Asd.mk (blk_fr HP51.out hf2 (by show ¬ b5 = R; have := HNB.out.2.2.2.2.1; omega))
      clear hf2
      cases hM : mustT l (i + 1) 5 [41] with
      | error er =>
        rw [hM] at hm
        obtain ⟨N, rfl, hN⟩ := hm
        have HE : Asd (inC l p f i = .error er) := Asd.mk (by unfold inC; rw [if_pos HK.out, hM])
        clear hM
        go_wp2
        refine ⟨rfl, HF2.out, ?_⟩
        rw [HE.out]
        exact ⟨N, rfl, hN⟩
      | ok j =>
        rw [hM] at hm
        obtain ⟨rfl, hr2⟩ := hm
        have HR2 := Asd.mk hr2
        have HE : Asd (inC l p f i = .ok (callE f.1 f.2.1 [], j)) := Asd.mk (by unfold inC; rw [if_pos HK.out, hM])
        clear hM hr2
        go_wp2
        first | refine bodyPost_ret (results_none rfl _ _ _) rfl ?_ | refine bodyPost_end (results_none rfl _ _ _) rfl ?_
        refine ⟨HF2.out, ?_⟩
        rw [HE.out]
        exact ⟨rfl, HR2.out, none, 0, 0, HP52.out, .nil _ _⟩
    · have HK := Asd.mk hk
      have HR := Asd.mk hr
      clear hk hr HW
      have q2 := (blk_cell HPF1.out 2).trans rfl
      have hn1 := hn.1
      have hn3 := hn.2
      clear hn
      go_wp2_with fail
      go_loopw [3, 20] (fun v3 v20 wr => ∃ (k q : Nat) (ps : List (Ex × Value)) (A' : Option Addr) (c' : Nat), k ≤ f.2.2 ∧ v20 = .int .i64 (k : Int) ∧ Asd (Fr (fun k => k = R ∨ k = b5) w wr) ∧ Asd (RdW wr R A m c l q d) ∧ Asd (Gath wr w.heap.size b5 R f ps k A' c') ∧ Asd (if k = 0 then q = i else argsP l p f.2.2 i = argsL l p (f.2.2 - k) (ps.map (·.1)) q)) (fun _ v20 _ => f.2.2 - (intOf v20).toNat)
      case atStart => exact ⟨0, i, [], none, 0, by omega, rfl, ⟨HF.out.mono (fun k h _ => .inl h)⟩, HR, ⟨Gath.start HP51.out⟩, ⟨rfl⟩⟩
      case round =>
        obtain ⟨k, q, ps, A', c', hkn, rfl, HFW, HRW, HG, HA⟩ := hrel
        clear c1 q2
        have HP1R := Asd.mk (blk_fr HP1.out HFW.out (by show ¬ (b1 = R ∨ b1 = b5); have := HNB.out; omega))
        have c1 := (blk_cell HP1R.out 0).trans rfl
        by_cases hlt : k < f.2.2
        · have HKK := Asd.mk hlt
          go_upto_if 24 with fail
          go_cut [20] from 20 to 36 (fun s20 wx => ∃ q2 : Nat, s20 = .int .i64 (k : Int) ∧ Asd (Fr (fun k => k = R ∨ k = b5) w wx) ∧ Asd (RdW wx R A m c l q2 d) ∧ Asd (Gath wx w.heap.size b5 R f ps k A' c') ∧ Asd (∀ er, p.or q2 = .error er → inC l p f i = .error er) ∧ Asd (∀ x j, p.or q2 = .ok (x, j) → argsP l p f.2.2 i = argsL l p (f.2.2 - (k + 1)) ((ps.map (·.1)) ++ [x]) j) ∧ Asd (wx.heap[b1]? = some (.cells #[.pointer (some ⟨R, 0, none⟩)] 91 (0, 0))))
          case first =>
            by_cases hk0 : k = 0
            · subst hk0
              have HQ : Asd (q = i) := Asd.mk (by simpa using HA.out)
              have HERR : Asd (∀ er, p.or q = .error er → inC l p f i = .error er) := Asd.mk fun er h => by unfold inC; rw [if_neg HK.out]; unfold argsP; rw [← HQ.out, h]
              have HGO : Asd (∀ x j, p.or q = .ok (x, j) → argsP l p f.2.2 i = argsL l p (f.2.2 - (0 + 1)) ((ps.map (·.1)) ++ [x]) j) := Asd.mk fun x j h => by
                have hps : ps = [] := List.length_eq_zero_iff.mp HG.out.len
                subst hps
                unfold argsP; rw [← HQ.out, h]; rfl
              clear HA
              go_wp2
              go_meet
              exact ⟨q, rfl, HFW, HRW, HG, HERR, HGO, HP1R⟩
            · obtain ⟨k', rfl⟩ : ∃ k', k = k' + 1 := ⟨k - 1, by omega⟩
              have hkp : (0 : Int) < ((k' + 1 : Nat) : Int) := by omega
              have HAL : Asd (argsP l p f.2.2 i = argsL l p (f.2.2 - (k' + 1)) (ps.map (·.1)) q) := Asd.mk (by have := HA.out; rw [if_neg (by omega)] at this; exact this)
              clear HA hk0
              go_wp2_with fail
              refine (must_calls R A m c l q d 5 [44] wr HNE.out (by omega) HRW.out).mono ?_
              rintro e w2 ⟨hf2, hm⟩
              have HFX : Asd (Fr (fun k => k = R ∨ k = b5) w w2) := Asd.mk (HFW.out.trans hf2 (fun k h _ => h) (fun k h _ => .inl h))
              have HGX := Asd.mk (HG.out.frS hf2 (by show ¬ b5 = R; have := HNB.out; omega) (fun g hg => by show ¬ g = R; have := HNB.out; omega))
              have HP1X := Asd.mk (blk_fr HP1R.out hf2 HNB.out.2.1)
              clear hf2 c1
              obtain ⟨r, hr⟩ : ∃ r, f.2.2 - (k' + 1) = r + 1 := ⟨f.2.2 - (k' + 1) - 1, by omega⟩
              have HRR := Asd.mk hr
              cases hM : mustT l q 5 [44] with
              | error er =>
                rw [hM] at hm
                obtain ⟨N, rfl, hN⟩ := hm
                have HE : Asd (inC l p f i = .error er) := Asd.mk (by unfold inC; rw [if_neg HK.out, HAL.out, HRR.out, argsL, hM])
                clear hM hr
                go_wp2
                refine ⟨rfl, HFX.out, ?_⟩
                rw [HE.out]
                exact ⟨N, rfl, hN⟩
              | ok q2 =>
                rw [hM] at hm
                obtain ⟨rfl, hr2⟩ := hm
                have HRX := Asd.mk hr2
                have HERR : Asd (∀ er, p.or q2 = .error er → inC l p f i = .error er) := Asd.mk fun er h => by unfold inC; rw [if_neg HK.out, HAL.out, HRR.out, argsL, hM]; simp only; rw [h]
                have HGO : Asd (∀ x j, p.or q2 = .ok (x, j) → argsP l p f.2.2 i = argsL l p (f.2.2 - (k' + 1 + 1)) ((ps.map (·.1)) ++ [x]) j) := Asd.mk fun x j h => by
                  rw [HAL.out, HRR.out, argsL, hM]; simp only; rw [h, show f.2.2 - (k' + 1 + 1) = r by omega]
                clear hM hr hr2
                go_wp2
                go_meet
                exact ⟨q2, rfl, HFX, HRX, HGX, HERR, HGO, HP1X⟩
          case rest =>
            obtain ⟨q2, rfl, HFX, HRX, HGX, HERR, HGO, HP1X⟩ := hcut
            obtain ⟨kq, rfl⟩ : ∃ kq, kq = k := ⟨k, rfl⟩
            clear c1 HA
            have c1 := (blk_cell HP1X.out 0).trans rfl
            go_upto_region 7 with fail
            have HFD : Asd (Fr (fun k => k = R ∨ k = b5) w wc.drew) := Asd.mk HFX.out.drew
            have HGD : Asd (Gath wc.drew w.heap.size b5 R f ps kq A' c') := Asd.mk (HGX.out.frS (Fr.of_below (S := fun _ => False) (below_drewN' wc 1)) (fun h => h) (fun _ _ h => h))
            have HRD : Asd (RdW wc.drew R A m c l q2 d) := Asd.mk (HRX.out.below (below_drewN' wc 1))
            have c1D : wc.drew.cell? ⟨b1, 0, none⟩ = some (.pointer (some ⟨R, 0, none⟩)) := c1
            refine wp_region_held_drew (S := fun w' => w'.cell? ⟨b1, 0, none⟩ = some (.pointer (some ⟨R, 0, none⟩))) (by kernel_rfl) c1D (fun hHeld => ?_)
            generalize wc.drew = wd at HFD HGD HRD c1D hHeld ⊢
            refine wpAnyH_take (i := 0) (oi := ({ dst := some 27, op := Op.fieldAddr 26 (Operand.tmp 2) 7, type := 0, pos := "expr.go:263", after := #[], guard := none } : Oper)) (v := ?vsa0) rfl (by kernel_rfl) (by kernel_rfl) (by kernel_rfl) (fun _ _ _ h => h) (Or.inl ⟨by rfl, ?hsa0⟩) (by assumption) ?rsa0
            case hsa0 => (intro w hSw; (try dsimp only at hSw); go_simp; try (with_reducible rfl))
            try simp only [Act.put, List.setIfInBounds_toArray, List.set_cons_zero, List.set_cons_succ]
            refine wpAnyH_take (i := 2) (oi := ({ dst := some 29, op := Op.load 91 (Operand.tmp 1), type := 91, pos := "expr.go:263", after := #[], guard := none } : Oper)) (v := ?vsa2) rfl (by kernel_rfl) (by kernel_rfl) (by kernel_rfl) (fun _ _ _ h => h) (Or.inl ⟨by rfl, ?hsa2⟩) (by assumption) ?rsa2
            case hsa2 => (intro w hSw; (try dsimp only at hSw); go_simp; try (with_reducible rfl))
            try simp only [Act.put, List.setIfInBounds_toArray, List.set_cons_zero, List.set_cons_succ]
            refine wpAnyH_ready (rs := [1, 3, 5]) (by kernel_rfl) (by simp) ?_
            refine AllReadyH.cons (o := ({ dst := some 28, op := Op.load 24 (Operand.tmp 27), type := 24, pos := "expr.go:263", after := #[{ on := 0, ground := Ground.data }], guard := none } : Oper)) rfl ?gzs01 (AllReadyH.cons (o := ({ dst := some 30, op := Op.call { callee := Callee.value (Operand.func 59), args := #[Operand.tmp 29], argTypes := #[91] }, type := 26, pos := "expr.go:263", after := #[{ on := 2, ground := Ground.data }], guard := none } : Oper)) rfl ?gzs03 (AllReadyH.cons (o := ({ dst := some 32, op := Op.buildSlice 24 1 #[(0, Operand.const (Value.agg #[Value.int IntKind.i64 0, Value.int IntKind.i64 0, Value.int IntKind.i64 0, Value.int IntKind.i64 0, Value.string { data := #[] }, Value.string { data := #[] }, Value.string { data := #[] }, Value.int IntKind.i64 0, Value.int IntKind.i64 0, Value.slice none 0 0]))], type := 24, pos := "expr.go:263", after := #[], guard := none } : Oper)) rfl ?gzs05 AllReadyH.nil))
            case gzs01 =>
              have HED := HGD.out.e
              have x9 := (ex_cells HGD.out.e).2.2.2.2.2.2.2.2.2
              intro K hK
              go_simp
              go_wp2_with fail
              refine hK.out _ _ (c1D) (fun hHeld => ?_)
              clear hK K
              try simp only [Act.put, List.setIfInBounds_toArray, List.set_cons_zero, List.set_cons_succ]
              refine wpAnyH_take (i := 4) (oi := ({ dst := some 31, op := Op.call { callee := Callee.builtin Builtin.len, args := #[Operand.tmp 28], argTypes := #[24] }, type := 3, pos := "expr.go:263", after := #[{ on := 1, ground := Ground.data }], guard := none } : Oper)) (v := ?vzs0t4) rfl (by kernel_rfl) (by kernel_rfl) (by kernel_rfl) (fun _ _ _ h => h) (Or.inl ⟨by rfl, ?hzs0t4⟩) (by assumption) ?rzs0t4
              case hzs0t4 => (intro w hSw; (try dsimp only at hSw); go_simp; try (with_reducible rfl))
              try simp only [Act.put, List.setIfInBounds_toArray, List.set_cons_zero, List.set_cons_succ]
              refine wpAnyH_ready (rs := [3, 5]) (by kernel_rfl) (by simp) ?_
              refine AllReadyH.cons (o := ({ dst := some 30, op := Op.call { callee := Callee.value (Operand.func 59), args := #[Operand.tmp 29], argTypes := #[91] }, type := 26, pos := "expr.go:263", after := #[{ on := 2, ground := Ground.data }], guard := none } : Oper)) rfl ?gzs113 (AllReadyH.cons (o := ({ dst := some 32, op := Op.buildSlice 24 1 #[(0, Operand.const (Value.agg #[Value.int IntKind.i64 0, Value.int IntKind.i64 0, Value.int IntKind.i64 0, Value.int IntKind.i64 0, Value.string { data := #[] }, Value.string { data := #[] }, Value.string { data := #[] }, Value.int IntKind.i64 0, Value.int IntKind.i64 0, Value.slice none 0 0]))], type := 24, pos := "expr.go:263", after := #[], guard := none } : Oper)) rfl ?gzs115 AllReadyH.nil)
              case gzs113 =>
                intro K hK
                go_simp
                refine (HPA.out wd q2 HRD.out).mono ?_
                rintro e wcDc ⟨hfc, hm⟩
                have HFDc : Asd (Fr (fun k => k = R ∨ k = b5) w wcDc) := Asd.mk (HFD.out.trans hfc (fun k h _ => h) (fun k h _ => .inl h))
                have HGDc := Asd.mk (HGD.out.frS hfc (by show ¬ b5 = R; have := HNB.out; omega) (fun g hg => by show ¬ g = R; have := HNB.out; omega))
                have c1Dc := fr_cell hfc HNB.out.2.1 c1D
                have HSZDc : Asd ((∀ g, (Value.slice A' kq c').ownBlock = some g → g < wd.heap.size) ∧ w.heap.size ≤ wd.heap.size) := Asd.mk ⟨fun g hg => (HGD.out.own.lt g hg).2, HFD.out.size⟩
                cases hfi : p.or q2 with
                | error er =>
                  rw [hfi] at hm
                  obtain ⟨N, rfl, hN⟩ := hm
                  refine ⟨rfl, HFDc.out, ?_⟩
                  rw [HERR.out er hfi]
                  exact ⟨N, rfl, hN⟩
                | ok yy =>
                obtain ⟨x, j⟩ := yy
                rw [hfi] at hm
                obtain ⟨sx, rfl, hh, hr⟩ := hm
                obtain ⟨As, ms, cs, rfl⟩ := held_slice hh
                have HGN := Asd.mk (HGO.out x j hfi)
                have HXDc : Asd (Held (fun g => w.heap.size ≤ g ∧ (Value.slice A' kq c').ownBlock ≠ some g) wcDc x.args (.slice As ms cs)) := Asd.mk (held_mono hh (fun g _ hg => ⟨by have h1 : wd.heap.size ≤ g := hg; have := HSZDc.out.2; omega, fun e => by have h1 : wd.heap.size ≤ g := hg; have := HSZDc.out.1 g e; omega⟩))
                have HRDc := Asd.mk hr
                clear hfi hh hr hfc
                unfold exV
                go_wp2_with fail
                refine hK.out _ _ (c1Dc) (fun hHeld => ?_)
                clear hK K
                try simp only [Act.put, List.setIfInBounds_toArray, List.set_cons_zero, List.set_cons_succ]
                refine wpAnyH_ready (rs := [5]) (by kernel_rfl) (by simp) ?_
                refine AllReadyH.cons (o := ({ dst := some 32, op := Op.buildSlice 24 1 #[(0, Operand.const (Value.agg #[Value.int IntKind.i64 0, Value.int IntKind.i64 0, Value.int IntKind.i64 0, Value.int IntKind.i64 0, Value.string { data := #[] }, Value.string { data := #[] }, Value.string { data := #[] }, Value.int IntKind.i64 0, Value.int IntKind.i64 0, Value.slice none 0 0]))], type := 24, pos := "expr.go:263", after := #[], guard := none } : Oper)) rfl ?gzs2135 AllReadyH.nil
                case gzs2135 =>
                  have hba := below_alloc (Below.refl _ wcDc) (.cells #[.int .i64 0, .int .i64 0, .int .i64 0, .int .i64 0, .string ⟨#[]⟩, .string ⟨#[]⟩, .string ⟨#[]⟩, .int .i64 0, .int .i64 0, .slice none 0 0] 26 (0, 0))
                  have HFDcb : Asd (Fr (fun k => k = R ∨ k = b5) w (wcDc.alloc (.cells #[.int .i64 0, .int .i64 0, .int .i64 0, .int .i64 0, .string ⟨#[]⟩, .string ⟨#[]⟩, .string ⟨#[]⟩, .int .i64 0, .int .i64 0, .slice none 0 0] 26 (0, 0)))) := Asd.mk (HFDc.out.trans (Fr.of_below (S := fun _ => False) hba) (fun k h _ => h) (fun k h _ => h.elim))
                  have HGDcb := Asd.mk (HGDc.out.frS (Fr.of_below (S := fun _ => False) hba) (fun h => h) (fun _ _ h => h))
                  have HRDcb := Asd.mk (HRDc.out.below hba)
                  have c1Dcb := (hba.cell (World.block_lt_of_cell? wcDc _ c1Dc)).trans c1Dc
                  have HZDcb := Asd.mk (blk_new wcDc (.cells #[.int .i64 0, .int .i64 0, .int .i64 0, .int .i64 0, .string ⟨#[]⟩, .string ⟨#[]⟩, .string ⟨#[]⟩, .int .i64 0, .int .i64 0, .slice none 0 0] 26 (0, 0)))
                  have HBZ : Asd (w.heap.size ≤ wcDc.heap.size) := Asd.mk HFDc.out.size
                  have HXDcb := Asd.mk (held_below HXDc.out hba)
                  have HBO : Asd ((Value.slice A' kq c').ownBlock ≠ some wcDc.heap.size) := Asd.mk (fun e => by have := (HGDc.out.own.lt _ e).2; omega)
                  clear hba
                  intro K hK
                  go_simp
                  go_wp2_with fail
                  refine hK.out _ _ (c1Dcb) (fun hHeld => ?_)
                  clear hK K
                  try simp only [Act.put, List.setIfInBounds_toArray, List.set_cons_zero, List.set_cons_succ]
                  generalize hbz : wcDc.heap.size = bz at HZDcb HBZ HBO ⊢
                  generalize wcDc.alloc (.cells #[.int .i64 0, .int .i64 0, .int .i64 0, .int .i64 0, .string ⟨#[]⟩, .string ⟨#[]⟩, .string ⟨#[]⟩, .int .i64 0, .int .i64 0, .slice none 0 0] 26 (0, 0)) = wbDcb at HFDcb HGDcb HRDcb c1Dcb HZDcb HXDcb hHeld ⊢
                  clear hbz
                  obtain ⟨iE, zE, hiE, hzE, hsE, hbE, hcE⟩ := rowE.hi
                  refine wpAnyH_ready (rs := [6]) (by kernel_rfl) (by simp) ?_
                  refine AllReadyH.cons (o := ({ dst := some 33, op := Op.call { callee := Callee.builtin Builtin.append, args := #[Operand.tmp 28, Operand.tmp 32], argTypes := #[24, 24] }, type := 24, pos := "expr.go:263", after := #[{ on := 1, ground := Ground.data }, { on := 5, ground := Ground.data }, { on := 3, ground := Ground.chain }, { on := 0, ground := Ground.phase }, { on := 1, ground := Ground.phase }, { on := 2, ground := Ground.phase }, { on := 3, ground := Ground.phase }, { on := 4, ground := Ground.phase }, { on := 5, ground := Ground.phase }], guard := none } : Oper)) rfl (fun K hK => ?_) AllReadyH.nil
                  refine step_append_lies wbDcb rfl (.tmp 28) (.tmp 32) _ rfl w.heap.size 26 iE zE 10 120 rowE.ht hiE hzE hsE hbE hcE rowE.pos _ kq (rowsC ps) rfl HGDcb.out.own ⟨bz, 0, none⟩ 1 1 zRow rfl rfl (World.news_of_block HZDcb.out) (by decide) (by omega) (by unfold maxLen; omega) (by omega) HFDcb.out.size wbDcb.heap.size rfl ?_
                  intro g2 cap2 w5 ho hg hor hlt5
                  clear hiE hzE hsE hbE hcE
                  have hl10 : (rowsC ps).length = kq * 10 := by rw [rowsC_len, HGDcb.out.len]
                  have hgr := Fr.of_grown (S := fun k => (Value.slice A' kq c').ownBlock = some k) hg (fun k h => h)
                  have HO5 := Asd.mk ho
                  have HG2 : Asd (w.heap.size ≤ g2) := Asd.mk (by rcases hor with e | e; exact (HGDcb.out.own.lt g2 e).1; rw [e]; exact HFDcb.out.size)
                  have hne : ∀ g, g < wbDcb.heap.size → (Value.slice A' kq c').ownBlock ≠ some g → g ≠ g2 := fun g h1 h2 e => by
                    rcases hor with e2 | e2
                    · rw [e] at h2; exact h2 e2
                    · omega
                  have hown : ∀ b, b < w.heap.size → ¬ (Value.slice A' kq c').ownBlock = some b := fun b hb e => by have := (HGDcb.out.own.lt b e).1; omega
                  have HE5 := Asd.mk (blk_fr HGDcb.out.e hgr (hown b5 (by have := HNB.out; omega)))
                  have HF5 : Asd (Fr (fun k => k = R ∨ k = b5) w w5) := Asd.mk (fr_newS HFDcb.out hgr (fun k h => .inr (HGDcb.out.own.lt k h).1))
                  have HH5 : Asd (∀ p ∈ ps, Held (fun g => w.heap.size ≤ g ∧ g ≠ g2) w5 p.1.args p.2) := Asd.mk (fun p hp => held_mono (held_frS (held_mono (HGDcb.out.held p hp) (fun g h1 h2 => (⟨h2.1, h2.2, hne g h1 h2.2⟩ : w.heap.size ≤ g ∧ (Value.slice A' kq c').ownBlock ≠ some g ∧ g ≠ g2))) hgr (fun g hg h => hg.2.1 h)) (fun g _ hg => ⟨hg.1, hg.2.2⟩))
                  have HX5 : Asd (Held (fun g => w.heap.size ≤ g ∧ g ≠ g2) w5 x.args (.slice As ms cs)) := Asd.mk (held_mono (held_frS (held_mono HXDcb.out (fun g h1 h2 => (⟨h2.1, h2.2, hne g h1 h2.2⟩ : w.heap.size ≤ g ∧ (Value.slice A' kq c').ownBlock ≠ some g ∧ g ≠ g2))) hgr (fun g hg h => hg.2.1 h)) (fun g _ hg => ⟨hg.1, hg.2.2⟩))
                  have HB5 := Asd.mk (blk_fr HRDcb.out.blk hgr (hown R (by have := HNB.out; omega)))
                  have c15 := cell_frS hgr (hown b1 (by have := HNB.out; omega)) c1Dcb
                  have HJ := Asd.mk HRDcb.out.le
                  clear ho hg hor hlt5 hgr hne hown
                  refine hK.out _ _ (c15) (fun hHeld => ?_)
                  clear hK K
                  try simp only [Act.put, List.setIfInBounds_toArray, List.set_cons_zero, List.set_cons_succ]
                  have hidx1 : (0 : Int) ≤ (kq : Int) := by omega
                  have hidx2 : (kq : Int) < (kq : Int) + 1 := by omega
                  refine wpAnyH_take (i := 7) (oi := ({ dst := some 34, op := Op.indexAddr 24 (Operand.tmp 33) (Operand.tmp 31), type := 0, pos := "expr.go:263", after := #[{ on := 6, ground := Ground.data }, { on := 4, ground := Ground.data }, { on := 0, ground := Ground.phase }, { on := 1, ground := Ground.phase }, { on := 2, ground := Ground.phase }, { on := 3, ground := Ground.phase }, { on := 4, ground := Ground.phase }, { on := 5, ground := Ground.phase }, { on := 6, ground := Ground.phase }, { on := 10, ground := Ground.gcOnly Departure.appendInPlace }], guard := none } : Oper)) (v := ?vus1357) rfl (by kernel_rfl) (by kernel_rfl) (by kernel_rfl) (fun _ _ _ h => h) (Or.inl ⟨by rfl, ?hus1357⟩) (by assumption) ?rus1357
                  case hus1357 => (intro w hSw; (try dsimp only at hSw); go_simp; try (with_reducible rfl))
                  try simp only [Act.put, List.setIfInBounds_toArray, List.set_cons_zero, List.set_cons_succ]
                  refine wpAnyH_take (i := 9) (oi := ({ dst := some 35, op := Op.fieldAddr 26 (Operand.tmp 2) 7, type := 0, pos := "expr.go:263", after := #[{ on := 0, ground := Ground.phase }, { on := 1, ground := Ground.phase }, { on := 2, ground := Ground.phase }, { on := 3, ground := Ground.phase }, { on := 4, ground := Ground.phase }, { on := 5, ground := Ground.phase }, { on := 6, ground := Ground.phase }, { on := 7, ground := Ground.textOnly Departure.appendInPlace }, { on := 8, ground := Ground.textOnly Departure.appendInPlace }], guard := none } : Oper)) (v := ?vws1359) rfl (by kernel_rfl) (by kernel_rfl) (by kernel_rfl) (fun _ _ _ h => h) (Or.inl ⟨by rfl, ?hws1359⟩) (by assumption) ?rws1359
                  case hws1359 => (intro w hSw; (try dsimp only at hSw); go_simp; try (with_reducible rfl))
                  try simp only [Act.put, List.setIfInBounds_toArray, List.set_cons_zero, List.set_cons_succ]
                  refine wpAnyH_ready (rs := [8, 10]) (by kernel_rfl) (by simp) ?_
                  refine AllReadyH.cons (o := ({ dst := none, op := Op.store 26 (Operand.tmp 34) (Operand.tmp 30), type := 0, pos := "expr.go:263", after := #[{ on := 7, ground := Ground.data }, { on := 3, ground := Ground.data }, { on := 6, ground := Ground.chain }, { on := 0, ground := Ground.phase }, { on := 1, ground := Ground.phase }, { on := 2, ground := Ground.phase }, { on := 3, ground := Ground.phase }, { on := 4, ground := Ground.phase }, { on := 5, ground := Ground.phase }, { on := 6, ground := Ground.phase }, { on := 10, ground := Ground.gcOnly Departure.appendInPlace }], guard := none } : Oper)) rfl ?ks135a (AllReadyH.cons (o := ({ dst := none, op := Op.store 24 (Operand.tmp 35) (Operand.tmp 33), type := 0, pos := "expr.go:263", after := #[{ on := 9, ground := Ground.data }, { on := 6, ground := Ground.data }, { on := 6, ground := Ground.chain }, { on := 8, ground := Ground.textOnly Departure.appendInPlace }, { on := 0, ground := Ground.phase }, { on := 1, ground := Ground.phase }, { on := 2, ground := Ground.phase }, { on := 3, ground := Ground.phase }, { on := 4, ground := Ground.phase }, { on := 5, ground := Ground.phase }, { on := 6, ground := Ground.phase }, { on := 7, ground := Ground.textOnly Departure.appendInPlace }, { on := 8, ground := Ground.textOnly Departure.appendInPlace }], guard := none } : Oper)) rfl ?ks135b AllReadyH.nil)
                  case ks135a =>
                    have y0 : w5.cell? ⟨g2, kq * 10, none⟩ = some (.int .i64 0) := own_zero hl10 HO5.out 0 (by decide)
                    have y1 : w5.cell? ⟨g2, kq * 10 + 1, none⟩ = some (.int .i64 0) := own_zero hl10 HO5.out 1 (by decide)
                    have y2 : w5.cell? ⟨g2, kq * 10 + 2, none⟩ = some (.int .i64 0) := own_zero hl10 HO5.out 2 (by decide)
                    have y3 : w5.cell? ⟨g2, kq * 10 + 3, none⟩ = some (.int .i64 0) := own_zero hl10 HO5.out 3 (by decide)
                    have y4 : w5.cell? ⟨g2, kq * 10 + 4, none⟩ = some (.string ⟨#[]⟩) := own_zero hl10 HO5.out 4 (by decide)
                    have y5 : w5.cell? ⟨g2, kq * 10 + 5, none⟩ = some (.string ⟨#[]⟩) := own_zero hl10 HO5.out 5 (by decide)
                    have y6 : w5.cell? ⟨g2, kq * 10 + 6, none⟩ = some (.string ⟨#[]⟩) := own_zero hl10 HO5.out 6 (by decide)
                    have y7 : w5.cell? ⟨g2, kq * 10 + 7, none⟩ = some (.int .i64 0) := own_zero hl10 HO5.out 7 (by decide)
                    have y8 : w5.cell? ⟨g2, kq * 10 + 8, none⟩ = some (.int .i64 0) := own_zero hl10 HO5.out 8 (by decide)
                    have y9 : w5.cell? ⟨g2, kq * 10 + 9, none⟩ = some (.slice none 0 0) := own_zero hl10 HO5.out 9 (by decide)
                    have z0 : w5.frozen? ⟨g2, kq * 10, none⟩ = false := HO5.out.frozenAt _
                    have z1 : w5.frozen? ⟨g2, kq * 10 + 1, none⟩ = false := HO5.out.frozenAt _
                    have z2 : w5.frozen? ⟨g2, kq * 10 + 2, none⟩ = false := HO5.out.frozenAt _
                    have z3 : w5.frozen? ⟨g2, kq * 10 + 3, none⟩ = false := HO5.out.frozenAt _
                    have z4 : w5.frozen? ⟨g2, kq * 10 + 4, none⟩ = false := HO5.out.frozenAt _
                    have z5 : w5.frozen? ⟨g2, kq * 10 + 5, none⟩ = false := HO5.out.frozenAt _
                    have z6 : w5.frozen? ⟨g2, kq * 10 + 6, none⟩ = false := HO5.out.frozenAt _
                    have z7 : w5.frozen? ⟨g2, kq * 10 + 7, none⟩ = false := HO5.out.frozenAt _
                    have z8 : w5.frozen? ⟨g2, kq * 10 + 8, none⟩ = false := HO5.out.frozenAt _
                    have z9 : w5.frozen? ⟨g2, kq * 10 + 9, none⟩ = false := HO5.out.frozenAt _
                    have hpf : Fr (fun k => k = g2) w5 ((((((((((w5.setCell ⟨g2, kq * 10, none⟩ (.int .i64 x.kind)).setCell ⟨g2, kq * 10 + 1, none⟩ (.int .i64 x.op)).setCell ⟨g2, kq * 10 + 2, none⟩ (.int .i64 x.v.kind)).setCell ⟨g2, kq * 10 + 3, none⟩ (.int .i64 x.v.int)).setCell ⟨g2, kq * 10 + 4, none⟩ (.string ⟨x.v.text.toArray⟩)).setCell ⟨g2, kq * 10 + 5, none⟩ (.string ⟨x.table.toArray⟩)).setCell ⟨g2, kq * 10 + 6, none⟩ (.string ⟨x.name.toArray⟩)).setCell ⟨g2, kq * 10 + 7, none⟩ (.int .i64 x.col)).setCell ⟨g2, kq * 10 + 8, none⟩ (.int .i64 x.ty)).setCell ⟨g2, kq * 10 + 9, none⟩ (.slice As ms cs)) := put_fr _ _ _ _ _ _ _ _ _ _
                    have HO6 : Asd (((((((((((w5.setCell ⟨g2, kq * 10, none⟩ (.int .i64 x.kind)).setCell ⟨g2, kq * 10 + 1, none⟩ (.int .i64 x.op)).setCell ⟨g2, kq * 10 + 2, none⟩ (.int .i64 x.v.kind)).setCell ⟨g2, kq * 10 + 3, none⟩ (.int .i64 x.v.int)).setCell ⟨g2, kq * 10 + 4, none⟩ (.string ⟨x.v.text.toArray⟩)).setCell ⟨g2, kq * 10 + 5, none⟩ (.string ⟨x.table.toArray⟩)).setCell ⟨g2, kq * 10 + 6, none⟩ (.string ⟨x.name.toArray⟩)).setCell ⟨g2, kq * 10 + 7, none⟩ (.int .i64 x.col)).setCell ⟨g2, kq * 10 + 8, none⟩ (.int .i64 x.ty)).setCell ⟨g2, kq * 10 + 9, none⟩ (.slice As ms cs)).ownsRow w.heap.size 26 10 (.slice (some ⟨g2, 0, none⟩) (kq + 1) cap2) (kq + 1) (rowsC (ps ++ [((x, Value.slice As ms cs) : Ex × Value)]))) := Asd.mk (by rw [rowsC_snoc]; exact own_put hl10 HO5.out _ _ _ _ _ _ _ _ _ _)
                    have HE6 := Asd.mk (blk_fr HE5.out hpf (by show ¬ b5 = g2; have := HG2.out; have := HNB.out; omega))
                    have HF6 := Asd.mk (fr_newS HF5.out hpf (fun k h => .inr (by have h1 : k = g2 := h; have := HG2.out; omega)))
                    have HH6 := Asd.mk (fun p (hp : p ∈ ps) => held_frS (HH5.out p hp) hpf (fun g hg h => hg.2 h))
                    have HX6 := Asd.mk (held_frS HX5.out hpf (fun g hg h => hg.2 h))
                    have HB6 := Asd.mk (blk_fr HB5.out hpf (by show ¬ R = g2; have := HG2.out; have := HNB.out; omega))
                    have c16 := cell_frS hpf (by show ¬ b1 = g2; have := HG2.out; have := HNB.out; omega) c15
                    clear hpf
                    intro K hK
                    go_simp
                    go_wp2_with fail
                    refine hK.out _ _ (c16) (fun hHeld => ?_)
                    clear hK K
                    try simp only [Act.put, List.setIfInBounds_toArray, List.set_cons_zero, List.set_cons_succ]
                    generalize ((((((((((w5.setCell ⟨g2, kq * 10, none⟩ (.int .i64 x.kind)).setCell ⟨g2, kq * 10 + 1, none⟩ (.int .i64 x.op)).setCell ⟨g2, kq * 10 + 2, none⟩ (.int .i64 x.v.kind)).setCell ⟨g2, kq * 10 + 3, none⟩ (.int .i64 x.v.int)).setCell ⟨g2, kq * 10 + 4, none⟩ (.string ⟨x.v.text.toArray⟩)).setCell ⟨g2, kq * 10 + 5, none⟩ (.string ⟨x.table.toArray⟩)).setCell ⟨g2, kq * 10 + 6, none⟩ (.string ⟨x.name.toArray⟩)).setCell ⟨g2, kq * 10 + 7, none⟩ (.int .i64 x.col)).setCell ⟨g2, kq * 10 + 8, none⟩ (.int .i64 x.ty)).setCell ⟨g2, kq * 10 + 9, none⟩ (.slice As ms cs)) = w6 at HO6 HE6 HF6 HH6 HX6 HB6 c16 hHeld ⊢
                    have x9b := (ex_cells HE6.out).2.2.2.2.2.2.2.2.2
                    have z9b := blk_frozen HE6.out 9
                    have hsf := Fr.setCell (S := fun k => k = b5) (Fr.refl _ w6) (p := ⟨b5, 9, none⟩) rfl (.slice (some ⟨g2, 0, none⟩) (kq + 1) cap2)
                    have HE7 : Asd ((w6.setCell ⟨b5, 9, none⟩ (.slice (some ⟨g2, 0, none⟩) (kq + 1) cap2)).heap[b5]? = some (.cells (exC (callE f.1 f.2.1 ((ps ++ [((x, Value.slice As ms cs) : Ex × Value)]).map (fun z => z.1))) (.slice (some ⟨g2, 0, none⟩) (kq + 1) cap2)).toArray 26 (0, 0))) := Asd.mk (blk_set9 HE6.out _ rfl)
                    have HO7 := Asd.mk (own_frS HO6.out hsf (fun g h e => by have h1 : g = b5 := e; have := HNB.out; omega))
                    have HF7 := Asd.mk (fr_newS HF6.out hsf (fun k h => .inl (.inr h)))
                    have hS : ∀ g, w.heap.size ≤ g ∧ g ≠ g2 → ¬ g = b5 := fun g hg e => by have := HNB.out; omega
                    have HH7 := Asd.mk (fun p (hp : p ∈ ps) => held_frS (HH6.out p hp) hsf hS)
                    have HX7 := Asd.mk (held_frS HX6.out hsf hS)
                    have HB7 := Asd.mk (blk_fr HB6.out hsf (by show ¬ R = b5; have := HNB.out; omega))
                    have c17 := cell_frS hsf (by show ¬ b1 = b5; have := HNB.out; omega) c16
                    clear hsf hS
                    refine wpAnyH_ready (rs := [10]) (by kernel_rfl) (by simp) ?_
                    refine AllReadyH.cons (o := ({ dst := none, op := Op.store 24 (Operand.tmp 35) (Operand.tmp 33), type := 0, pos := "expr.go:263", after := #[{ on := 9, ground := Ground.data }, { on := 6, ground := Ground.data }, { on := 6, ground := Ground.chain }, { on := 8, ground := Ground.textOnly Departure.appendInPlace }, { on := 0, ground := Ground.phase }, { on := 1, ground := Ground.phase }, { on := 2, ground := Ground.phase }, { on := 3, ground := Ground.phase }, { on := 4, ground := Ground.phase }, { on := 5, ground := Ground.phase }, { on := 6, ground := Ground.phase }, { on := 7, ground := Ground.textOnly Departure.appendInPlace }, { on := 8, ground := Ground.textOnly Departure.appendInPlace }], guard := none } : Oper)) rfl (fun K hK => ?_) AllReadyH.nil
                    go_simp
                    go_wp2_with fail
                    refine hK.out _ _ (c17) (fun hHeld => ?_)
                    clear hK K
                    try simp only [Act.put, List.setIfInBounds_toArray, List.set_cons_zero, List.set_cons_succ]
                    generalize (w6.setCell ⟨b5, 9, none⟩ (.slice (some ⟨g2, 0, none⟩) (kq + 1) cap2)) = wz at HO7 HE7 HF7 HH7 HX7 HB7 c17 hHeld ⊢
                    have HG7 : Asd (Gath wz w.heap.size b5 R f (ps ++ [((x, Value.slice As ms cs) : Ex × Value)]) (kq + 1) (some ⟨g2, 0, none⟩) cap2) := Asd.mk ⟨HE7.out, HO7.out, by rw [List.length_append, HGDcb.out.len]; rfl, fun p hp => by
                      have hM : ∀ g, w.heap.size ≤ g ∧ g ≠ g2 → w.heap.size ≤ g ∧ (Value.slice (some ⟨g2, 0, none⟩) (kq + 1) cap2).ownBlock ≠ some g := fun g hg => ⟨hg.1, fun e => hg.2 (by simpa [Value.ownBlock] using e.symm)⟩
                      rcases List.mem_append.mp hp with hp | hp
                      · exact held_mono (HH7.out p hp) (fun g _ hg => hM g hg)
                      · simp only [List.mem_singleton] at hp
                        subst hp
                        exact held_mono HX7.out (fun g _ hg => hM g hg)⟩
                    have HR7 := Asd.mk (rdw_far HH.out HF7.out (by have := HNB.out; omega) HP5.out HE7.out HB7.out HJ.out)
                    refine wpAnyH_done (by kernel_rfl) ?_ _
                    go_wp2
                    go_roundw
                    case rel => exact ⟨(kq + 1), j, ps ++ [(x, .slice As ms cs)], some ⟨g2, 0, none⟩, cap2, by omega, by go_num, HF7, HR7, HG7, ⟨by rw [if_neg (by omega), HGN.out, List.map_append]; rfl⟩⟩
                    case measure => simp [intOf]; omega
                  case ks135b =>
                    have x9b := (ex_cells HE5.out).2.2.2.2.2.2.2.2.2
                    have z9b := blk_frozen HE5.out 9
                    have hsf := Fr.setCell (S := fun k => k = b5) (Fr.refl _ w5) (p := ⟨b5, 9, none⟩) rfl (.slice (some ⟨g2, 0, none⟩) (kq + 1) cap2)
                    have HE6 : Asd ((w5.setCell ⟨b5, 9, none⟩ (.slice (some ⟨g2, 0, none⟩) (kq + 1) cap2)).heap[b5]? = some (.cells (exC (callE f.1 f.2.1 ((ps ++ [((x, Value.slice As ms cs) : Ex × Value)]).map (fun z => z.1))) (.slice (some ⟨g2, 0, none⟩) (kq + 1) cap2)).toArray 26 (0, 0))) := Asd.mk (blk_set9 HE5.out _ rfl)
                    have HO6 := Asd.mk (own_frS HO5.out hsf (fun g h e => by have h1 : g = b5 := e; have := HNB.out; omega))
                    have HF6 := Asd.mk (fr_newS HF5.out hsf (fun k h => .inl (.inr h)))
                    have hS : ∀ g, w.heap.size ≤ g ∧ g ≠ g2 → ¬ g = b5 := fun g hg e => by have := HNB.out; omega
                    have HH6 := Asd.mk (fun p (hp : p ∈ ps) => held_frS (HH5.out p hp) hsf hS)
                    have HX6 := Asd.mk (held_frS HX5.out hsf hS)
                    have HB6 := Asd.mk (blk_fr HB5.out hsf (by show ¬ R = b5; have := HNB.out; omega))
                    have c16 := cell_frS hsf (by show ¬ b1 = b5; have := HNB.out; omega) c15
                    clear hsf hS
                    intro K hK
                    go_simp
                    go_wp2_with fail
                    refine hK.out _ _ (c16) (fun hHeld => ?_)
                    clear hK K
                    try simp only [Act.put, List.setIfInBounds_toArray, List.set_cons_zero, List.set_cons_succ]
                    generalize (w5.setCell ⟨b5, 9, none⟩ (.slice (some ⟨g2, 0, none⟩) (kq + 1) cap2)) = w6 at HO6 HE6 HF6 HH6 HX6 HB6 c16 hHeld ⊢
                    have y0 : w6.cell? ⟨g2, kq * 10, none⟩ = some (.int .i64 0) := own_zero hl10 HO6.out 0 (by decide)
                    have y1 : w6.cell? ⟨g2, kq * 10 + 1, none⟩ = some (.int .i64 0) := own_zero hl10 HO6.out 1 (by decide)
                    have y2 : w6.cell? ⟨g2, kq * 10 + 2, none⟩ = some (.int .i64 0) := own_zero hl10 HO6.out 2 (by decide)
                    have y3 : w6.cell? ⟨g2, kq * 10 + 3, none⟩ = some (.int .i64 0) := own_zero hl10 HO6.out 3 (by decide)
                    have y4 : w6.cell? ⟨g2, kq * 10 + 4, none⟩ = some (.string ⟨#[]⟩) := own_zero hl10 HO6.out 4 (by decide)
                    have y5 : w6.cell? ⟨g2, kq * 10 + 5, none⟩ = some (.string ⟨#[]⟩) := own_zero hl10 HO6.out 5 (by decide)
                    have y6 : w6.cell? ⟨g2, kq * 10 + 6, none⟩ = some (.string ⟨#[]⟩) := own_zero hl10 HO6.out 6 (by decide)
                    have y7 : w6.cell? ⟨g2, kq * 10 + 7, none⟩ = some (.int .i64 0) := own_zero hl10 HO6.out 7 (by decide)
                    have y8 : w6.cell? ⟨g2, kq * 10 + 8, none⟩ = some (.int .i64 0) := own_zero hl10 HO6.out 8 (by decide)
                    have y9 : w6.cell? ⟨g2, kq * 10 + 9, none⟩ = some (.slice none 0 0) := own_zero hl10 HO6.out 9 (by decide)
                    have z0 : w6.frozen? ⟨g2, kq * 10, none⟩ = false := HO6.out.frozenAt _
                    have z1 : w6.frozen? ⟨g2, kq * 10 + 1, none⟩ = false := HO6.out.frozenAt _
                    have z2 : w6.frozen? ⟨g2, kq * 10 + 2, none⟩ = false := HO6.out.frozenAt _
                    have z3 : w6.frozen? ⟨g2, kq * 10 + 3, none⟩ = false := HO6.out.frozenAt _
                    have z4 : w6.frozen? ⟨g2, kq * 10 + 4, none⟩ = false := HO6.out.frozenAt _
                    have z5 : w6.frozen? ⟨g2, kq * 10 + 5, none⟩ = false := HO6.out.frozenAt _
                    have z6 : w6.frozen? ⟨g2, kq * 10 + 6, none⟩ = false := HO6.out.frozenAt _
                    have z7 : w6.frozen? ⟨g2, kq * 10 + 7, none⟩ = false := HO6.out.frozenAt _
                    have z8 : w6.frozen? ⟨g2, kq * 10 + 8, none⟩ = false := HO6.out.frozenAt _
                    have z9 : w6.frozen? ⟨g2, kq * 10 + 9, none⟩ = false := HO6.out.frozenAt _
                    have hpf : Fr (fun k => k = g2) w6 ((((((((((w6.setCell ⟨g2, kq * 10, none⟩ (.int .i64 x.kind)).setCell ⟨g2, kq * 10 + 1, none⟩ (.int .i64 x.op)).setCell ⟨g2, kq * 10 + 2, none⟩ (.int .i64 x.v.kind)).setCell ⟨g2, kq * 10 + 3, none⟩ (.int .i64 x.v.int)).setCell ⟨g2, kq * 10 + 4, none⟩ (.string ⟨x.v.text.toArray⟩)).setCell ⟨g2, kq * 10 + 5, none⟩ (.string ⟨x.table.toArray⟩)).setCell ⟨g2, kq * 10 + 6, none⟩ (.string ⟨x.name.toArray⟩)).setCell ⟨g2, kq * 10 + 7, none⟩ (.int .i64 x.col)).setCell ⟨g2, kq * 10 + 8, none⟩ (.int .i64 x.ty)).setCell ⟨g2, kq * 10 + 9, none⟩ (.slice As ms cs)) := put_fr _ _ _ _ _ _ _ _ _ _
                    have HO7 : Asd (((((((((((w6.setCell ⟨g2, kq * 10, none⟩ (.int .i64 x.kind)).setCell ⟨g2, kq * 10 + 1, none⟩ (.int .i64 x.op)).setCell ⟨g2, kq * 10 + 2, none⟩ (.int .i64 x.v.kind)).setCell ⟨g2, kq * 10 + 3, none⟩ (.int .i64 x.v.int)).setCell ⟨g2, kq * 10 + 4, none⟩ (.string ⟨x.v.text.toArray⟩)).setCell ⟨g2, kq * 10 + 5, none⟩ (.string ⟨x.table.toArray⟩)).setCell ⟨g2, kq * 10 + 6, none⟩ (.string ⟨x.name.toArray⟩)).setCell ⟨g2, kq * 10 + 7, none⟩ (.int .i64 x.col)).setCell ⟨g2, kq * 10 + 8, none⟩ (.int .i64 x.ty)).setCell ⟨g2, kq * 10 + 9, none⟩ (.slice As ms cs)).ownsRow w.heap.size 26 10 (.slice (some ⟨g2, 0, none⟩) (kq + 1) cap2) (kq + 1) (rowsC (ps ++ [((x, Value.slice As ms cs) : Ex × Value)]))) := Asd.mk (by rw [rowsC_snoc]; exact own_put hl10 HO6.out _ _ _ _ _ _ _ _ _ _)
                    have HE7 := Asd.mk (blk_fr HE6.out hpf (by show ¬ b5 = g2; have := HG2.out; have := HNB.out; omega))
                    have HF7 := Asd.mk (fr_newS HF6.out hpf (fun k h => .inr (by have h1 : k = g2 := h; have := HG2.out; omega)))
                    have HH7 := Asd.mk (fun p (hp : p ∈ ps) => held_frS (HH6.out p hp) hpf (fun g hg h => hg.2 h))
                    have HX7 := Asd.mk (held_frS HX6.out hpf (fun g hg h => hg.2 h))
                    have HB7 := Asd.mk (blk_fr HB6.out hpf (by show ¬ R = g2; have := HG2.out; have := HNB.out; omega))
                    have c17 := cell_frS hpf (by show ¬ b1 = g2; have := HG2.out; have := HNB.out; omega) c16
                    clear hpf
                    refine wpAnyH_ready (rs := [8]) (by kernel_rfl) (by simp) ?_
                    refine AllReadyH.cons (o := ({ dst := none, op := Op.store 26 (Operand.tmp 34) (Operand.tmp 30), type := 0, pos := "expr.go:263", after := #[{ on := 7, ground := Ground.data }, { on := 3, ground := Ground.data }, { on := 6, ground := Ground.chain }, { on := 0, ground := Ground.phase }, { on := 1, ground := Ground.phase }, { on := 2, ground := Ground.phase }, { on := 3, ground := Ground.phase }, { on := 4, ground := Ground.phase }, { on := 5, ground := Ground.phase }, { on := 6, ground := Ground.phase }, { on := 10, ground := Ground.gcOnly Departure.appendInPlace }], guard := none } : Oper)) rfl (fun K hK => ?_) AllReadyH.nil
                    go_simp
                    go_wp2_with fail
                    refine hK.out _ _ (c17) (fun hHeld => ?_)
                    clear hK K
                    try simp only [Act.put, List.setIfInBounds_toArray, List.set_cons_zero, List.set_cons_succ]
                    generalize ((((((((((w6.setCell ⟨g2, kq * 10, none⟩ (.int .i64 x.kind)).setCell ⟨g2, kq * 10 + 1, none⟩ (.int .i64 x.op)).setCell ⟨g2, kq * 10 + 2, none⟩ (.int .i64 x.v.kind)).setCell ⟨g2, kq * 10 + 3, none⟩ (.int .i64 x.v.int)).setCell ⟨g2, kq * 10 + 4, none⟩ (.string ⟨x.v.text.toArray⟩)).setCell ⟨g2, kq * 10 + 5, none⟩ (.string ⟨x.table.toArray⟩)).setCell ⟨g2, kq * 10 + 6, none⟩ (.string ⟨x.name.toArray⟩)).setCell ⟨g2, kq * 10 + 7, none⟩ (.int .i64 x.col)).setCell ⟨g2, kq * 10 + 8, none⟩ (.int .i64 x.ty)).setCell ⟨g2, kq * 10 + 9, none⟩ (.slice As ms cs)) = wz at HO7 HE7 HF7 HH7 HX7 HB7 c17 hHeld ⊢
                    have HG7 : Asd (Gath wz w.heap.size b5 R f (ps ++ [((x, Value.slice As ms cs) : Ex × Value)]) (kq + 1) (some ⟨g2, 0, none⟩) cap2) := Asd.mk ⟨HE7.out, HO7.out, by rw [List.length_append, HGDcb.out.len]; rfl, fun p hp => by
                      have hM : ∀ g, w.heap.size ≤ g ∧ g ≠ g2 → w.heap.size ≤ g ∧ (Value.slice (some ⟨g2, 0, none⟩) (kq + 1) cap2).ownBlock ≠ some g := fun g hg => ⟨hg.1, fun e => hg.2 (by simpa [Value.ownBlock] using e.symm)⟩
                      rcases List.mem_append.mp hp with hp | hp
                      · exact held_mono (HH7.out p hp) (fun g _ hg => hM g hg)
                      · simp only [List.mem_singleton] at hp
                        subst hp
                        exact held_mono HX7.out (fun g _ hg => hM g hg)⟩
                    have HR7 := Asd.mk (rdw_far HH.out HF7.out (by have := HNB.out; omega) HP5.out HE7.out HB7.out HJ.out)
                    refine wpAnyH_done (by kernel_rfl) ?_ _
                    go_wp2
                    go_roundw
                    case rel => exact ⟨(kq + 1), j, ps ++ [(x, .slice As ms cs)], some ⟨g2, 0, none⟩, cap2, by omega, by go_num, HF7, HR7, HG7, ⟨by rw [if_neg (by omega), HGN.out, List.map_append]; rfl⟩⟩
                    case measure => simp [intOf]; omega
              case gzs115 =>
                have hba := below_alloc (Below.refl _ wd) (.cells #[.int .i64 0, .int .i64 0, .int .i64 0, .int .i64 0, .string ⟨#[]⟩, .string ⟨#[]⟩, .string ⟨#[]⟩, .int .i64 0, .int .i64 0, .slice none 0 0] 26 (0, 0))
                have HFDb : Asd (Fr (fun k => k = R ∨ k = b5) w (wd.alloc (.cells #[.int .i64 0, .int .i64 0, .int .i64 0, .int .i64 0, .string ⟨#[]⟩, .string ⟨#[]⟩, .string ⟨#[]⟩, .int .i64 0, .int .i64 0, .slice none 0 0] 26 (0, 0)))) := Asd.mk (HFD.out.trans (Fr.of_below (S := fun _ => False) hba) (fun k h _ => h) (fun k h _ => h.elim))
                have HGDb := Asd.mk (HGD.out.frS (Fr.of_below (S := fun _ => False) hba) (fun h => h) (fun _ _ h => h))
                have HRDb := Asd.mk (HRD.out.below hba)
                have c1Db := (hba.cell (World.block_lt_of_cell? wd _ c1D)).trans c1D
                have HZDb := Asd.mk (blk_new wd (.cells #[.int .i64 0, .int .i64 0, .int .i64 0, .int .i64 0, .string ⟨#[]⟩, .string ⟨#[]⟩, .string ⟨#[]⟩, .int .i64 0, .int .i64 0, .slice none 0 0] 26 (0, 0)))
                have HBZ : Asd (w.heap.size ≤ wd.heap.size) := Asd.mk HFD.out.size
                have HBO : Asd ((Value.slice A' kq c').ownBlock ≠ some wd.heap.size) := Asd.mk (fun e => by have := (HGD.out.own.lt _ e).2; omega)
                clear hba
                intro K hK
                go_simp
                go_wp2_with fail
                refine hK.out _ _ (c1Db) (fun hHeld => ?_)
                clear hK K
                try simp only [Act.put, List.setIfInBounds_toArray, List.set_cons_zero, List.set_cons_succ]
                generalize hbz : wd.heap.size = bz at HZDb HBZ HBO ⊢
                generalize wd.alloc (.cells #[.int .i64 0, .int .i64 0, .int .i64 0, .int .i64 0, .string ⟨#[]⟩, .string ⟨#[]⟩, .string ⟨#[]⟩, .int .i64 0, .int .i64 0, .slice none 0 0] 26 (0, 0)) = wbDb at HFDb HGDb HRDb c1Db HZDb hHeld ⊢
                clear hbz
                refine wpAnyH_ready (rs := [3]) (by kernel_rfl) (by simp) ?_
                refine AllReadyH.cons (o := ({ dst := some 30, op := Op.call { callee := Callee.value (Operand.func 59), args := #[Operand.tmp 29], argTypes := #[91] }, type := 26, pos := "expr.go:263", after := #[{ on := 2, ground := Ground.data }], guard := none } : Oper)) rfl ?gzs2153 AllReadyH.nil
                case gzs2153 =>
                  intro K hK
                  go_simp
                  refine (HPA.out wbDb q2 HRDb.out).mono ?_
                  rintro e wcDbc ⟨hfc, hm⟩
                  have HFDbc : Asd (Fr (fun k => k = R ∨ k = b5) w wcDbc) := Asd.mk (HFDb.out.trans hfc (fun k h _ => h) (fun k h _ => .inl h))
                  have HGDbc := Asd.mk (HGDb.out.frS hfc (by show ¬ b5 = R; have := HNB.out; omega) (fun g hg => by show ¬ g = R; have := HNB.out; omega))
                  have c1Dbc := fr_cell hfc HNB.out.2.1 c1Db
                  have HSZDbc : Asd ((∀ g, (Value.slice A' kq c').ownBlock = some g → g < wbDb.heap.size) ∧ w.heap.size ≤ wbDb.heap.size) := Asd.mk ⟨fun g hg => (HGDb.out.own.lt g hg).2, HFDb.out.size⟩
                  have HZDbc := Asd.mk (blk_fr HZDb.out hfc (by show ¬ bz = R; have := HBZ.out; have := HNB.out; omega))
                  cases hfi : p.or q2 with
                  | error er =>
                    rw [hfi] at hm
                    obtain ⟨N, rfl, hN⟩ := hm
                    refine ⟨rfl, HFDbc.out, ?_⟩
                    rw [HERR.out er hfi]
                    exact ⟨N, rfl, hN⟩
                  | ok yy =>
                  obtain ⟨x, j⟩ := yy
                  rw [hfi] at hm
                  obtain ⟨sx, rfl, hh, hr⟩ := hm
                  obtain ⟨As, ms, cs, rfl⟩ := held_slice hh
                  have HGN := Asd.mk (HGO.out x j hfi)
                  have HXDbc : Asd (Held (fun g => w.heap.size ≤ g ∧ (Value.slice A' kq c').ownBlock ≠ some g) wcDbc x.args (.slice As ms cs)) := Asd.mk (held_mono hh (fun g _ hg => ⟨by have h1 : wbDb.heap.size ≤ g := hg; have := HSZDbc.out.2; omega, fun e => by have h1 : wbDb.heap.size ≤ g := hg; have := HSZDbc.out.1 g e; omega⟩))
                  have HRDbc := Asd.mk hr
                  clear hfi hh hr hfc
                  unfold exV
                  go_wp2_with fail
                  refine hK.out _ _ (c1Dbc) (fun hHeld => ?_)
                  clear hK K
                  try simp only [Act.put, List.setIfInBounds_toArray, List.set_cons_zero, List.set_cons_succ]
                  obtain ⟨iE, zE, hiE, hzE, hsE, hbE, hcE⟩ := rowE.hi
                  refine wpAnyH_ready (rs := [6]) (by kernel_rfl) (by simp) ?_
                  refine AllReadyH.cons (o := ({ dst := some 33, op := Op.call { callee := Callee.builtin Builtin.append, args := #[Operand.tmp 28, Operand.tmp 32], argTypes := #[24, 24] }, type := 24, pos := "expr.go:263", after := #[{ on := 1, ground := Ground.data }, { on := 5, ground := Ground.data }, { on := 3, ground := Ground.chain }, { on := 0, ground := Ground.phase }, { on := 1, ground := Ground.phase }, { on := 2, ground := Ground.phase }, { on := 3, ground := Ground.phase }, { on := 4, ground := Ground.phase }, { on := 5, ground := Ground.phase }], guard := none } : Oper)) rfl (fun K hK => ?_) AllReadyH.nil
                  refine step_append_lies wcDbc rfl (.tmp 28) (.tmp 32) _ rfl w.heap.size 26 iE zE 10 120 rowE.ht hiE hzE hsE hbE hcE rowE.pos _ kq (rowsC ps) rfl HGDbc.out.own ⟨bz, 0, none⟩ 1 1 zRow rfl rfl (World.news_of_block HZDbc.out) (by decide) (by omega) (by unfold maxLen; omega) (by omega) HFDbc.out.size wcDbc.heap.size rfl ?_
                  intro g2 cap2 w5 ho hg hor hlt5
                  clear hiE hzE hsE hbE hcE
                  have hl10 : (rowsC ps).length = kq * 10 := by rw [rowsC_len, HGDbc.out.len]
                  have hgr := Fr.of_grown (S := fun k => (Value.slice A' kq c').ownBlock = some k) hg (fun k h => h)
                  have HO5 := Asd.mk ho
                  have HG2 : Asd (w.heap.size ≤ g2) := Asd.mk (by rcases hor with e | e; exact (HGDbc.out.own.lt g2 e).1; rw [e]; exact HFDbc.out.size)
                  have hne : ∀ g, g < wcDbc.heap.size → (Value.slice A' kq c').ownBlock ≠ some g → g ≠ g2 := fun g h1 h2 e => by
                    rcases hor with e2 | e2
                    · rw [e] at h2; exact h2 e2
                    · omega
                  have hown : ∀ b, b < w.heap.size → ¬ (Value.slice A' kq c').ownBlock = some b := fun b hb e => by have := (HGDbc.out.own.lt b e).1; omega
                  have HE5 := Asd.mk (blk_fr HGDbc.out.e hgr (hown b5 (by have := HNB.out; omega)))
                  have HF5 : Asd (Fr (fun k => k = R ∨ k = b5) w w5) := Asd.mk (fr_newS HFDbc.out hgr (fun k h => .inr (HGDbc.out.own.lt k h).1))
                  have HH5 : Asd (∀ p ∈ ps, Held (fun g => w.heap.size ≤ g ∧ g ≠ g2) w5 p.1.args p.2) := Asd.mk (fun p hp => held_mono (held_frS (held_mono (HGDbc.out.held p hp) (fun g h1 h2 => (⟨h2.1, h2.2, hne g h1 h2.2⟩ : w.heap.size ≤ g ∧ (Value.slice A' kq c').ownBlock ≠ some g ∧ g ≠ g2))) hgr (fun g hg h => hg.2.1 h)) (fun g _ hg => ⟨hg.1, hg.2.2⟩))
                  have HX5 : Asd (Held (fun g => w.heap.size ≤ g ∧ g ≠ g2) w5 x.args (.slice As ms cs)) := Asd.mk (held_mono (held_frS (held_mono HXDbc.out (fun g h1 h2 => (⟨h2.1, h2.2, hne g h1 h2.2⟩ : w.heap.size ≤ g ∧ (Value.slice A' kq c').ownBlock ≠ some g ∧ g ≠ g2))) hgr (fun g hg h => hg.2.1 h)) (fun g _ hg => ⟨hg.1, hg.2.2⟩))
                  have HB5 := Asd.mk (blk_fr HRDbc.out.blk hgr (hown R (by have := HNB.out; omega)))
                  have c15 := cell_frS hgr (hown b1 (by have := HNB.out; omega)) c1Dbc
                  have HJ := Asd.mk HRDbc.out.le
                  clear ho hg hor hlt5 hgr hne hown
                  refine hK.out _ _ (c15) (fun hHeld => ?_)
                  clear hK K
                  try simp only [Act.put, List.setIfInBounds_toArray, List.set_cons_zero, List.set_cons_succ]
                  have hidx1 : (0 : Int) ≤ (kq : Int) := by omega
                  have hidx2 : (kq : Int) < (kq : Int) + 1 := by omega
                  refine wpAnyH_take (i := 7) (oi := ({ dst := some 34, op := Op.indexAddr 24 (Operand.tmp 33) (Operand.tmp 31), type := 0, pos := "expr.go:263", after := #[{ on := 6, ground := Ground.data }, { on := 4, ground := Ground.data }, { on := 0, ground := Ground.phase }, { on := 1, ground := Ground.phase }, { on := 2, ground := Ground.phase }, { on := 3, ground := Ground.phase }, { on := 4, ground := Ground.phase }, { on := 5, ground := Ground.phase }, { on := 6, ground := Ground.phase }, { on := 10, ground := Ground.gcOnly Departure.appendInPlace }], guard := none } : Oper)) (v := ?vus1537) rfl (by kernel_rfl) (by kernel_rfl) (by kernel_rfl) (fun _ _ _ h => h) (Or.inl ⟨by rfl, ?hus1537⟩) (by assumption) ?rus1537
                  case hus1537 => (intro w hSw; (try dsimp only at hSw); go_simp; try (with_reducible rfl))
                  try simp only [Act.put, List.setIfInBounds_toArray, List.set_cons_zero, List.set_cons_succ]
                  refine wpAnyH_take (i := 9) (oi := ({ dst := some 35, op := Op.fieldAddr 26 (Operand.tmp 2) 7, type := 0, pos := "expr.go:263", after := #[{ on := 0, ground := Ground.phase }, { on := 1, ground := Ground.phase }, { on := 2, ground := Ground.phase }, { on := 3, ground := Ground.phase }, { on := 4, ground := Ground.phase }, { on := 5, ground := Ground.phase }, { on := 6, ground := Ground.phase }, { on := 7, ground := Ground.textOnly Departure.appendInPlace }, { on := 8, ground := Ground.textOnly Departure.appendInPlace }], guard := none } : Oper)) (v := ?vws1539) rfl (by kernel_rfl) (by kernel_rfl) (by kernel_rfl) (fun _ _ _ h => h) (Or.inl ⟨by rfl, ?hws1539⟩) (by assumption) ?rws1539
                  case hws1539 => (intro w hSw; (try dsimp only at hSw); go_simp; try (with_reducible rfl))
                  try simp only [Act.put, List.setIfInBounds_toArray, List.set_cons_zero, List.set_cons_succ]
                  refine wpAnyH_ready (rs := [8, 10]) (by kernel_rfl) (by simp) ?_
                  refine AllReadyH.cons (o := ({ dst := none, op := Op.store 26 (Operand.tmp 34) (Operand.tmp 30), type := 0, pos := "expr.go:263", after := #[{ on := 7, ground := Ground.data }, { on := 3, ground := Ground.data }, { on := 6, ground := Ground.chain }, { on := 0, ground := Ground.phase }, { on := 1, ground := Ground.phase }, { on := 2, ground := Ground.phase }, { on := 3, ground := Ground.phase }, { on := 4, ground := Ground.phase }, { on := 5, ground := Ground.phase }, { on := 6, ground := Ground.phase }, { on := 10, ground := Ground.gcOnly Departure.appendInPlace }], guard := none } : Oper)) rfl ?ks153a (AllReadyH.cons (o := ({ dst := none, op := Op.store 24 (Operand.tmp 35) (Operand.tmp 33), type := 0, pos := "expr.go:263", after := #[{ on := 9, ground := Ground.data }, { on := 6, ground := Ground.data }, { on := 6, ground := Ground.chain }, { on := 8, ground := Ground.textOnly Departure.appendInPlace }, { on := 0, ground := Ground.phase }, { on := 1, ground := Ground.phase }, { on := 2, ground := Ground.phase }, { on := 3, ground := Ground.phase }, { on := 4, ground := Ground.phase }, { on := 5, ground := Ground.phase }, { on := 6, ground := Ground.phase }, { on := 7, ground := Ground.textOnly Departure.appendInPlace }, { on := 8, ground := Ground.textOnly Departure.appendInPlace }], guard := none } : Oper)) rfl ?ks153b AllReadyH.nil)
                  case ks153a =>
                    have y0 : w5.cell? ⟨g2, kq * 10, none⟩ = some (.int .i64 0) := own_zero hl10 HO5.out 0 (by decide)
                    have y1 : w5.cell? ⟨g2, kq * 10 + 1, none⟩ = some (.int .i64 0) := own_zero hl10 HO5.out 1 (by decide)
                    have y2 : w5.cell? ⟨g2, kq * 10 + 2, none⟩ = some (.int .i64 0) := own_zero hl10 HO5.out 2 (by decide)
                    have y3 : w5.cell? ⟨g2, kq * 10 + 3, none⟩ = some (.int .i64 0) := own_zero hl10 HO5.out 3 (by decide)
                    have y4 : w5.cell? ⟨g2, kq * 10 + 4, none⟩ = some (.string ⟨#[]⟩) := own_zero hl10 HO5.out 4 (by decide)
                    have y5 : w5.cell? ⟨g2, kq * 10 + 5, none⟩ = some (.string ⟨#[]⟩) := own_zero hl10 HO5.out 5 (by decide)
                    have y6 : w5.cell? ⟨g2, kq * 10 + 6, none⟩ = some (.string ⟨#[]⟩) := own_zero hl10 HO5.out 6 (by decide)
                    have y7 : w5.cell? ⟨g2, kq * 10 + 7, none⟩ = some (.int .i64 0) := own_zero hl10 HO5.out 7 (by decide)
                    have y8 : w5.cell? ⟨g2, kq * 10 + 8, none⟩ = some (.int .i64 0) := own_zero hl10 HO5.out 8 (by decide)
                    have y9 : w5.cell? ⟨g2, kq * 10 + 9, none⟩ = some (.slice none 0 0) := own_zero hl10 HO5.out 9 (by decide)
                    have z0 : w5.frozen? ⟨g2, kq * 10, none⟩ = false := HO5.out.frozenAt _
                    have z1 : w5.frozen? ⟨g2, kq * 10 + 1, none⟩ = false := HO5.out.frozenAt _
                    have z2 : w5.frozen? ⟨g2, kq * 10 + 2, none⟩ = false := HO5.out.frozenAt _
                    have z3 : w5.frozen? ⟨g2, kq * 10 + 3, none⟩ = false := HO5.out.frozenAt _
                    have z4 : w5.frozen? ⟨g2, kq * 10 + 4, none⟩ = false := HO5.out.frozenAt _
                    have z5 : w5.frozen? ⟨g2, kq * 10 + 5, none⟩ = false := HO5.out.frozenAt _
                    have z6 : w5.frozen? ⟨g2, kq * 10 + 6, none⟩ = false := HO5.out.frozenAt _
                    have z7 : w5.frozen? ⟨g2, kq * 10 + 7, none⟩ = false := HO5.out.frozenAt _
                    have z8 : w5.frozen? ⟨g2, kq * 10 + 8, none⟩ = false := HO5.out.frozenAt _
                    have z9 : w5.frozen? ⟨g2, kq * 10 + 9, none⟩ = false := HO5.out.frozenAt _
                    have hpf : Fr (fun k => k = g2) w5 ((((((((((w5.setCell ⟨g2, kq * 10, none⟩ (.int .i64 x.kind)).setCell ⟨g2, kq * 10 + 1, none⟩ (.int .i64 x.op)).setCell ⟨g2, kq * 10 + 2, none⟩ (.int .i64 x.v.kind)).setCell ⟨g2, kq * 10 + 3, none⟩ (.int .i64 x.v.int)).setCell ⟨g2, kq * 10 + 4, none⟩ (.string ⟨x.v.text.toArray⟩)).setCell ⟨g2, kq * 10 + 5, none⟩ (.string ⟨x.table.toArray⟩)).setCell ⟨g2, kq * 10 + 6, none⟩ (.string ⟨x.name.toArray⟩)).setCell ⟨g2, kq * 10 + 7, none⟩ (.int .i64 x.col)).setCell ⟨g2, kq * 10 + 8, none⟩ (.int .i64 x.ty)).setCell ⟨g2, kq * 10 + 9, none⟩ (.slice As ms cs)) := put_fr _ _ _ _ _ _ _ _ _ _
                    have HO6 : Asd (((((((((((w5.setCell ⟨g2, kq * 10, none⟩ (.int .i64 x.kind)).setCell ⟨g2, kq * 10 + 1, none⟩ (.int .i64 x.op)).setCell ⟨g2, kq * 10 + 2, none⟩ (.int .i64 x.v.kind)).setCell ⟨g2, kq * 10 + 3, none⟩ (.int .i64 x.v.int)).setCell ⟨g2, kq * 10 + 4, none⟩ (.string ⟨x.v.text.toArray⟩)).setCell ⟨g2, kq * 10 + 5, none⟩ (.string ⟨x.table.toArray⟩)).setCell ⟨g2, kq * 10 + 6, none⟩ (.string ⟨x.name.toArray⟩)).setCell ⟨g2, kq * 10 + 7, none⟩ (.int .i64 x.col)).setCell ⟨g2, kq * 10 + 8, none⟩ (.int .i64 x.ty)).setCell ⟨g2, kq * 10 + 9, none⟩ (.slice As ms cs)).ownsRow w.heap.size 26 10 (.slice (some ⟨g2, 0, none⟩) (kq + 1) cap2) (kq + 1) (rowsC (ps ++ [((x, Value.slice As ms cs) : Ex × Value)]))) := Asd.mk (by rw [rowsC_snoc]; exact own_put hl10 HO5.out _ _ _ _ _ _ _ _ _ _)
                    have HE6 := Asd.mk (blk_fr HE5.out hpf (by show ¬ b5 = g2; have := HG2.out; have := HNB.out; omega))
                    have HF6 := Asd.mk (fr_newS HF5.out hpf (fun k h => .inr (by have h1 : k = g2 := h; have := HG2.out; omega)))
                    have HH6 := Asd.mk (fun p (hp : p ∈ ps) => held_frS (HH5.out p hp) hpf (fun g hg h => hg.2 h))
                    have HX6 := Asd.mk (held_frS HX5.out hpf (fun g hg h => hg.2 h))
                    have HB6 := Asd.mk (blk_fr HB5.out hpf (by show ¬ R = g2; have := HG2.out; have := HNB.out; omega))
                    have c16 := cell_frS hpf (by show ¬ b1 = g2; have := HG2.out; have := HNB.out; omega) c15
                    clear hpf
                    intro K hK
                    go_simp
                    go_wp2_with fail
                    refine hK.out _ _ (c16) (fun hHeld => ?_)
                    clear hK K
                    try simp only [Act.put, List.setIfInBounds_toArray, List.set_cons_zero, List.set_cons_succ]
                    generalize ((((((((((w5.setCell ⟨g2, kq * 10, none⟩ (.int .i64 x.kind)).setCell ⟨g2, kq * 10 + 1, none⟩ (.int .i64 x.op)).setCell ⟨g2, kq * 10 + 2, none⟩ (.int .i64 x.v.kind)).setCell ⟨g2, kq * 10 + 3, none⟩ (.int .i64 x.v.int)).setCell ⟨g2, kq * 10 + 4, none⟩ (.string ⟨x.v.text.toArray⟩)).setCell ⟨g2, kq * 10 + 5, none⟩ (.string ⟨x.table.toArray⟩)).setCell ⟨g2, kq * 10 + 6, none⟩ (.string ⟨x.name.toArray⟩)).setCell ⟨g2, kq * 10 + 7, none⟩ (.int .i64 x.col)).setCell ⟨g2, kq * 10 + 8, none⟩ (.int .i64 x.ty)).setCell ⟨g2, kq * 10 + 9, none⟩ (.slice As ms cs)) = w6 at HO6 HE6 HF6 HH6 HX6 HB6 c16 hHeld ⊢
                    have x9b := (ex_cells HE6.out).2.2.2.2.2.2.2.2.2
                    have z9b := blk_frozen HE6.out 9
                    have hsf := Fr.setCell (S := fun k => k = b5) (Fr.refl _ w6) (p := ⟨b5, 9, none⟩) rfl (.slice (some ⟨g2, 0, none⟩) (kq + 1) cap2)
                    have HE7 : Asd ((w6.setCell ⟨b5, 9, none⟩ (.slice (some ⟨g2, 0, none⟩) (kq + 1) cap2)).heap[b5]? = some (.cells (exC (callE f.1 f.2.1 ((ps ++ [((x, Value.slice As ms cs) : Ex × Value)]).map (fun z => z.1))) (.slice (some ⟨g2, 0, none⟩) (kq + 1) cap2)).toArray 26 (0, 0))) := Asd.mk (blk_set9 HE6.out _ rfl)
                    have HO7 := Asd.mk (own_frS HO6.out hsf (fun g h e => by have h1 : g = b5 := e; have := HNB.out; omega))
                    have HF7 := Asd.mk (fr_newS HF6.out hsf (fun k h => .inl (.inr h)))
                    have hS : ∀ g, w.heap.size ≤ g ∧ g ≠ g2 → ¬ g = b5 := fun g hg e => by have := HNB.out; omega
                    have HH7 := Asd.mk (fun p (hp : p ∈ ps) => held_frS (HH6.out p hp) hsf hS)
                    have HX7 := Asd.mk (held_frS HX6.out hsf hS)
                    have HB7 := Asd.mk (blk_fr HB6.out hsf (by show ¬ R = b5; have := HNB.out; omega))
                    have c17 := cell_frS hsf (by show ¬ b1 = b5; have := HNB.out; omega) c16
                    clear hsf hS
                    refine wpAnyH_ready (rs := [10]) (by kernel_rfl) (by simp) ?_
                    refine AllReadyH.cons (o := ({ dst := none, op := Op.store 24 (Operand.tmp 35) (Operand.tmp 33), type := 0, pos := "expr.go:263", after := #[{ on := 9, ground := Ground.data }, { on := 6, ground := Ground.data }, { on := 6, ground := Ground.chain }, { on := 8, ground := Ground.textOnly Departure.appendInPlace }, { on := 0, ground := Ground.phase }, { on := 1, ground := Ground.phase }, { on := 2, ground := Ground.phase }, { on := 3, ground := Ground.phase }, { on := 4, ground := Ground.phase }, { on := 5, ground := Ground.phase }, { on := 6, ground := Ground.phase }, { on := 7, ground := Ground.textOnly Departure.appendInPlace }, { on := 8, ground := Ground.textOnly Departure.appendInPlace }], guard := none } : Oper)) rfl (fun K hK => ?_) AllReadyH.nil
                    go_simp
                    go_wp2_with fail
                    refine hK.out _ _ (c17) (fun hHeld => ?_)
                    clear hK K
                    try simp only [Act.put, List.setIfInBounds_toArray, List.set_cons_zero, List.set_cons_succ]
                    generalize (w6.setCell ⟨b5, 9, none⟩ (.slice (some ⟨g2, 0, none⟩) (kq + 1) cap2)) = wz at HO7 HE7 HF7 HH7 HX7 HB7 c17 hHeld ⊢
                    have HG7 : Asd (Gath wz w.heap.size b5 R f (ps ++ [((x, Value.slice As ms cs) : Ex × Value)]) (kq + 1) (some ⟨g2, 0, none⟩) cap2) := Asd.mk ⟨HE7.out, HO7.out, by rw [List.length_append, HGDbc.out.len]; rfl, fun p hp => by
                      have hM : ∀ g, w.heap.size ≤ g ∧ g ≠ g2 → w.heap.size ≤ g ∧ (Value.slice (some ⟨g2, 0, none⟩) (kq + 1) cap2).ownBlock ≠ some g := fun g hg => ⟨hg.1, fun e => hg.2 (by simpa [Value.ownBlock] using e.symm)⟩
                      rcases List.mem_append.mp hp with hp | hp
                      · exact held_mono (HH7.out p hp) (fun g _ hg => hM g hg)
                      · simp only [List.mem_singleton] at hp
                        subst hp
                        exact held_mono HX7.out (fun g _ hg => hM g hg)⟩
                    have HR7 := Asd.mk (rdw_far HH.out HF7.out (by have := HNB.out; omega) HP5.out HE7.out HB7.out HJ.out)
                    refine wpAnyH_done (by kernel_rfl) ?_ _
                    go_wp2
                    go_roundw
                    case rel => exact ⟨(kq + 1), j, ps ++ [(x, .slice As ms cs)], some ⟨g2, 0, none⟩, cap2, by omega, by go_num, HF7, HR7, HG7, ⟨by rw [if_neg (by omega), HGN.out, List.map_append]; rfl⟩⟩
                    case measure => simp [intOf]; omega
                  case ks153b =>
                    have x9b := (ex_cells HE5.out).2.2.2.2.2.2.2.2.2
                    have z9b := blk_frozen HE5.out 9
                    have hsf := Fr.setCell (S := fun k => k = b5) (Fr.refl _ w5) (p := ⟨b5, 9, none⟩) rfl (.slice (some ⟨g2, 0, none⟩) (kq + 1) cap2)
                    have HE6 : Asd ((w5.setCell ⟨b5, 9, none⟩ (.slice (some ⟨g2, 0, none⟩) (kq + 1) cap2)).heap[b5]? = some (.cells (exC (callE f.1 f.2.1 ((ps ++ [((x, Value.slice As ms cs) : Ex × Value)]).map (fun z => z.1))) (.slice (some ⟨g2, 0, none⟩) (kq + 1) cap2)).toArray 26 (0, 0))) := Asd.mk (blk_set9 HE5.out _ rfl)
                    have HO6 := Asd.mk (own_frS HO5.out hsf (fun g h e => by have h1 : g = b5 := e; have := HNB.out; omega))
                    have HF6 := Asd.mk (fr_newS HF5.out hsf (fun k h => .inl (.inr h)))
                    have hS : ∀ g, w.heap.size ≤ g ∧ g ≠ g2 → ¬ g = b5 := fun g hg e => by have := HNB.out; omega
                    have HH6 := Asd.mk (fun p (hp : p ∈ ps) => held_frS (HH5.out p hp) hsf hS)
                    have HX6 := Asd.mk (held_frS HX5.out hsf hS)
                    have HB6 := Asd.mk (blk_fr HB5.out hsf (by show ¬ R = b5; have := HNB.out; omega))
                    have c16 := cell_frS hsf (by show ¬ b1 = b5; have := HNB.out; omega) c15
                    clear hsf hS
                    intro K hK
                    go_simp
                    go_wp2_with fail
                    refine hK.out _ _ (c16) (fun hHeld => ?_)
                    clear hK K
                    try simp only [Act.put, List.setIfInBounds_toArray, List.set_cons_zero, List.set_cons_succ]
                    generalize (w5.setCell ⟨b5, 9, none⟩ (.slice (some ⟨g2, 0, none⟩) (kq + 1) cap2)) = w6 at HO6 HE6 HF6 HH6 HX6 HB6 c16 hHeld ⊢
                    have y0 : w6.cell? ⟨g2, kq * 10, none⟩ = some (.int .i64 0) := own_zero hl10 HO6.out 0 (by decide)
                    have y1 : w6.cell? ⟨g2, kq * 10 + 1, none⟩ = some (.int .i64 0) := own_zero hl10 HO6.out 1 (by decide)
                    have y2 : w6.cell? ⟨g2, kq * 10 + 2, none⟩ = some (.int .i64 0) := own_zero hl10 HO6.out 2 (by decide)
                    have y3 : w6.cell? ⟨g2, kq * 10 + 3, none⟩ = some (.int .i64 0) := own_zero hl10 HO6.out 3 (by decide)
                    have y4 : w6.cell? ⟨g2, kq * 10 + 4, none⟩ = some (.string ⟨#[]⟩) := own_zero hl10 HO6.out 4 (by decide)
                    have y5 : w6.cell? ⟨g2, kq * 10 + 5, none⟩ = some (.string ⟨#[]⟩) := own_zero hl10 HO6.out 5 (by decide)
                    have y6 : w6.cell? ⟨g2, kq * 10 + 6, none⟩ = some (.string ⟨#[]⟩) := own_zero hl10 HO6.out 6 (by decide)
                    have y7 : w6.cell? ⟨g2, kq * 10 + 7, none⟩ = some (.int .i64 0) := own_zero hl10 HO6.out 7 (by decide)
                    have y8 : w6.cell? ⟨g2, kq * 10 + 8, none⟩ = some (.int .i64 0) := own_zero hl10 HO6.out 8 (by decide)
                    have y9 : w6.cell? ⟨g2, kq * 10 + 9, none⟩ = some (.slice none 0 0) := own_zero hl10 HO6.out 9 (by decide)
                    have z0 : w6.frozen? ⟨g2, kq * 10, none⟩ = false := HO6.out.frozenAt _
                    have z1 : w6.frozen? ⟨g2, kq * 10 + 1, none⟩ = false := HO6.out.frozenAt _
                    have z2 : w6.frozen? ⟨g2, kq * 10 + 2, none⟩ = false := HO6.out.frozenAt _
                    have z3 : w6.frozen? ⟨g2, kq * 10 + 3, none⟩ = false := HO6.out.frozenAt _
                    have z4 : w6.frozen? ⟨g2, kq * 10 + 4, none⟩ = false := HO6.out.frozenAt _
                    have z5 : w6.frozen? ⟨g2, kq * 10 + 5, none⟩ = false := HO6.out.frozenAt _
                    have z6 : w6.frozen? ⟨g2, kq * 10 + 6, none⟩ = false := HO6.out.frozenAt _
                    have z7 : w6.frozen? ⟨g2, kq * 10 + 7, none⟩ = false := HO6.out.frozenAt _
                    have z8 : w6.frozen? ⟨g2, kq * 10 + 8, none⟩ = false := HO6.out.frozenAt _
                    have z9 : w6.frozen? ⟨g2, kq * 10 + 9, none⟩ = false := HO6.out.frozenAt _
                    have hpf : Fr (fun k => k = g2) w6 ((((((((((w6.setCell ⟨g2, kq * 10, none⟩ (.int .i64 x.kind)).setCell ⟨g2, kq * 10 + 1, none⟩ (.int .i64 x.op)).setCell ⟨g2, kq * 10 + 2, none⟩ (.int .i64 x.v.kind)).setCell ⟨g2, kq * 10 + 3, none⟩ (.int .i64 x.v.int)).setCell ⟨g2, kq * 10 + 4, none⟩ (.string ⟨x.v.text.toArray⟩)).setCell ⟨g2, kq * 10 + 5, none⟩ (.string ⟨x.table.toArray⟩)).setCell ⟨g2, kq * 10 + 6, none⟩ (.string ⟨x.name.toArray⟩)).setCell ⟨g2, kq * 10 + 7, none⟩ (.int .i64 x.col)).setCell ⟨g2, kq * 10 + 8, none⟩ (.int .i64 x.ty)).setCell ⟨g2, kq * 10 + 9, none⟩ (.slice As ms cs)) := put_fr _ _ _ _ _ _ _ _ _ _
                    have HO7 : Asd (((((((((((w6.setCell ⟨g2, kq * 10, none⟩ (.int .i64 x.kind)).setCell ⟨g2, kq * 10 + 1, none⟩ (.int .i64 x.op)).setCell ⟨g2, kq * 10 + 2, none⟩ (.int .i64 x.v.kind)).setCell ⟨g2, kq * 10 + 3, none⟩ (.int .i64 x.v.int)).setCell ⟨g2, kq * 10 + 4, none⟩ (.string ⟨x.v.text.toArray⟩)).setCell ⟨g2, kq * 10 + 5, none⟩ (.string ⟨x.table.toArray⟩)).setCell ⟨g2, kq * 10 + 6, none⟩ (.string ⟨x.name.toArray⟩)).setCell ⟨g2, kq * 10 + 7, none⟩ (.int .i64 x.col)).setCell ⟨g2, kq * 10 + 8, none⟩ (.int .i64 x.ty)).setCell ⟨g2, kq * 10 + 9, none⟩ (.slice As ms cs)).ownsRow w.heap.size 26 10 (.slice (some ⟨g2, 0, none⟩) (kq + 1) cap2) (kq + 1) (rowsC (ps ++ [((x, Value.slice As ms cs) : Ex × Value)]))) := Asd.mk (by rw [rowsC_snoc]; exact own_put hl10 HO6.out _ _ _ _ _ _ _ _ _ _)
                    have HE7 := Asd.mk (blk_fr HE6.out hpf (by show ¬ b5 = g2; have := HG2.out; have := HNB.out; omega))
                    have HF7 := Asd.mk (fr_newS HF6.out hpf (fun k h => .inr (by have h1 : k = g2 := h; have := HG2.out; omega)))
                    have HH7 := Asd.mk (fun p (hp : p ∈ ps) => held_frS (HH6.out p hp) hpf (fun g hg h => hg.2 h))
                    have HX7 := Asd.mk (held_frS HX6.out hpf (fun g hg h => hg.2 h))
                    have HB7 := Asd.mk (blk_fr HB6.out hpf (by show ¬ R = g2; have := HG2.out; have := HNB.out; omega))
                    have c17 := cell_frS hpf (by show ¬ b1 = g2; have := HG2.out; have := HNB.out; omega) c16
                    clear hpf
                    refine wpAnyH_ready (rs := [8]) (by kernel_rfl) (by simp) ?_
                    refine AllReadyH.cons (o := ({ dst := none, op := Op.store 26 (Operand.tmp 34) (Operand.tmp 30), type := 0, pos := "expr.go:263", after := #[{ on := 7, ground := Ground.data }, { on := 3, ground := Ground.data }, { on := 6, ground := Ground.chain }, { on := 0, ground := Ground.phase }, { on := 1, ground := Ground.phase }, { on := 2, ground := Ground.phase }, { on := 3, ground := Ground.phase }, { on := 4, ground := Ground.phase }, { on := 5, ground := Ground.phase }, { on := 6, ground := Ground.phase }, { on := 10, ground := Ground.gcOnly Departure.appendInPlace }], guard := none } : Oper)) rfl (fun K hK => ?_) AllReadyH.nil
                    go_simp
                    go_wp2_with fail
                    refine hK.out _ _ (c17) (fun hHeld => ?_)
                    clear hK K
                    try simp only [Act.put, List.setIfInBounds_toArray, List.set_cons_zero, List.set_cons_succ]
                    generalize ((((((((((w6.setCell ⟨g2, kq * 10, none⟩ (.int .i64 x.kind)).setCell ⟨g2, kq * 10 + 1, none⟩ (.int .i64 x.op)).setCell ⟨g2, kq * 10 + 2, none⟩ (.int .i64 x.v.kind)).setCell ⟨g2, kq * 10 + 3, none⟩ (.int .i64 x.v.int)).setCell ⟨g2, kq * 10 + 4, none⟩ (.string ⟨x.v.text.toArray⟩)).setCell ⟨g2, kq * 10 + 5, none⟩ (.string ⟨x.table.toArray⟩)).setCell ⟨g2, kq * 10 + 6, none⟩ (.string ⟨x.name.toArray⟩)).setCell ⟨g2, kq * 10 + 7, none⟩ (.int .i64 x.col)).setCell ⟨g2, kq * 10 + 8, none⟩ (.int .i64 x.ty)).setCell ⟨g2, kq * 10 + 9, none⟩ (.slice As ms cs)) = wz at HO7 HE7 HF7 HH7 HX7 HB7 c17 hHeld ⊢
                    have HG7 : Asd (Gath wz w.heap.size b5 R f (ps ++ [((x, Value.slice As ms cs) : Ex × Value)]) (kq + 1) (some ⟨g2, 0, none⟩) cap2) := Asd.mk ⟨HE7.out, HO7.out, by rw [List.length_append, HGDbc.out.len]; rfl, fun p hp => by
                      have hM : ∀ g, w.heap.size ≤ g ∧ g ≠ g2 → w.heap.size ≤ g ∧ (Value.slice (some ⟨g2, 0, none⟩) (kq + 1) cap2).ownBlock ≠ some g := fun g hg => ⟨hg.1, fun e => hg.2 (by simpa [Value.ownBlock] using e.symm)⟩
                      rcases List.mem_append.mp hp with hp | hp
                      · exact held_mono (HH7.out p hp) (fun g _ hg => hM g hg)
                      · simp only [List.mem_singleton] at hp
                        subst hp
                        exact held_mono HX7.out (fun g _ hg => hM g hg)⟩
                    have HR7 := Asd.mk (rdw_far HH.out HF7.out (by have := HNB.out; omega) HP5.out HE7.out HB7.out HJ.out)
                    refine wpAnyH_done (by kernel_rfl) ?_ _
                    go_wp2
                    go_roundw
                    case rel => exact ⟨(kq + 1), j, ps ++ [(x, .slice As ms cs)], some ⟨g2, 0, none⟩, cap2, by omega, by go_num, HF7, HR7, HG7, ⟨by rw [if_neg (by omega), HGN.out, List.map_append]; rfl⟩⟩
                    case measure => simp [intOf]; omega
            case gzs03 =>
              intro K hK
              go_simp
              refine (HPA.out wd q2 HRD.out).mono ?_
              rintro e wcDc ⟨hfc, hm⟩
              have HFDc : Asd (Fr (fun k => k = R ∨ k = b5) w wcDc) := Asd.mk (HFD.out.trans hfc (fun k h _ => h) (fun k h _ => .inl h))
              have HGDc := Asd.mk (HGD.out.frS hfc (by show ¬ b5 = R; have := HNB.out; omega) (fun g hg => by show ¬ g = R; have := HNB.out; omega))
              have c1Dc := fr_cell hfc HNB.out.2.1 c1D
              have HSZDc : Asd ((∀ g, (Value.slice A' kq c').ownBlock = some g → g < wd.heap.size) ∧ w.heap.size ≤ wd.heap.size) := Asd.mk ⟨fun g hg => (HGD.out.own.lt g hg).2, HFD.out.size⟩
              cases hfi : p.or q2 with
              | error er =>
                rw [hfi] at hm
                obtain ⟨N, rfl, hN⟩ := hm
                refine ⟨rfl, HFDc.out, ?_⟩
                rw [HERR.out er hfi]
                exact ⟨N, rfl, hN⟩
              | ok yy =>
              obtain ⟨x, j⟩ := yy
              rw [hfi] at hm
              obtain ⟨sx, rfl, hh, hr⟩ := hm
              obtain ⟨As, ms, cs, rfl⟩ := held_slice hh
              have HGN := Asd.mk (HGO.out x j hfi)
              have HXDc : Asd (Held (fun g => w.heap.size ≤ g ∧ (Value.slice A' kq c').ownBlock ≠ some g) wcDc x.args (.slice As ms cs)) := Asd.mk (held_mono hh (fun g _ hg => ⟨by have h1 : wd.heap.size ≤ g := hg; have := HSZDc.out.2; omega, fun e => by have h1 : wd.heap.size ≤ g := hg; have := HSZDc.out.1 g e; omega⟩))
              have HRDc := Asd.mk hr
              clear hfi hh hr hfc
              unfold exV
              go_wp2_with fail
              refine hK.out _ _ (c1Dc) (fun hHeld => ?_)
              clear hK K
              try simp only [Act.put, List.setIfInBounds_toArray, List.set_cons_zero, List.set_cons_succ]
              refine wpAnyH_ready (rs := [1, 5]) (by kernel_rfl) (by simp) ?_
              refine AllReadyH.cons (o := ({ dst := some 28, op := Op.load 24 (Operand.tmp 27), type := 24, pos := "expr.go:263", after := #[{ on := 0, ground := Ground.data }], guard := none } : Oper)) rfl ?gzs131 (AllReadyH.cons (o := ({ dst := some 32, op := Op.buildSlice 24 1 #[(0, Operand.const (Value.agg #[Value.int IntKind.i64 0, Value.int IntKind.i64 0, Value.int IntKind.i64 0, Value.int IntKind.i64 0, Value.string { data := #[] }, Value.string { data := #[] }, Value.string { data := #[] }, Value.int IntKind.i64 0, Value.int IntKind.i64 0, Value.slice none 0 0]))], type := 24, pos := "expr.go:263", after := #[], guard := none } : Oper)) rfl ?gzs135 AllReadyH.nil)
              case gzs131 =>
                have HEDc := HGDc.out.e
                have x9 := (ex_cells HGDc.out.e).2.2.2.2.2.2.2.2.2
                intro K hK
                go_simp
                go_wp2_with fail
                refine hK.out _ _ (c1Dc) (fun hHeld => ?_)
                clear hK K
                try simp only [Act.put, List.setIfInBounds_toArray, List.set_cons_zero, List.set_cons_succ]
                refine wpAnyH_take (i := 4) (oi := ({ dst := some 31, op := Op.call { callee := Callee.builtin Builtin.len, args := #[Operand.tmp 28], argTypes := #[24] }, type := 3, pos := "expr.go:263", after := #[{ on := 1, ground := Ground.data }], guard := none } : Oper)) (v := ?vzs13t4) rfl (by kernel_rfl) (by kernel_rfl) (by kernel_rfl) (fun _ _ _ h => h) (Or.inl ⟨by rfl, ?hzs13t4⟩) (by assumption) ?rzs13t4
                case hzs13t4 => (intro w hSw; (try dsimp only at hSw); go_simp; try (with_reducible rfl))
                try simp only [Act.put, List.setIfInBounds_toArray, List.set_cons_zero, List.set_cons_succ]
                refine wpAnyH_ready (rs := [5]) (by kernel_rfl) (by simp) ?_
                refine AllReadyH.cons (o := ({ dst := some 32, op := Op.buildSlice 24 1 #[(0, Operand.const (Value.agg #[Value.int IntKind.i64 0, Value.int IntKind.i64 0, Value.int IntKind.i64 0, Value.int IntKind.i64 0, Value.string { data := #[] }, Value.string { data := #[] }, Value.string { data := #[] }, Value.int IntKind.i64 0, Value.int IntKind.i64 0, Value.slice none 0 0]))], type := 24, pos := "expr.go:263", after := #[], guard := none } : Oper)) rfl ?gzs2315 AllReadyH.nil
                case gzs2315 =>
                  have hba := below_alloc (Below.refl _ wcDc) (.cells #[.int .i64 0, .int .i64 0, .int .i64 0, .int .i64 0, .string ⟨#[]⟩, .string ⟨#[]⟩, .string ⟨#[]⟩, .int .i64 0, .int .i64 0, .slice none 0 0] 26 (0, 0))
                  have HFDcb : Asd (Fr (fun k => k = R ∨ k = b5) w (wcDc.alloc (.cells #[.int .i64 0, .int .i64 0, .int .i64 0, .int .i64 0, .string ⟨#[]⟩, .string ⟨#[]⟩, .string ⟨#[]⟩, .int .i64 0, .int .i64 0, .slice none 0 0] 26 (0, 0)))) := Asd.mk (HFDc.out.trans (Fr.of_below (S := fun _ => False) hba) (fun k h _ => h) (fun k h _ => h.elim))
                  have HGDcb := Asd.mk (HGDc.out.frS (Fr.of_below (S := fun _ => False) hba) (fun h => h) (fun _ _ h => h))
                  have HRDcb := Asd.mk (HRDc.out.below hba)
                  have c1Dcb := (hba.cell (World.block_lt_of_cell? wcDc _ c1Dc)).trans c1Dc
                  have HZDcb := Asd.mk (blk_new wcDc (.cells #[.int .i64 0, .int .i64 0, .int .i64 0, .int .i64 0, .string ⟨#[]⟩, .string ⟨#[]⟩, .string ⟨#[]⟩, .int .i64 0, .int .i64 0, .slice none 0 0] 26 (0, 0)))
                  have HBZ : Asd (w.heap.size ≤ wcDc.heap.size) := Asd.mk HFDc.out.size
                  have HXDcb := Asd.mk (held_below HXDc.out hba)
                  have HBO : Asd ((Value.slice A' kq c').ownBlock ≠ some wcDc.heap.size) := Asd.mk (fun e => by have := (HGDc.out.own.lt _ e).2; omega)
                  clear hba
                  intro K hK
                  go_simp
                  go_wp2_with fail
                  refine hK.out _ _ (c1Dcb) (fun hHeld => ?_)
                  clear hK K
                  try simp only [Act.put, List.setIfInBounds_toArray, List.set_cons_zero, List.set_cons_succ]
                  generalize hbz : wcDc.heap.size = bz at HZDcb HBZ HBO ⊢
                  generalize wcDc.alloc (.cells #[.int .i64 0, .int .i64 0, .int .i64 0, .int .i64 0, .string ⟨#[]⟩, .string ⟨#[]⟩, .string ⟨#[]⟩, .int .i64 0, .int .i64 0, .slice none 0 0] 26 (0, 0)) = wbDcb at HFDcb HGDcb HRDcb c1Dcb HZDcb HXDcb hHeld ⊢
                  clear hbz
                  obtain ⟨iE, zE, hiE, hzE, hsE, hbE, hcE⟩ := rowE.hi
                  refine wpAnyH_ready (rs := [6]) (by kernel_rfl) (by simp) ?_
                  refine AllReadyH.cons (o := ({ dst := some 33, op := Op.call { callee := Callee.builtin Builtin.append, args := #[Operand.tmp 28, Operand.tmp 32], argTypes := #[24, 24] }, type := 24, pos := "expr.go:263", after := #[{ on := 1, ground := Ground.data }, { on := 5, ground := Ground.data }, { on := 3, ground := Ground.chain }, { on := 0, ground := Ground.phase }, { on := 1, ground := Ground.phase }, { on := 2, ground := Ground.phase }, { on := 3, ground := Ground.phase }, { on := 4, ground := Ground.phase }, { on := 5, ground := Ground.phase }], guard := none } : Oper)) rfl (fun K hK => ?_) AllReadyH.nil
                  refine step_append_lies wbDcb rfl (.tmp 28) (.tmp 32) _ rfl w.heap.size 26 iE zE 10 120 rowE.ht hiE hzE hsE hbE hcE rowE.pos _ kq (rowsC ps) rfl HGDcb.out.own ⟨bz, 0, none⟩ 1 1 zRow rfl rfl (World.news_of_block HZDcb.out) (by decide) (by omega) (by unfold maxLen; omega) (by omega) HFDcb.out.size wbDcb.heap.size rfl ?_
                  intro g2 cap2 w5 ho hg hor hlt5
                  clear hiE hzE hsE hbE hcE
                  have hl10 : (rowsC ps).length = kq * 10 := by rw [rowsC_len, HGDcb.out.len]
                  have hgr := Fr.of_grown (S := fun k => (Value.slice A' kq c').ownBlock = some k) hg (fun k h => h)
                  have HO5 := Asd.mk ho
                  have HG2 : Asd (w.heap.size ≤ g2) := Asd.mk (by rcases hor with e | e; exact (HGDcb.out.own.lt g2 e).1; rw [e]; exact HFDcb.out.size)
                  have hne : ∀ g, g < wbDcb.heap.size → (Value.slice A' kq c').ownBlock ≠ some g → g ≠ g2 := fun g h1 h2 e => by
                    rcases hor with e2 | e2
                    · rw [e] at h2; exact h2 e2
                    · omega
                  have hown : ∀ b, b < w.heap.size → ¬ (Value.slice A' kq c').ownBlock = some b := fun b hb e => by have := (HGDcb.out.own.lt b e).1; omega
                  have HE5 := Asd.mk (blk_fr HGDcb.out.e hgr (hown b5 (by have := HNB.out; omega)))
                  have HF5 : Asd (Fr (fun k => k = R ∨ k = b5) w w5) := Asd.mk (fr_newS HFDcb.out hgr (fun k h => .inr (HGDcb.out.own.lt k h).1))
                  have HH5 : Asd (∀ p ∈ ps, Held (fun g => w.heap.size ≤ g ∧ g ≠ g2) w5 p.1.args p.2) := Asd.mk (fun p hp => held_mono (held_frS (held_mono (HGDcb.out.held p hp) (fun g h1 h2 => (⟨h2.1, h2.2, hne g h1 h2.2⟩ : w.heap.size ≤ g ∧ (Value.slice A' kq c').ownBlock ≠ some g ∧ g ≠ g2))) hgr (fun g hg h => hg.2.1 h)) (fun g _ hg => ⟨hg.1, hg.2.2⟩))
                  have HX5 : Asd (Held (fun g => w.heap.size ≤ g ∧ g ≠ g2) w5 x.args (.slice As ms cs)) := Asd.mk (held_mono (held_frS (held_mono HXDcb.out (fun g h1 h2 => (⟨h2.1, h2.2, hne g h1 h2.2⟩ : w.heap.size ≤ g ∧ (Value.slice A' kq c').ownBlock ≠ some g ∧ g ≠ g2))) hgr (fun g hg h => hg.2.1 h)) (fun g _ hg => ⟨hg.1, hg.2.2⟩))
                  have HB5 := Asd.mk (blk_fr HRDcb.out.blk hgr (hown R (by have := HNB.out; omega)))
                  have c15 := cell_frS hgr (hown b1 (by have := HNB.out; omega)) c1Dcb
                  have HJ := Asd.mk HRDcb.out.le
                  clear ho hg hor hlt5 hgr hne hown
                  refine hK.out _ _ (c15) (fun hHeld => ?_)
                  clear hK K
                  try simp only [Act.put, List.setIfInBounds_toArray, List.set_cons_zero, List.set_cons_succ]
                  have hidx1 : (0 : Int) ≤ (kq : Int) := by omega
                  have hidx2 : (kq : Int) < (kq : Int) + 1 := by omega
                  refine wpAnyH_take (i := 7) (oi := ({ dst := some 34, op := Op.indexAddr 24 (Operand.tmp 33) (Operand.tmp 31), type := 0, pos := "expr.go:263", after := #[{ on := 6, ground := Ground.data }, { on := 4, ground := Ground.data }, { on := 0, ground := Ground.phase }, { on := 1, ground := Ground.phase }, { on := 2, ground := Ground.phase }, { on := 3, ground := Ground.phase }, { on := 4, ground := Ground.phase }, { on := 5, ground := Ground.phase }, { on := 6, ground := Ground.phase }, { on := 10, ground := Ground.gcOnly Departure.appendInPlace }], guard := none } : Oper)) (v := ?vus3157) rfl (by kernel_rfl) (by kernel_rfl) (by kernel_rfl) (fun _ _ _ h => h) (Or.inl ⟨by rfl, ?hus3157⟩) (by assumption) ?rus3157
                  case hus3157 => (intro w hSw; (try dsimp only at hSw); go_simp; try (with_reducible rfl))
                  try simp only [Act.put, List.setIfInBounds_toArray, List.set_cons_zero, List.set_cons_succ]
                  refine wpAnyH_take (i := 9) (oi := ({ dst := some 35, op := Op.fieldAddr 26 (Operand.tmp 2) 7, type := 0, pos := "expr.go:263", after := #[{ on := 0, ground := Ground.phase }, { on := 1, ground := Ground.phase }, { on := 2, ground := Ground.phase }, { on := 3, ground := Ground.phase }, { on := 4, ground := Ground.phase }, { on := 5, ground := Ground.phase }, { on := 6, ground := Ground.phase }, { on := 7, ground := Ground.textOnly Departure.appendInPlace }, { on := 8, ground := Ground.textOnly Departure.appendInPlace }], guard := none } : Oper)) (v := ?vws3159) rfl (by kernel_rfl) (by kernel_rfl) (by kernel_rfl) (fun _ _ _ h => h) (Or.inl ⟨by rfl, ?hws3159⟩) (by assumption) ?rws3159
                  case hws3159 => (intro w hSw; (try dsimp only at hSw); go_simp; try (with_reducible rfl))
                  try simp only [Act.put, List.setIfInBounds_toArray, List.set_cons_zero, List.set_cons_succ]
                  refine wpAnyH_ready (rs := [8, 10]) (by kernel_rfl) (by simp) ?_
                  refine AllReadyH.cons (o := ({ dst := none, op := Op.store 26 (Operand.tmp 34) (Operand.tmp 30), type := 0, pos := "expr.go:263", after := #[{ on := 7, ground := Ground.data }, { on := 3, ground := Ground.data }, { on := 6, ground := Ground.chain }, { on := 0, ground := Ground.phase }, { on := 1, ground := Ground.phase }, { on := 2, ground := Ground.phase }, { on := 3, ground := Ground.phase }, { on := 4, ground := Ground.phase }, { on := 5, ground := Ground.phase }, { on := 6, ground := Ground.phase }, { on := 10, ground := Ground.gcOnly Departure.appendInPlace }], guard := none } : Oper)) rfl ?ks315a (AllReadyH.cons (o := ({ dst := none, op := Op.store 24 (Operand.tmp 35) (Operand.tmp 33), type := 0, pos := "expr.go:263", after := #[{ on := 9, ground := Ground.data }, { on := 6, ground := Ground.data }, { on := 6, ground := Ground.chain }, { on := 8, ground := Ground.textOnly Departure.appendInPlace }, { on := 0, ground := Ground.phase }, { on := 1, ground := Ground.phase }, { on := 2, ground := Ground.phase }, { on := 3, ground := Ground.phase }, { on := 4, ground := Ground.phase }, { on := 5, ground := Ground.phase }, { on := 6, ground := Ground.phase }, { on := 7, ground := Ground.textOnly Departure.appendInPlace }, { on := 8, ground := Ground.textOnly Departure.appendInPlace }], guard := none } : Oper)) rfl ?ks315b AllReadyH.nil)
                  case ks315a =>
                    have y0 : w5.cell? ⟨g2, kq * 10, none⟩ = some (.int .i64 0) := own_zero hl10 HO5.out 0 (by decide)
                    have y1 : w5.cell? ⟨g2, kq * 10 + 1, none⟩ = some (.int .i64 0) := own_zero hl10 HO5.out 1 (by decide)
                    have y2 : w5.cell? ⟨g2, kq * 10 + 2, none⟩ = some (.int .i64 0) := own_zero hl10 HO5.out 2 (by decide)
                    have y3 : w5.cell? ⟨g2, kq * 10 + 3, none⟩ = some (.int .i64 0) := own_zero hl10 HO5.out 3 (by decide)
                    have y4 : w5.cell? ⟨g2, kq * 10 + 4, none⟩ = some (.string ⟨#[]⟩) := own_zero hl10 HO5.out 4 (by decide)
                    have y5 : w5.cell? ⟨g2, kq * 10 + 5, none⟩ = some (.string ⟨#[]⟩) := own_zero hl10 HO5.out 5 (by decide)
                    have y6 : w5.cell? ⟨g2, kq * 10 + 6, none⟩ = some (.string ⟨#[]⟩) := own_zero hl10 HO5.out 6 (by decide)
                    have y7 : w5.cell? ⟨g2, kq * 10 + 7, none⟩ = some (.int .i64 0) := own_zero hl10 HO5.out 7 (by decide)
                    have y8 : w5.cell? ⟨g2, kq * 10 + 8, none⟩ = some (.int .i64 0) := own_zero hl10 HO5.out 8 (by decide)
                    have y9 : w5.cell? ⟨g2, kq * 10 + 9, none⟩ = some (.slice none 0 0) := own_zero hl10 HO5.out 9 (by decide)
                    have z0 : w5.frozen? ⟨g2, kq * 10, none⟩ = false := HO5.out.frozenAt _
                    have z1 : w5.frozen? ⟨g2, kq * 10 + 1, none⟩ = false := HO5.out.frozenAt _
                    have z2 : w5.frozen? ⟨g2, kq * 10 + 2, none⟩ = false := HO5.out.frozenAt _
                    have z3 : w5.frozen? ⟨g2, kq * 10 + 3, none⟩ = false := HO5.out.frozenAt _
                    have z4 : w5.frozen? ⟨g2, kq * 10 + 4, none⟩ = false := HO5.out.frozenAt _
                    have z5 : w5.frozen? ⟨g2, kq * 10 + 5, none⟩ = false := HO5.out.frozenAt _
                    have z6 : w5.frozen? ⟨g2, kq * 10 + 6, none⟩ = false := HO5.out.frozenAt _
                    have z7 : w5.frozen? ⟨g2, kq * 10 + 7, none⟩ = false := HO5.out.frozenAt _
                    have z8 : w5.frozen? ⟨g2, kq * 10 + 8, none⟩ = false := HO5.out.frozenAt _
                    have z9 : w5.frozen? ⟨g2, kq * 10 + 9, none⟩ = false := HO5.out.frozenAt _
                    have hpf : Fr (fun k => k = g2) w5 ((((((((((w5.setCell ⟨g2, kq * 10, none⟩ (.int .i64 x.kind)).setCell ⟨g2, kq * 10 + 1, none⟩ (.int .i64 x.op)).setCell ⟨g2, kq * 10 + 2, none⟩ (.int .i64 x.v.kind)).setCell ⟨g2, kq * 10 + 3, none⟩ (.int .i64 x.v.int)).setCell ⟨g2, kq * 10 + 4, none⟩ (.string ⟨x.v.text.toArray⟩)).setCell ⟨g2, kq * 10 + 5, none⟩ (.string ⟨x.table.toArray⟩)).setCell ⟨g2, kq * 10 + 6, none⟩ (.string ⟨x.name.toArray⟩)).setCell ⟨g2, kq * 10 + 7, none⟩ (.int .i64 x.col)).setCell ⟨g2, kq * 10 + 8, none⟩ (.int .i64 x.ty)).setCell ⟨g2, kq * 10 + 9, none⟩ (.slice As ms cs)) := put_fr _ _ _ _ _ _ _ _ _ _
                    have HO6 : Asd (((((((((((w5.setCell ⟨g2, kq * 10, none⟩ (.int .i64 x.kind)).setCell ⟨g2, kq * 10 + 1, none⟩ (.int .i64 x.op)).setCell ⟨g2, kq * 10 + 2, none⟩ (.int .i64 x.v.kind)).setCell ⟨g2, kq * 10 + 3, none⟩ (.int .i64 x.v.int)).setCell ⟨g2, kq * 10 + 4, none⟩ (.string ⟨x.v.text.toArray⟩)).setCell ⟨g2, kq * 10 + 5, none⟩ (.string ⟨x.table.toArray⟩)).setCell ⟨g2, kq * 10 + 6, none⟩ (.string ⟨x.name.toArray⟩)).setCell ⟨g2, kq * 10 + 7, none⟩ (.int .i64 x.col)).setCell ⟨g2, kq * 10 + 8, none⟩ (.int .i64 x.ty)).setCell ⟨g2, kq * 10 + 9, none⟩ (.slice As ms cs)).ownsRow w.heap.size 26 10 (.slice (some ⟨g2, 0, none⟩) (kq + 1) cap2) (kq + 1) (rowsC (ps ++ [((x, Value.slice As ms cs) : Ex × Value)]))) := Asd.mk (by rw [rowsC_snoc]; exact own_put hl10 HO5.out _ _ _ _ _ _ _ _ _ _)
                    have HE6 := Asd.mk (blk_fr HE5.out hpf (by show ¬ b5 = g2; have := HG2.out; have := HNB.out; omega))
                    have HF6 := Asd.mk (fr_newS HF5.out hpf (fun k h => .inr (by have h1 : k = g2 := h; have := HG2.out; omega)))
                    have HH6 := Asd.mk (fun p (hp : p ∈ ps) => held_frS (HH5.out p hp) hpf (fun g hg h => hg.2 h))
                    have HX6 := Asd.mk (held_frS HX5.out hpf (fun g hg h => hg.2 h))
                    have HB6 := Asd.mk (blk_fr HB5.out hpf (by show ¬ R = g2; have := HG2.out; have := HNB.out; omega))
                    have c16 := cell_frS hpf (by show ¬ b1 = g2; have := HG2.out; have := HNB.out; omega) c15
                    clear hpf
                    intro K hK
                    go_simp
                    go_wp2_with fail
                    refine hK.out _ _ (c16) (fun hHeld => ?_)
                    clear hK K
                    try simp only [Act.put, List.setIfInBounds_toArray, List.set_cons_zero, List.set_cons_succ]
                    generalize ((((((((((w5.setCell ⟨g2, kq * 10, none⟩ (.int .i64 x.kind)).setCell ⟨g2, kq * 10 + 1, none⟩ (.int .i64 x.op)).setCell ⟨g2, kq * 10 + 2, none⟩ (.int .i64 x.v.kind)).setCell ⟨g2, kq * 10 + 3, none⟩ (.int .i64 x.v.int)).setCell ⟨g2, kq * 10 + 4, none⟩ (.string ⟨x.v.text.toArray⟩)).setCell ⟨g2, kq * 10 + 5, none⟩ (.string ⟨x.table.toArray⟩)).setCell ⟨g2, kq * 10 + 6, none⟩ (.string ⟨x.name.toArray⟩)).setCell ⟨g2, kq * 10 + 7, none⟩ (.int .i64 x.col)).setCell ⟨g2, kq * 10 + 8, none⟩ (.int .i64 x.ty)).setCell ⟨g2, kq * 10 + 9, none⟩ (.slice As ms cs)) = w6 at HO6 HE6 HF6 HH6 HX6 HB6 c16 hHeld ⊢
                    have x9b := (ex_cells HE6.out).2.2.2.2.2.2.2.2.2
                    have z9b := blk_frozen HE6.out 9
                    have hsf := Fr.setCell (S := fun k => k = b5) (Fr.refl _ w6) (p := ⟨b5, 9, none⟩) rfl (.slice (some ⟨g2, 0, none⟩) (kq + 1) cap2)
                    have HE7 : Asd ((w6.setCell ⟨b5, 9, none⟩ (.slice (some ⟨g2, 0, none⟩) (kq + 1) cap2)).heap[b5]? = some (.cells (exC (callE f.1 f.2.1 ((ps ++ [((x, Value.slice As ms cs) : Ex × Value)]).map (fun z => z.1))) (.slice (some ⟨g2, 0, none⟩) (kq + 1) cap2)).toArray 26 (0, 0))) := Asd.mk (blk_set9 HE6.out _ rfl)
                    have HO7 := Asd.mk (own_frS HO6.out hsf (fun g h e => by have h1 : g = b5 := e; have := HNB.out; omega))
                    have HF7 := Asd.mk (fr_newS HF6.out hsf (fun k h => .inl (.inr h)))
                    have hS : ∀ g, w.heap.size ≤ g ∧ g ≠ g2 → ¬ g = b5 := fun g hg e => by have := HNB.out; omega
                    have HH7 := Asd.mk (fun p (hp : p ∈ ps) => held_frS (HH6.out p hp) hsf hS)
                    have HX7 := Asd.mk (held_frS HX6.out hsf hS)
                    have HB7 := Asd.mk (blk_fr HB6.out hsf (by show ¬ R = b5; have := HNB.out; omega))
                    have c17 := cell_frS hsf (by show ¬ b1 = b5; have := HNB.out; omega) c16
                    clear hsf hS
                    refine wpAnyH_ready (rs := [10]) (by kernel_rfl) (by simp) ?_
                    refine AllReadyH.cons (o := ({ dst := none, op := Op.store 24 (Operand.tmp 35) (Operand.tmp 33), type := 0, pos := "expr.go:263", after := #[{ on := 9, ground := Ground.data }, { on := 6, ground := Ground.data }, { on := 6, ground := Ground.chain }, { on := 8, ground := Ground.textOnly Departure.appendInPlace }, { on := 0, ground := Ground.phase }, { on := 1, ground := Ground.phase }, { on := 2, ground := Ground.phase }, { on := 3, ground := Ground.phase }, { on := 4, ground := Ground.phase }, { on := 5, ground := Ground.phase }, { on := 6, ground := Ground.phase }, { on := 7, ground := Ground.textOnly Departure.appendInPlace }, { on := 8, ground := Ground.textOnly Departure.appendInPlace }], guard := none } : Oper)) rfl (fun K hK => ?_) AllReadyH.nil
                    go_simp
                    go_wp2_with fail
                    refine hK.out _ _ (c17) (fun hHeld => ?_)
                    clear hK K
                    try simp only [Act.put, List.setIfInBounds_toArray, List.set_cons_zero, List.set_cons_succ]
                    generalize (w6.setCell ⟨b5, 9, none⟩ (.slice (some ⟨g2, 0, none⟩) (kq + 1) cap2)) = wz at HO7 HE7 HF7 HH7 HX7 HB7 c17 hHeld ⊢
                    have HG7 : Asd (Gath wz w.heap.size b5 R f (ps ++ [((x, Value.slice As ms cs) : Ex × Value)]) (kq + 1) (some ⟨g2, 0, none⟩) cap2) := Asd.mk ⟨HE7.out, HO7.out, by rw [List.length_append, HGDcb.out.len]; rfl, fun p hp => by
                      have hM : ∀ g, w.heap.size ≤ g ∧ g ≠ g2 → w.heap.size ≤ g ∧ (Value.slice (some ⟨g2, 0, none⟩) (kq + 1) cap2).ownBlock ≠ some g := fun g hg => ⟨hg.1, fun e => hg.2 (by simpa [Value.ownBlock] using e.symm)⟩
                      rcases List.mem_append.mp hp with hp | hp
                      · exact held_mono (HH7.out p hp) (fun g _ hg => hM g hg)
                      · simp only [List.mem_singleton] at hp
                        subst hp
                        exact held_mono HX7.out (fun g _ hg => hM g hg)⟩
                    have HR7 := Asd.mk (rdw_far HH.out HF7.out (by have := HNB.out; omega) HP5.out HE7.out HB7.out HJ.out)
                    refine wpAnyH_done (by kernel_rfl) ?_ _
                    go_wp2
                    go_roundw
                    case rel => exact ⟨(kq + 1), j, ps ++ [(x, .slice As ms cs)], some ⟨g2, 0, none⟩, cap2, by omega, by go_num, HF7, HR7, HG7, ⟨by rw [if_neg (by omega), HGN.out, List.map_append]; rfl⟩⟩
                    case measure => simp [intOf]; omega
                  case ks315b =>
                    have x9b := (ex_cells HE5.out).2.2.2.2.2.2.2.2.2
                    have z9b := blk_frozen HE5.out 9
                    have hsf := Fr.setCell (S := fun k => k = b5) (Fr.refl _ w5) (p := ⟨b5, 9, none⟩) rfl (.slice (some ⟨g2, 0, none⟩) (kq + 1) cap2)
                    have HE6 : Asd ((w5.setCell ⟨b5, 9, none⟩ (.slice (some ⟨g2, 0, none⟩) (kq + 1) cap2)).heap[b5]? = some (.cells (exC (callE f.1 f.2.1 ((ps ++ [((x, Value.slice As ms cs) : Ex × Value)]).map (fun z => z.1))) (.slice (some ⟨g2, 0, none⟩) (kq + 1) cap2)).toArray 26 (0, 0))) := Asd.mk (blk_set9 HE5.out _ rfl)
                    have HO6 := Asd.mk (own_frS HO5.out hsf (fun g h e => by have h1 : g = b5 := e; have := HNB.out; omega))
                    have HF6 := Asd.mk (fr_newS HF5.out hsf (fun k h => .inl (.inr h)))
                    have hS : ∀ g, w.heap.size ≤ g ∧ g ≠ g2 → ¬ g = b5 := fun g hg e => by have := HNB.out; omega
                    have HH6 := Asd.mk (fun p (hp : p ∈ ps) => held_frS (HH5.out p hp) hsf hS)
                    have HX6 := Asd.mk (held_frS HX5.out hsf hS)
                    have HB6 := Asd.mk (blk_fr HB5.out hsf (by show ¬ R = b5; have := HNB.out; omega))
                    have c16 := cell_frS hsf (by show ¬ b1 = b5; have := HNB.out; omega) c15
                    clear hsf hS
                    intro K hK
                    go_simp
                    go_wp2_with fail
                    refine hK.out _ _ (c16) (fun hHeld => ?_)
                    clear hK K
                    try simp only [Act.put, List.setIfInBounds_toArray, List.set_cons_zero, List.set_cons_succ]
                    generalize (w5.setCell ⟨b5, 9, none⟩ (.slice (some ⟨g2, 0, none⟩) (kq + 1) cap2)) = w6 at HO6 HE6 HF6 HH6 HX6 HB6 c16 hHeld ⊢
                    have y0 : w6.cell? ⟨g2, kq * 10, none⟩ = some (.int .i64 0) := own_zero hl10 HO6.out 0 (by decide)
                    have y1 : w6.cell? ⟨g2, kq * 10 + 1, none⟩ = some (.int .i64 0) := own_zero hl10 HO6.out 1 (by decide)
                    have y2 : w6.cell? ⟨g2, kq * 10 + 2, none⟩ = some (.int .i64 0) := own_zero hl10 HO6.out 2 (by decide)
                    have y3 : w6.cell? ⟨g2, kq * 10 + 3, none⟩ = some (.int .i64 0) := own_zero hl10 HO6.out 3 (by decide)
                    have y4 : w6.cell? ⟨g2, kq * 10 + 4, none⟩ = some (.string ⟨#[]⟩) := own_zero hl10 HO6.out 4 (by decide)
                    have y5 : w6.cell? ⟨g2, kq * 10 + 5, none⟩ = some (.string ⟨#[]⟩) := own_zero hl10 HO6.out 5 (by decide)
                    have y6 : w6.cell? ⟨g2, kq * 10 + 6, none⟩ = some (.string ⟨#[]⟩) := own_zero hl10 HO6.out 6 (by decide)
                    have y7 : w6.cell? ⟨g2, kq * 10 + 7, none⟩ = some (.int .i64 0) := own_zero hl10 HO6.out 7 (by decide)
                    have y8 : w6.cell? ⟨g2, kq * 10 + 8, none⟩ = some (.int .i64 0) := own_zero hl10 HO6.out 8 (by decide)
                    have y9 : w6.cell? ⟨g2, kq * 10 + 9, none⟩ = some (.slice none 0 0) := own_zero hl10 HO6.out 9 (by decide)
                    have z0 : w6.frozen? ⟨g2, kq * 10, none⟩ = false := HO6.out.frozenAt _
                    have z1 : w6.frozen? ⟨g2, kq * 10 + 1, none⟩ = false := HO6.out.frozenAt _
                    have z2 : w6.frozen? ⟨g2, kq * 10 + 2, none⟩ = false := HO6.out.frozenAt _
                    have z3 : w6.frozen? ⟨g2, kq * 10 + 3, none⟩ = false := HO6.out.frozenAt _
                    have z4 : w6.frozen? ⟨g2, kq * 10 + 4, none⟩ = false := HO6.out.frozenAt _
                    have z5 : w6.frozen? ⟨g2, kq * 10 + 5, none⟩ = false := HO6.out.frozenAt _
                    have z6 : w6.frozen? ⟨g2, kq * 10 + 6, none⟩ = false := HO6.out.frozenAt _
                    have z7 : w6.frozen? ⟨g2, kq * 10 + 7, none⟩ = false := HO6.out.frozenAt _
                    have z8 : w6.frozen? ⟨g2, kq * 10 + 8, none⟩ = false := HO6.out.frozenAt _
                    have z9 : w6.frozen? ⟨g2, kq * 10 + 9, none⟩ = false := HO6.out.frozenAt _
                    have hpf : Fr (fun k => k = g2) w6 ((((((((((w6.setCell ⟨g2, kq * 10, none⟩ (.int .i64 x.kind)).setCell ⟨g2, kq * 10 + 1, none⟩ (.int .i64 x.op)).setCell ⟨g2, kq * 10 + 2, none⟩ (.int .i64 x.v.kind)).setCell ⟨g2, kq * 10 + 3, none⟩ (.int .i64 x.v.int)).setCell ⟨g2, kq * 10 + 4, none⟩ (.string ⟨x.v.text.toArray⟩)).setCell ⟨g2, kq * 10 + 5, none⟩ (.string ⟨x.table.toArray⟩)).setCell ⟨g2, kq * 10 + 6, none⟩ (.string ⟨x.name.toArray⟩)).setCell ⟨g2, kq * 10 + 7, none⟩ (.int .i64 x.col)).setCell ⟨g2, kq * 10 + 8, none⟩ (.int .i64 x.ty)).setCell ⟨g2, kq * 10 + 9, none⟩ (.slice As ms cs)) := put_fr _ _ _ _ _ _ _ _ _ _
                    have HO7 : Asd (((((((((((w6.setCell ⟨g2, kq * 10, none⟩ (.int .i64 x.kind)).setCell ⟨g2, kq * 10 + 1, none⟩ (.int .i64 x.op)).setCell ⟨g2, kq * 10 + 2, none⟩ (.int .i64 x.v.kind)).setCell ⟨g2, kq * 10 + 3, none⟩ (.int .i64 x.v.int)).setCell ⟨g2, kq * 10 + 4, none⟩ (.string ⟨x.v.text.toArray⟩)).setCell ⟨g2, kq * 10 + 5, none⟩ (.string ⟨x.table.toArray⟩)).setCell ⟨g2, kq * 10 + 6, none⟩ (.string ⟨x.name.toArray⟩)).setCell ⟨g2, kq * 10 + 7, none⟩ (.int .i64 x.col)).setCell ⟨g2, kq * 10 + 8, none⟩ (.int .i64 x.ty)).setCell ⟨g2, kq * 10 + 9, none⟩ (.slice As ms cs)).ownsRow w.heap.size 26 10 (.slice (some ⟨g2, 0, none⟩) (kq + 1) cap2) (kq + 1) (rowsC (ps ++ [((x, Value.slice As ms cs) : Ex × Value)]))) := Asd.mk (by rw [rowsC_snoc]; exact own_put hl10 HO6.out _ _ _ _ _ _ _ _ _ _)
                    have HE7 := Asd.mk (blk_fr HE6.out hpf (by show ¬ b5 = g2; have := HG2.out; have := HNB.out; omega))
                    have HF7 := Asd.mk (fr_newS HF6.out hpf (fun k h => .inr (by have h1 : k = g2 := h; have := HG2.out; omega)))
                    have HH7 := Asd.mk (fun p (hp : p ∈ ps) => held_frS (HH6.out p hp) hpf (fun g hg h => hg.2 h))
                    have HX7 := Asd.mk (held_frS HX6.out hpf (fun g hg h => hg.2 h))
                    have HB7 := Asd.mk (blk_fr HB6.out hpf (by show ¬ R = g2; have := HG2.out; have := HNB.out; omega))
                    have c17 := cell_frS hpf (by show ¬ b1 = g2; have := HG2.out; have := HNB.out; omega) c16
                    clear hpf
                    refine wpAnyH_ready (rs := [8]) (by kernel_rfl) (by simp) ?_
                    refine AllReadyH.cons (o := ({ dst := none, op := Op.store 26 (Operand.tmp 34) (Operand.tmp 30), type := 0, pos := "expr.go:263", after := #[{ on := 7, ground := Ground.data }, { on := 3, ground := Ground.data }, { on := 6, ground := Ground.chain }, { on := 0, ground := Ground.phase }, { on := 1, ground := Ground.phase }, { on := 2, ground := Ground.phase }, { on := 3, ground := Ground.phase }, { on := 4, ground := Ground.phase }, { on := 5, ground := Ground.phase }, { on := 6, ground := Ground.phase }, { on := 10, ground := Ground.gcOnly Departure.appendInPlace }], guard := none } : Oper)) rfl (fun K hK => ?_) AllReadyH.nil
                    go_simp
                    go_wp2_with fail
                    refine hK.out _ _ (c17) (fun hHeld => ?_)
                    clear hK K
                    try simp only [Act.put, List.setIfInBounds_toArray, List.set_cons_zero, List.set_cons_succ]
                    generalize ((((((((((w6.setCell ⟨g2, kq * 10, none⟩ (.int .i64 x.kind)).setCell ⟨g2, kq * 10 + 1, none⟩ (.int .i64 x.op)).setCell ⟨g2, kq * 10 + 2, none⟩ (.int .i64 x.v.kind)).setCell ⟨g2, kq * 10 + 3, none⟩ (.int .i64 x.v.int)).setCell ⟨g2, kq * 10 + 4, none⟩ (.string ⟨x.v.text.toArray⟩)).setCell ⟨g2, kq * 10 + 5, none⟩ (.string ⟨x.table.toArray⟩)).setCell ⟨g2, kq * 10 + 6, none⟩ (.string ⟨x.name.toArray⟩)).setCell ⟨g2, kq * 10 + 7, none⟩ (.int .i64 x.col)).setCell ⟨g2, kq * 10 + 8, none⟩ (.int .i64 x.ty)).setCell ⟨g2, kq * 10 + 9, none⟩ (.slice As ms cs)) = wz at HO7 HE7 HF7 HH7 HX7 HB7 c17 hHeld ⊢
                    have HG7 : Asd (Gath wz w.heap.size b5 R f (ps ++ [((x, Value.slice As ms cs) : Ex × Value)]) (kq + 1) (some ⟨g2, 0, none⟩) cap2) := Asd.mk ⟨HE7.out, HO7.out, by rw [List.length_append, HGDcb.out.len]; rfl, fun p hp => by
                      have hM : ∀ g, w.heap.size ≤ g ∧ g ≠ g2 → w.heap.size ≤ g ∧ (Value.slice (some ⟨g2, 0, none⟩) (kq + 1) cap2).ownBlock ≠ some g := fun g hg => ⟨hg.1, fun e => hg.2 (by simpa [Value.ownBlock] using e.symm)⟩
                      rcases List.mem_append.mp hp with hp | hp
                      · exact held_mono (HH7.out p hp) (fun g _ hg => hM g hg)
                      · simp only [List.mem_singleton] at hp
                        subst hp
                        exact held_mono HX7.out (fun g _ hg => hM g hg)⟩
                    have HR7 := Asd.mk (rdw_far HH.out HF7.out (by have := HNB.out; omega) HP5.out HE7.out HB7.out HJ.out)
                    refine wpAnyH_done (by kernel_rfl) ?_ _
                    go_wp2
                    go_roundw
                    case rel => exact ⟨(kq + 1), j, ps ++ [(x, .slice As ms cs)], some ⟨g2, 0, none⟩, cap2, by omega, by go_num, HF7, HR7, HG7, ⟨by rw [if_neg (by omega), HGN.out, List.map_append]; rfl⟩⟩
                    case measure => simp [intOf]; omega
              case gzs135 =>
                have hba := below_alloc (Below.refl _ wcDc) (.cells #[.int .i64 0, .int .i64 0, .int .i64 0, .int .i64 0, .string ⟨#[]⟩, .string ⟨#[]⟩, .string ⟨#[]⟩, .int .i64 0, .int .i64 0, .slice none 0 0] 26 (0, 0))
                have HFDcb : Asd (Fr (fun k => k = R ∨ k = b5) w (wcDc.alloc (.cells #[.int .i64 0, .int .i64 0, .int .i64 0, .int .i64 0, .string ⟨#[]⟩, .string ⟨#[]⟩, .string ⟨#[]⟩, .int .i64 0, .int .i64 0, .slice none 0 0] 26 (0, 0)))) := Asd.mk (HFDc.out.trans (Fr.of_below (S := fun _ => False) hba) (fun k h _ => h) (fun k h _ => h.elim))
                have HGDcb := Asd.mk (HGDc.out.frS (Fr.of_below (S := fun _ => False) hba) (fun h => h) (fun _ _ h => h))
                have HRDcb := Asd.mk (HRDc.out.below hba)
                have c1Dcb := (hba.cell (World.block_lt_of_cell? wcDc _ c1Dc)).trans c1Dc
                have HZDcb := Asd.mk (blk_new wcDc (.cells #[.int .i64 0, .int .i64 0, .int .i64 0, .int .i64 0, .string ⟨#[]⟩, .string ⟨#[]⟩, .string ⟨#[]⟩, .int .i64 0, .int .i64 0, .slice none 0 0] 26 (0, 0)))
                have HBZ : Asd (w.heap.size ≤ wcDc.heap.size) := Asd.mk HFDc.out.size
                have HXDcb := Asd.mk (held_below HXDc.out hba)
                have HBO : Asd ((Value.slice A' kq c').ownBlock ≠ some wcDc.heap.size) := Asd.mk (fun e => by have := (HGDc.out.own.lt _ e).2; omega)
                clear hba
                intro K hK
                go_simp
                go_wp2_with fail
                refine hK.out _ _ (c1Dcb) (fun hHeld => ?_)
                clear hK K
                try simp only [Act.put, List.setIfInBounds_toArray, List.set_cons_zero, List.set_cons_succ]
                generalize hbz : wcDc.heap.size = bz at HZDcb HBZ HBO ⊢
                generalize wcDc.alloc (.cells #[.int .i64 0, .int .i64 0, .int .i64 0, .int .i64 0, .string ⟨#[]⟩, .string ⟨#[]⟩, .string ⟨#[]⟩, .int .i64 0, .int .i64 0, .slice none 0 0] 26 (0, 0)) = wbDcb at HFDcb HGDcb HRDcb c1Dcb HZDcb HXDcb hHeld ⊢
                clear hbz
                refine wpAnyH_ready (rs := [1]) (by kernel_rfl) (by simp) ?_
                refine AllReadyH.cons (o := ({ dst := some 28, op := Op.load 24 (Operand.tmp 27), type := 24, pos := "expr.go:263", after := #[{ on := 0, ground := Ground.data }], guard := none } : Oper)) rfl ?gzs2351 AllReadyH.nil
                case gzs2351 =>
                  have HEDcb := HGDcb.out.e
                  have x9 := (ex_cells HGDcb.out.e).2.2.2.2.2.2.2.2.2
                  intro K hK
                  go_simp
                  go_wp2_with fail
                  refine hK.out _ _ (c1Dcb) (fun hHeld => ?_)
                  clear hK K
                  try simp only [Act.put, List.setIfInBounds_toArray, List.set_cons_zero, List.set_cons_succ]
                  refine wpAnyH_take (i := 4) (oi := ({ dst := some 31, op := Op.call { callee := Callee.builtin Builtin.len, args := #[Operand.tmp 28], argTypes := #[24] }, type := 3, pos := "expr.go:263", after := #[{ on := 1, ground := Ground.data }], guard := none } : Oper)) (v := ?vzs235t4) rfl (by kernel_rfl) (by kernel_rfl) (by kernel_rfl) (fun _ _ _ h => h) (Or.inl ⟨by rfl, ?hzs235t4⟩) (by assumption) ?rzs235t4
                  case hzs235t4 => (intro w hSw; (try dsimp only at hSw); go_simp; try (with_reducible rfl))
                  try simp only [Act.put, List.setIfInBounds_toArray, List.set_cons_zero, List.set_cons_succ]
                  obtain ⟨iE, zE, hiE, hzE, hsE, hbE, hcE⟩ := rowE.hi
                  refine wpAnyH_ready (rs := [6]) (by kernel_rfl) (by simp) ?_
                  refine AllReadyH.cons (o := ({ dst := some 33, op := Op.call { callee := Callee.builtin Builtin.append, args := #[Operand.tmp 28, Operand.tmp 32], argTypes := #[24, 24] }, type := 24, pos := "expr.go:263", after := #[{ on := 1, ground := Ground.data }, { on := 5, ground := Ground.data }, { on := 3, ground := Ground.chain }, { on := 0, ground := Ground.phase }, { on := 1, ground := Ground.phase }, { on := 2, ground := Ground.phase }, { on := 3, ground := Ground.phase }, { on := 4, ground := Ground.phase }, { on := 5, ground := Ground.phase }], guard := none } : Oper)) rfl (fun K hK => ?_) AllReadyH.nil
                  refine step_append_lies wbDcb rfl (.tmp 28) (.tmp 32) _ rfl w.heap.size 26 iE zE 10 120 rowE.ht hiE hzE hsE hbE hcE rowE.pos _ kq (rowsC ps) rfl HGDcb.out.own ⟨bz, 0, none⟩ 1 1 zRow rfl rfl (World.news_of_block HZDcb.out) (by decide) (by omega) (by unfold maxLen; omega) (by omega) HFDcb.out.size wbDcb.heap.size rfl ?_
                  intro g2 cap2 w5 ho hg hor hlt5
                  clear hiE hzE hsE hbE hcE
                  have hl10 : (rowsC ps).length = kq * 10 := by rw [rowsC_len, HGDcb.out.len]
                  have hgr := Fr.of_grown (S := fun k => (Value.slice A' kq c').ownBlock = some k) hg (fun k h => h)
                  have HO5 := Asd.mk ho
                  have HG2 : Asd (w.heap.size ≤ g2) := Asd.mk (by rcases hor with e | e; exact (HGDcb.out.own.lt g2 e).1; rw [e]; exact HFDcb.out.size)
                  have hne : ∀ g, g < wbDcb.heap.size → (Value.slice A' kq c').ownBlock ≠ some g → g ≠ g2 := fun g h1 h2 e => by
                    rcases hor with e2 | e2
                    · rw [e] at h2; exact h2 e2
                    · omega
                  have hown : ∀ b, b < w.heap.size → ¬ (Value.slice A' kq c').ownBlock = some b := fun b hb e => by have := (HGDcb.out.own.lt b e).1; omega
                  have HE5 := Asd.mk (blk_fr HGDcb.out.e hgr (hown b5 (by have := HNB.out; omega)))
                  have HF5 : Asd (Fr (fun k => k = R ∨ k = b5) w w5) := Asd.mk (fr_newS HFDcb.out hgr (fun k h => .inr (HGDcb.out.own.lt k h).1))
                  have HH5 : Asd (∀ p ∈ ps, Held (fun g => w.heap.size ≤ g ∧ g ≠ g2) w5 p.1.args p.2) := Asd.mk (fun p hp => held_mono (held_frS (held_mono (HGDcb.out.held p hp) (fun g h1 h2 => (⟨h2.1, h2.2, hne g h1 h2.2⟩ : w.heap.size ≤ g ∧ (Value.slice A' kq c').ownBlock ≠ some g ∧ g ≠ g2))) hgr (fun g hg h => hg.2.1 h)) (fun g _ hg => ⟨hg.1, hg.2.2⟩))
                  have HX5 : Asd (Held (fun g => w.heap.size ≤ g ∧ g ≠ g2) w5 x.args (.slice As ms cs)) := Asd.mk (held_mono (held_frS (held_mono HXDcb.out (fun g h1 h2 => (⟨h2.1, h2.2, hne g h1 h2.2⟩ : w.heap.size ≤ g ∧ (Value.slice A' kq c').ownBlock ≠ some g ∧ g ≠ g2))) hgr (fun g hg h => hg.2.1 h)) (fun g _ hg => ⟨hg.1, hg.2.2⟩))
                  have HB5 := Asd.mk (blk_fr HRDcb.out.blk hgr (hown R (by have := HNB.out; omega)))
                  have c15 := cell_frS hgr (hown b1 (by have := HNB.out; omega)) c1Dcb
                  have HJ := Asd.mk HRDcb.out.le
                  clear ho hg hor hlt5 hgr hne hown
                  refine hK.out _ _ (c15) (fun hHeld => ?_)
                  clear hK K
                  try simp only [Act.put, List.setIfInBounds_toArray, List.set_cons_zero, List.set_cons_succ]
                  have hidx1 : (0 : Int) ≤ (kq : Int) := by omega
                  have hidx2 : (kq : Int) < (kq : Int) + 1 := by omega
                  refine wpAnyH_take (i := 7) (oi := ({ dst := some 34, op := Op.indexAddr 24 (Operand.tmp 33) (Operand.tmp 31), type := 0, pos := "expr.go:263", after := #[{ on := 6, ground := Ground.data }, { on := 4, ground := Ground.data }, { on := 0, ground := Ground.phase }, { on := 1, ground := Ground.phase }, { on := 2, ground := Ground.phase }, { on := 3, ground := Ground.phase }, { on := 4, ground := Ground.phase }, { on := 5, ground := Ground.phase }, { on := 6, ground := Ground.phase }, { on := 10, ground := Ground.gcOnly Departure.appendInPlace }], guard := none } : Oper)) (v := ?vus3517) rfl (by kernel_rfl) (by kernel_rfl) (by kernel_rfl) (fun _ _ _ h => h) (Or.inl ⟨by rfl, ?hus3517⟩) (by assumption) ?rus3517
                  case hus3517 => (intro w hSw; (try dsimp only at hSw); go_simp; try (with_reducible rfl))
                  try simp only [Act.put, List.setIfInBounds_toArray, List.set_cons_zero, List.set_cons_succ]
                  refine wpAnyH_take (i := 9) (oi := ({ dst := some 35, op := Op.fieldAddr 26 (Operand.tmp 2) 7, type := 0, pos := "expr.go:263", after := #[{ on := 0, ground := Ground.phase }, { on := 1, ground := Ground.phase }, { on := 2, ground := Ground.phase }, { on := 3, ground := Ground.phase }, { on := 4, ground := Ground.phase }, { on := 5, ground := Ground.phase }, { on := 6, ground := Ground.phase }, { on := 7, ground := Ground.textOnly Departure.appendInPlace }, { on := 8, ground := Ground.textOnly Departure.appendInPlace }], guard := none } : Oper)) (v := ?vws3519) rfl (by kernel_rfl) (by kernel_rfl) (by kernel_rfl) (fun _ _ _ h => h) (Or.inl ⟨by rfl, ?hws3519⟩) (by assumption) ?rws3519
                  case hws3519 => (intro w hSw; (try dsimp only at hSw); go_simp; try (with_reducible rfl))
                  try simp only [Act.put, List.setIfInBounds_toArray, List.set_cons_zero, List.set_cons_succ]
                  refine wpAnyH_ready (rs := [8, 10]) (by kernel_rfl) (by simp) ?_
                  refine AllReadyH.cons (o := ({ dst := none, op := Op.store 26 (Operand.tmp 34) (Operand.tmp 30), type := 0, pos := "expr.go:263", after := #[{ on := 7, ground := Ground.data }, { on := 3, ground := Ground.data }, { on := 6, ground := Ground.chain }, { on := 0, ground := Ground.phase }, { on := 1, ground := Ground.phase }, { on := 2, ground := Ground.phase }, { on := 3, ground := Ground.phase }, { on := 4, ground := Ground.phase }, { on := 5, ground := Ground.phase }, { on := 6, ground := Ground.phase }, { on := 10, ground := Ground.gcOnly Departure.appendInPlace }], guard := none } : Oper)) rfl ?ks351a (AllReadyH.cons (o := ({ dst := none, op := Op.store 24 (Operand.tmp 35) (Operand.tmp 33), type := 0, pos := "expr.go:263", after := #[{ on := 9, ground := Ground.data }, { on := 6, ground := Ground.data }, { on := 6, ground := Ground.chain }, { on := 8, ground := Ground.textOnly Departure.appendInPlace }, { on := 0, ground := Ground.phase }, { on := 1, ground := Ground.phase }, { on := 2, ground := Ground.phase }, { on := 3, ground := Ground.phase }, { on := 4, ground := Ground.phase }, { on := 5, ground := Ground.phase }, { on := 6, ground := Ground.phase }, { on := 7, ground := Ground.textOnly Departure.appendInPlace }, { on := 8, ground := Ground.textOnly Departure.appendInPlace }], guard := none } : Oper)) rfl ?ks351b AllReadyH.nil)
                  case ks351a =>
                    have y0 : w5.cell? ⟨g2, kq * 10, none⟩ = some (.int .i64 0) := own_zero hl10 HO5.out 0 (by decide)
                    have y1 : w5.cell? ⟨g2, kq * 10 + 1, none⟩ = some (.int .i64 0) := own_zero hl10 HO5.out 1 (by decide)
                    have y2 : w5.cell? ⟨g2, kq * 10 + 2, none⟩ = some (.int .i64 0) := own_zero hl10 HO5.out 2 (by decide)
                    have y3 : w5.cell? ⟨g2, kq * 10 + 3, none⟩ = some (.int .i64 0) := own_zero hl10 HO5.out 3 (by decide)
                    have y4 : w5.cell? ⟨g2, kq * 10 + 4, none⟩ = some (.string ⟨#[]⟩) := own_zero hl10 HO5.out 4 (by decide)
                    have y5 : w5.cell? ⟨g2, kq * 10 + 5, none⟩ = some (.string ⟨#[]⟩) := own_zero hl10 HO5.out 5 (by decide)
                    have y6 : w5.cell? ⟨g2, kq * 10 + 6, none⟩ = some (.string ⟨#[]⟩) := own_zero hl10 HO5.out 6 (by decide)
                    have y7 : w5.cell? ⟨g2, kq * 10 + 7, none⟩ = some (.int .i64 0) := own_zero hl10 HO5.out 7 (by decide)
                    have y8 : w5.cell? ⟨g2, kq * 10 + 8, none⟩ = some (.int .i64 0) := own_zero hl10 HO5.out 8 (by decide)
                    have y9 : w5.cell? ⟨g2, kq * 10 + 9, none⟩ = some (.slice none 0 0) := own_zero hl10 HO5.out 9 (by decide)
                    have z0 : w5.frozen? ⟨g2, kq * 10, none⟩ = false := HO5.out.frozenAt _
                    have z1 : w5.frozen? ⟨g2, kq * 10 + 1, none⟩ = false := HO5.out.frozenAt _
                    have z2 : w5.frozen? ⟨g2, kq * 10 + 2, none⟩ = false := HO5.out.frozenAt _
                    have z3 : w5.frozen? ⟨g2, kq * 10 + 3, none⟩ = false := HO5.out.frozenAt _
                    have z4 : w5.frozen? ⟨g2, kq * 10 + 4, none⟩ = false := HO5.out.frozenAt _
                    have z5 : w5.frozen? ⟨g2, kq * 10 + 5, none⟩ = false := HO5.out.frozenAt _
                    have z6 : w5.frozen? ⟨g2, kq * 10 + 6, none⟩ = false := HO5.out.frozenAt _
                    have z7 : w5.frozen? ⟨g2, kq * 10 + 7, none⟩ = false := HO5.out.frozenAt _
                    have z8 : w5.frozen? ⟨g2, kq * 10 + 8, none⟩ = false := HO5.out.frozenAt _
                    have z9 : w5.frozen? ⟨g2, kq * 10 + 9, none⟩ = false := HO5.out.frozenAt _
                    have hpf : Fr (fun k => k = g2) w5 ((((((((((w5.setCell ⟨g2, kq * 10, none⟩ (.int .i64 x.kind)).setCell ⟨g2, kq * 10 + 1, none⟩ (.int .i64 x.op)).setCell ⟨g2, kq * 10 + 2, none⟩ (.int .i64 x.v.kind)).setCell ⟨g2, kq * 10 + 3, none⟩ (.int .i64 x.v.int)).setCell ⟨g2, kq * 10 + 4, none⟩ (.string ⟨x.v.text.toArray⟩)).setCell ⟨g2, kq * 10 + 5, none⟩ (.string ⟨x.table.toArray⟩)).setCell ⟨g2, kq * 10 + 6, none⟩ (.string ⟨x.name.toArray⟩)).setCell ⟨g2, kq * 10 + 7, none⟩ (.int .i64 x.col)).setCell ⟨g2, kq * 10 + 8, none⟩ (.int .i64 x.ty)).setCell ⟨g2, kq * 10 + 9, none⟩ (.slice As ms cs)) := put_fr _ _ _ _ _ _ _ _ _ _
                    have HO6 : Asd (((((((((((w5.setCell ⟨g2, kq * 10, none⟩ (.int .i64 x.kind)).setCell ⟨g2, kq * 10 + 1, none⟩ (.int .i64 x.op)).setCell ⟨g2, kq * 10 + 2, none⟩ (.int .i64 x.v.kind)).setCell ⟨g2, kq * 10 + 3, none⟩ (.int .i64 x.v.int)).setCell ⟨g2, kq * 10 + 4, none⟩ (.string ⟨x.v.text.toArray⟩)).setCell ⟨g2, kq * 10 + 5, none⟩ (.string ⟨x.table.toArray⟩)).setCell ⟨g2, kq * 10 + 6, none⟩ (.string ⟨x.name.toArray⟩)).setCell ⟨g2, kq * 10 + 7, none⟩ (.int .i64 x.col)).setCell ⟨g2, kq * 10 + 8, none⟩ (.int .i64 x.ty)).setCell ⟨g2, kq * 10 + 9, none⟩ (.slice As ms cs)).ownsRow w.heap.size 26 10 (.slice (some ⟨g2, 0, none⟩) (kq + 1) cap2) (kq + 1) (rowsC (ps ++ [((x, Value.slice As ms cs) : Ex × Value)]))) := Asd.mk (by rw [rowsC_snoc]; exact own_put hl10 HO5.out _ _ _ _ _ _ _ _ _ _)
                    have HE6 := Asd.mk (blk_fr HE5.out hpf (by show ¬ b5 = g2; have := HG2.out; have := HNB.out; omega))
                    have HF6 := Asd.mk (fr_newS HF5.out hpf (fun k h => .inr (by have h1 : k = g2 := h; have := HG2.out; omega)))
                    have HH6 := Asd.mk (fun p (hp : p ∈ ps) => held_frS (HH5.out p hp) hpf (fun g hg h => hg.2 h))
                    have HX6 := Asd.mk (held_frS HX5.out hpf (fun g hg h => hg.2 h))
                    have HB6 := Asd.mk (blk_fr HB5.out hpf (by show ¬ R = g2; have := HG2.out; have := HNB.out; omega))
                    have c16 := cell_frS hpf (by show ¬ b1 = g2; have := HG2.out; have := HNB.out; omega) c15
                    clear hpf
                    intro K hK
                    go_simp
                    go_wp2_with fail
                    refine hK.out _ _ (c16) (fun hHeld => ?_)
                    clear hK K
                    try simp only [Act.put, List.setIfInBounds_toArray, List.set_cons_zero, List.set_cons_succ]
                    generalize ((((((((((w5.setCell ⟨g2, kq * 10, none⟩ (.int .i64 x.kind)).setCell ⟨g2, kq * 10 + 1, none⟩ (.int .i64 x.op)).setCell ⟨g2, kq * 10 + 2, none⟩ (.int .i64 x.v.kind)).setCell ⟨g2, kq * 10 + 3, none⟩ (.int .i64 x.v.int)).setCell ⟨g2, kq * 10 + 4, none⟩ (.string ⟨x.v.text.toArray⟩)).setCell ⟨g2, kq * 10 + 5, none⟩ (.string ⟨x.table.toArray⟩)).setCell ⟨g2, kq * 10 + 6, none⟩ (.string ⟨x.name.toArray⟩)).setCell ⟨g2, kq * 10 + 7, none⟩ (.int .i64 x.col)).setCell ⟨g2, kq * 10 + 8, none⟩ (.int .i64 x.ty)).setCell ⟨g2, kq * 10 + 9, none⟩ (.slice As ms cs)) = w6 at HO6 HE6 HF6 HH6 HX6 HB6 c16 hHeld ⊢
                    have x9b := (ex_cells HE6.out).2.2.2.2.2.2.2.2.2
                    have z9b := blk_frozen HE6.out 9
                    have hsf := Fr.setCell (S := fun k => k = b5) (Fr.refl _ w6) (p := ⟨b5, 9, none⟩) rfl (.slice (some ⟨g2, 0, none⟩) (kq + 1) cap2)
                    have HE7 : Asd ((w6.setCell ⟨b5, 9, none⟩ (.slice (some ⟨g2, 0, none⟩) (kq + 1) cap2)).heap[b5]? = some (.cells (exC (callE f.1 f.2.1 ((ps ++ [((x, Value.slice As ms cs) : Ex × Value)]).map (fun z => z.1))) (.slice (some ⟨g2, 0, none⟩) (kq + 1) cap2)).toArray 26 (0, 0))) := Asd.mk (blk_set9 HE6.out _ rfl)
                    have HO7 := Asd.mk (own_frS HO6.out hsf (fun g h e => by have h1 : g = b5 := e; have := HNB.out; omega))
                    have HF7 := Asd.mk (fr_newS HF6.out hsf (fun k h => .inl (.inr h)))
                    have hS : ∀ g, w.heap.size ≤ g ∧ g ≠ g2 → ¬ g = b5 := fun g hg e => by have := HNB.out; omega
                    have HH7 := Asd.mk (fun p (hp : p ∈ ps) => held_frS (HH6.out p hp) hsf hS)
                    have HX7 := Asd.mk (held_frS HX6.out hsf hS)
                    have HB7 := Asd.mk (blk_fr HB6.out hsf (by show ¬ R = b5; have := HNB.out; omega))
                    have c17 := cell_frS hsf (by show ¬ b1 = b5; have := HNB.out; omega) c16
                    clear hsf hS
                    refine wpAnyH_ready (rs := [10]) (by kernel_rfl) (by simp) ?_
                    refine AllReadyH.cons (o := ({ dst := none, op := Op.store 24 (Operand.tmp 35) (Operand.tmp 33), type := 0, pos := "expr.go:263", after := #[{ on := 9, ground := Ground.data }, { on := 6, ground := Ground.data }, { on := 6, ground := Ground.chain }, { on := 8, ground := Ground.textOnly Departure.appendInPlace }, { on := 0, ground := Ground.phase }, { on := 1, ground := Ground.phase }, { on := 2, ground := Ground.phase }, { on := 3, ground := Ground.phase }, { on := 4, ground := Ground.phase }, { on := 5, ground := Ground.phase }, { on := 6, ground := Ground.phase }, { on := 7, ground := Ground.textOnly Departure.appendInPlace }, { on := 8, ground := Ground.textOnly Departure.appendInPlace }], guard := none } : Oper)) rfl (fun K hK => ?_) AllReadyH.nil
                    go_simp
                    go_wp2_with fail
                    refine hK.out _ _ (c17) (fun hHeld => ?_)
                    clear hK K
                    try simp only [Act.put, List.setIfInBounds_toArray, List.set_cons_zero, List.set_cons_succ]
                    generalize (w6.setCell ⟨b5, 9, none⟩ (.slice (some ⟨g2, 0, none⟩) (kq + 1) cap2)) = wz at HO7 HE7 HF7 HH7 HX7 HB7 c17 hHeld ⊢
                    have HG7 : Asd (Gath wz w.heap.size b5 R f (ps ++ [((x, Value.slice As ms cs) : Ex × Value)]) (kq + 1) (some ⟨g2, 0, none⟩) cap2) := Asd.mk ⟨HE7.out, HO7.out, by rw [List.length_append, HGDcb.out.len]; rfl, fun p hp => by
                      have hM : ∀ g, w.heap.size ≤ g ∧ g ≠ g2 → w.heap.size ≤ g ∧ (Value.slice (some ⟨g2, 0, none⟩) (kq + 1) cap2).ownBlock ≠ some g := fun g hg => ⟨hg.1, fun e => hg.2 (by simpa [Value.ownBlock] using e.symm)⟩
                      rcases List.mem_append.mp hp with hp | hp
                      · exact held_mono (HH7.out p hp) (fun g _ hg => hM g hg)
                      · simp only [List.mem_singleton] at hp
                        subst hp
                        exact held_mono HX7.out (fun g _ hg => hM g hg)⟩
                    have HR7 := Asd.mk (rdw_far HH.out HF7.out (by have := HNB.out; omega) HP5.out HE7.out HB7.out HJ.out)
                    refine wpAnyH_done (by kernel_rfl) ?_ _
                    go_wp2
                    go_roundw
                    case rel => exact ⟨(kq + 1), j, ps ++ [(x, .slice As ms cs)], some ⟨g2, 0, none⟩, cap2, by omega, by go_num, HF7, HR7, HG7, ⟨by rw [if_neg (by omega), HGN.out, List.map_append]; rfl⟩⟩
                    case measure => simp [intOf]; omega
                  case ks351b =>
                    have x9b := (ex_cells HE5.out).2.2.2.2.2.2.2.2.2
                    have z9b := blk_frozen HE5.out 9
                    have hsf := Fr.setCell (S := fun k => k = b5) (Fr.refl _ w5) (p := ⟨b5, 9, none⟩) rfl (.slice (some ⟨g2, 0, none⟩) (kq + 1) cap2)
                    have HE6 : Asd ((w5.setCell ⟨b5, 9, none⟩ (.slice (some ⟨g2, 0, none⟩) (kq + 1) cap2)).heap[b5]? = some (.cells (exC (callE f.1 f.2.1 ((ps ++ [((x, Value.slice As ms cs) : Ex × Value)]).map (fun z => z.1))) (.slice (some ⟨g2, 0, none⟩) (kq + 1) cap2)).toArray 26 (0, 0))) := Asd.mk (blk_set9 HE5.out _ rfl)
                    have HO6 := Asd.mk (own_frS HO5.out hsf (fun g h e => by have h1 : g = b5 := e; have := HNB.out; omega))
                    have HF6 := Asd.mk (fr_newS HF5.out hsf (fun k h => .inl (.inr h)))
                    have hS : ∀ g, w.heap.size ≤ g ∧ g ≠ g2 → ¬ g = b5 := fun g hg e => by have := HNB.out; omega
                    have HH6 := Asd.mk (fun p (hp : p ∈ ps) => held_frS (HH5.out p hp) hsf hS)
                    have HX6 := Asd.mk (held_frS HX5.out hsf hS)
                    have HB6 := Asd.mk (blk_fr HB5.out hsf (by show ¬ R = b5; have := HNB.out; omega))
                    have c16 := cell_frS hsf (by show ¬ b1 = b5; have := HNB.out; omega) c15
                    clear hsf hS
                    intro K hK
                    go_simp
                    go_wp2_with fail
                    refine hK.out _ _ (c16) (fun hHeld => ?_)
                    clear hK K
                    try simp only [Act.put, List.setIfInBounds_toArray, List.set_cons_zero, List.set_cons_succ]
                    generalize (w5.setCell ⟨b5, 9, none⟩ (.slice (some ⟨g2, 0, none⟩) (kq + 1) cap2)) = w6 at HO6 HE6 HF6 HH6 HX6 HB6 c16 hHeld ⊢
                    have y0 : w6.cell? ⟨g2, kq * 10, none⟩ = some (.int .i64 0) := own_zero hl10 HO6.out 0 (by decide)
                    have y1 : w6.cell? ⟨g2, kq * 10 + 1, none⟩ = some (.int .i64 0) := own_zero hl10 HO6.out 1 (by decide)
                    have y2 : w6.cell? ⟨g2, kq * 10 + 2, none⟩ = some (.int .i64 0) := own_zero hl10 HO6.out 2 (by decide)
                    have y3 : w6.cell? ⟨g2, kq * 10 + 3, none⟩ = some (.int .i64 0) := own_zero hl10 HO6.out 3 (by decide)
                    have y4 : w6.cell? ⟨g2, kq * 10 + 4, none⟩ = some (.string ⟨#[]⟩) := own_zero hl10 HO6.out 4 (by decide)
                    have y5 : w6.cell? ⟨g2, kq * 10 + 5, none⟩ = some (.string ⟨#[]⟩) := own_zero hl10 HO6.out 5 (by decide)
                    have y6 : w6.cell? ⟨g2, kq * 10 + 6, none⟩ = some (.string ⟨#[]⟩) := own_zero hl10 HO6.out 6 (by decide)
                    have y7 : w6.cell? ⟨g2, kq * 10 + 7, none⟩ = some (.int .i64 0) := own_zero hl10 HO6.out 7 (by decide)
                    have y8 : w6.cell? ⟨g2, kq * 10 + 8, none⟩ = some (.int .i64 0) := own_zero hl10 HO6.out 8 (by decide)
                    have y9 : w6.cell? ⟨g2, kq * 10 + 9, none⟩ = some (.slice none 0 0) := own_zero hl10 HO6.out 9 (by decide)
                    have z0 : w6.frozen? ⟨g2, kq * 10, none⟩ = false := HO6.out.frozenAt _
                    have z1 : w6.frozen? ⟨g2, kq * 10 + 1, none⟩ = false := HO6.out.frozenAt _
                    have z2 : w6.frozen? ⟨g2, kq * 10 + 2, none⟩ = false := HO6.out.frozenAt _
                    have z3 : w6.frozen? ⟨g2, kq * 10 + 3, none⟩ = false := HO6.out.frozenAt _
                    have z4 : w6.frozen? ⟨g2, kq * 10 + 4, none⟩ = false := HO6.out.frozenAt _
                    have z5 : w6.frozen? ⟨g2, kq * 10 + 5, none⟩ = false := HO6.out.frozenAt _
                    have z6 : w6.frozen? ⟨g2, kq * 10 + 6, none⟩ = false := HO6.out.frozenAt _
                    have z7 : w6.frozen? ⟨g2, kq * 10 + 7, none⟩ = false := HO6.out.frozenAt _
                    have z8 : w6.frozen? ⟨g2, kq * 10 + 8, none⟩ = false := HO6.out.frozenAt _
                    have z9 : w6.frozen? ⟨g2, kq * 10 + 9, none⟩ = false := HO6.out.frozenAt _
                    have hpf : Fr (fun k => k = g2) w6 ((((((((((w6.setCell ⟨g2, kq * 10, none⟩ (.int .i64 x.kind)).setCell ⟨g2, kq * 10 + 1, none⟩ (.int .i64 x.op)).setCell ⟨g2, kq * 10 + 2, none⟩ (.int .i64 x.v.kind)).setCell ⟨g2, kq * 10 + 3, none⟩ (.int .i64 x.v.int)).setCell ⟨g2, kq * 10 + 4, none⟩ (.string ⟨x.v.text.toArray⟩)).setCell ⟨g2, kq * 10 + 5, none⟩ (.string ⟨x.table.toArray⟩)).setCell ⟨g2, kq * 10 + 6, none⟩ (.string ⟨x.name.toArray⟩)).setCell ⟨g2, kq * 10 + 7, none⟩ (.int .i64 x.col)).setCell ⟨g2, kq * 10 + 8, none⟩ (.int .i64 x.ty)).setCell ⟨g2, kq * 10 + 9, none⟩ (.slice As ms cs)) := put_fr _ _ _ _ _ _ _ _ _ _
                    have HO7 : Asd (((((((((((w6.setCell ⟨g2, kq * 10, none⟩ (.int .i64 x.kind)).setCell ⟨g2, kq * 10 + 1, none⟩ (.int .i64 x.op)).setCell ⟨g2, kq * 10 + 2, none⟩ (.int .i64 x.v.kind)).setCell ⟨g2, kq * 10 + 3, none⟩ (.int .i64 x.v.int)).setCell ⟨g2, kq * 10 + 4, none⟩ (.string ⟨x.v.text.toArray⟩)).setCell ⟨g2, kq * 10 + 5, none⟩ (.string ⟨x.table.toArray⟩)).setCell ⟨g2, kq * 10 + 6, none⟩ (.string ⟨x.name.toArray⟩)).setCell ⟨g2, kq * 10 + 7, none⟩ (.int .i64 x.col)).setCell ⟨g2, kq * 10 + 8, none⟩ (.int .i64 x.ty)).setCell ⟨g2, kq * 10 + 9, none⟩ (.slice As ms cs)).ownsRow w.heap.size 26 10 (.slice (some ⟨g2, 0, none⟩) (kq + 1) cap2) (kq + 1) (rowsC (ps ++ [((x, Value.slice As ms cs) : Ex × Value)]))) := Asd.mk (by rw [rowsC_snoc]; exact own_put hl10 HO6.out _ _ _ _ _ _ _ _ _ _)
                    have HE7 := Asd.mk (blk_fr HE6.out hpf (by show ¬ b5 = g2; have := HG2.out; have := HNB.out; omega))
                    have HF7 := Asd.mk (fr_newS HF6.out hpf (fun k h => .inr (by have h1 : k = g2 := h; have := HG2.out; omega)))
                    have HH7 := Asd.mk (fun p (hp : p ∈ ps) => held_frS (HH6.out p hp) hpf (fun g hg h => hg.2 h))
                    have HX7 := Asd.mk (held_frS HX6.out hpf (fun g hg h => hg.2 h))
                    have HB7 := Asd.mk (blk_fr HB6.out hpf (by show ¬ R = g2; have := HG2.out; have := HNB.out; omega))
                    have c17 := cell_frS hpf (by show ¬ b1 = g2; have := HG2.out; have := HNB.out; omega) c16
                    clear hpf
                    refine wpAnyH_ready (rs := [8]) (by kernel_rfl) (by simp) ?_
                    refine AllReadyH.cons (o := ({ dst := none, op := Op.store 26 (Operand.tmp 34) (Operand.tmp 30), type := 0, pos := "expr.go:263", after := #[{ on := 7, ground := Ground.data }, { on := 3, ground := Ground.data }, { on := 6, ground := Ground.chain }, { on := 0, ground := Ground.phase }, { on := 1, ground := Ground.phase }, { on := 2, ground := Ground.phase }, { on := 3, ground := Ground.phase }, { on := 4, ground := Ground.phase }, { on := 5, ground := Ground.phase }, { on := 6, ground := Ground.phase }, { on := 10, ground := Ground.gcOnly Departure.appendInPlace }], guard := none } : Oper)) rfl (fun K hK => ?_) AllReadyH.nil
                    go_simp
                    go_wp2_with fail
                    refine hK.out _ _ (c17) (fun hHeld => ?_)
                    clear hK K
                    try simp only [Act.put, List.setIfInBounds_toArray, List.set_cons_zero, List.set_cons_succ]
                    generalize ((((((((((w6.setCell ⟨g2, kq * 10, none⟩ (.int .i64 x.kind)).setCell ⟨g2, kq * 10 + 1, none⟩ (.int .i64 x.op)).setCell ⟨g2, kq * 10 + 2, none⟩ (.int .i64 x.v.kind)).setCell ⟨g2, kq * 10 + 3, none⟩ (.int .i64 x.v.int)).setCell ⟨g2, kq * 10 + 4, none⟩ (.string ⟨x.v.text.toArray⟩)).setCell ⟨g2, kq * 10 + 5, none⟩ (.string ⟨x.table.toArray⟩)).setCell ⟨g2, kq * 10 + 6, none⟩ (.string ⟨x.name.toArray⟩)).setCell ⟨g2, kq * 10 + 7, none⟩ (.int .i64 x.col)).setCell ⟨g2, kq * 10 + 8, none⟩ (.int .i64 x.ty)).setCell ⟨g2, kq * 10 + 9, none⟩ (.slice As ms cs)) = wz at HO7 HE7 HF7 HH7 HX7 HB7 c17 hHeld ⊢
                    have HG7 : Asd (Gath wz w.heap.size b5 R f (ps ++ [((x, Value.slice As ms cs) : Ex × Value)]) (kq + 1) (some ⟨g2, 0, none⟩) cap2) := Asd.mk ⟨HE7.out, HO7.out, by rw [List.length_append, HGDcb.out.len]; rfl, fun p hp => by
                      have hM : ∀ g, w.heap.size ≤ g ∧ g ≠ g2 → w.heap.size ≤ g ∧ (Value.slice (some ⟨g2, 0, none⟩) (kq + 1) cap2).ownBlock ≠ some g := fun g hg => ⟨hg.1, fun e => hg.2 (by simpa [Value.ownBlock] using e.symm)⟩
                      rcases List.mem_append.mp hp with hp | hp
                      · exact held_mono (HH7.out p hp) (fun g _ hg => hM g hg)
                      · simp only [List.mem_singleton] at hp
                        subst hp
                        exact held_mono HX7.out (fun g _ hg => hM g hg)⟩
                    have HR7 := Asd.mk (rdw_far HH.out HF7.out (by have := HNB.out; omega) HP5.out HE7.out HB7.out HJ.out)
                    refine wpAnyH_done (by kernel_rfl) ?_ _
                    go_wp2
                    go_roundw
                    case rel => exact ⟨(kq + 1), j, ps ++ [(x, .slice As ms cs)], some ⟨g2, 0, none⟩, cap2, by omega, by go_num, HF7, HR7, HG7, ⟨by rw [if_neg (by omega), HGN.out, List.map_append]; rfl⟩⟩
                    case measure => simp [intOf]; omega
            case gzs05 =>
              have hba := below_alloc (Below.refl _ wd) (.cells #[.int .i64 0, .int .i64 0, .int .i64 0, .int .i64 0, .string ⟨#[]⟩, .string ⟨#[]⟩, .string ⟨#[]⟩, .int .i64 0, .int .i64 0, .slice none 0 0] 26 (0, 0))
              have HFDb : Asd (Fr (fun k => k = R ∨ k = b5) w (wd.alloc (.cells #[.int .i64 0, .int .i64 0, .int .i64 0, .int .i64 0, .string ⟨#[]⟩, .string ⟨#[]⟩, .string ⟨#[]⟩, .int .i64 0, .int .i64 0, .slice none 0 0] 26 (0, 0)))) := Asd.mk (HFD.out.trans (Fr.of_below (S := fun _ => False) hba) (fun k h _ => h) (fun k h _ => h.elim))
              have HGDb := Asd.mk (HGD.out.frS (Fr.of_below (S := fun _ => False) hba) (fun h => h) (fun _ _ h => h))
              have HRDb := Asd.mk (HRD.out.below hba)
              have c1Db := (hba.cell (World.block_lt_of_cell? wd _ c1D)).trans c1D
              have HZDb := Asd.mk (blk_new wd (.cells #[.int .i64 0, .int .i64 0, .int .i64 0, .int .i64 0, .string ⟨#[]⟩, .string ⟨#[]⟩, .string ⟨#[]⟩, .int .i64 0, .int .i64 0, .slice none 0 0] 26 (0, 0)))
              have HBZ : Asd (w.heap.size ≤ wd.heap.size) := Asd.mk HFD.out.size
              have HBO : Asd ((Value.slice A' kq c').ownBlock ≠ some wd.heap.size) := Asd.mk (fun e => by have := (HGD.out.own.lt _ e).2; omega)
              clear hba
              intro K hK
              go_simp
              go_wp2_with fail
              refine hK.out _ _ (c1Db) (fun hHeld => ?_)
              clear hK K
              try simp only [Act.put, List.setIfInBounds_toArray, List.set_cons_zero, List.set_cons_succ]
              generalize hbz : wd.heap.size = bz at HZDb HBZ HBO ⊢
              generalize wd.alloc (.cells #[.int .i64 0, .int .i64 0, .int .i64 0, .int .i64 0, .string ⟨#[]⟩, .string ⟨#[]⟩, .string ⟨#[]⟩, .int .i64 0, .int .i64 0, .slice none 0 0] 26 (0, 0)) = wbDb at HFDb HGDb HRDb c1Db HZDb hHeld ⊢
              clear hbz
              refine wpAnyH_ready (rs := [1, 3]) (by kernel_rfl) (by simp) ?_
              refine AllReadyH.cons (o := ({ dst := some 28, op := Op.load 24 (Operand.tmp 27), type := 24, pos := "expr.go:263", after := #[{ on := 0, ground := Ground.data }], guard := none } : Oper)) rfl ?gzs151 (AllReadyH.cons (o := ({ dst := some 30, op := Op.call { callee := Callee.value (Operand.func 59), args := #[Operand.tmp 29], argTypes := #[91] }, type := 26, pos := "expr.go:263", after := #[{ on := 2, ground := Ground.data }], guard := none } : Oper)) rfl ?gzs153 AllReadyH.nil)
              case gzs151 =>
                have HEDb := HGDb.out.e
                have x9 := (ex_cells HGDb.out.e).2.2.2.2.2.2.2.2.2
                intro K hK
                go_simp
                go_wp2_with fail
                refine hK.out _ _ (c1Db) (fun hHeld => ?_)
                clear hK K
                try simp only [Act.put, List.setIfInBounds_toArray, List.set_cons_zero, List.set_cons_succ]
                refine wpAnyH_take (i := 4) (oi := ({ dst := some 31, op := Op.call { callee := Callee.builtin Builtin.len, args := #[Operand.tmp 28], argTypes := #[24] }, type := 3, pos := "expr.go:263", after := #[{ on := 1, ground := Ground.data }], guard := none } : Oper)) (v := ?vzs15t4) rfl (by kernel_rfl) (by kernel_rfl) (by kernel_rfl) (fun _ _ _ h => h) (Or.inl ⟨by rfl, ?hzs15t4⟩) (by assumption) ?rzs15t4
                case hzs15t4 => (intro w hSw; (try dsimp only at hSw); go_simp; try (with_reducible rfl))
                try simp only [Act.put, List.setIfInBounds_toArray, List.set_cons_zero, List.set_cons_succ]
                refine wpAnyH_ready (rs := [3]) (by kernel_rfl) (by simp) ?_
                refine AllReadyH.cons (o := ({ dst := some 30, op := Op.call { callee := Callee.value (Operand.func 59), args := #[Operand.tmp 29], argTypes := #[91] }, type := 26, pos := "expr.go:263", after := #[{ on := 2, ground := Ground.data }], guard := none } : Oper)) rfl ?gzs2513 AllReadyH.nil
                case gzs2513 =>
                  intro K hK
                  go_simp
                  refine (HPA.out wbDb q2 HRDb.out).mono ?_
                  rintro e wcDbc ⟨hfc, hm⟩
                  have HFDbc : Asd (Fr (fun k => k = R ∨ k = b5) w wcDbc) := Asd.mk (HFDb.out.trans hfc (fun k h _ => h) (fun k h _ => .inl h))
                  have HGDbc := Asd.mk (HGDb.out.frS hfc (by show ¬ b5 = R; have := HNB.out; omega) (fun g hg => by show ¬ g = R; have := HNB.out; omega))
                  have c1Dbc := fr_cell hfc HNB.out.2.1 c1Db
                  have HSZDbc : Asd ((∀ g, (Value.slice A' kq c').ownBlock = some g → g < wbDb.heap.size) ∧ w.heap.size ≤ wbDb.heap.size) := Asd.mk ⟨fun g hg => (HGDb.out.own.lt g hg).2, HFDb.out.size⟩
                  have HZDbc := Asd.mk (blk_fr HZDb.out hfc (by show ¬ bz = R; have := HBZ.out; have := HNB.out; omega))
                  cases hfi : p.or q2 with
                  | error er =>
                    rw [hfi] at hm
                    obtain ⟨N, rfl, hN⟩ := hm
                    refine ⟨rfl, HFDbc.out, ?_⟩
                    rw [HERR.out er hfi]
                    exact ⟨N, rfl, hN⟩
                  | ok yy =>
                  obtain ⟨x, j⟩ := yy
                  rw [hfi] at hm
                  obtain ⟨sx, rfl, hh, hr⟩ := hm
                  obtain ⟨As, ms, cs, rfl⟩ := held_slice hh
                  have HGN := Asd.mk (HGO.out x j hfi)
                  have HXDbc : Asd (Held (fun g => w.heap.size ≤ g ∧ (Value.slice A' kq c').ownBlock ≠ some g) wcDbc x.args (.slice As ms cs)) := Asd.mk (held_mono hh (fun g _ hg => ⟨by have h1 : wbDb.heap.size ≤ g := hg; have := HSZDbc.out.2; omega, fun e => by have h1 : wbDb.heap.size ≤ g := hg; have := HSZDbc.out.1 g e; omega⟩))
                  have HRDbc := Asd.mk hr
                  clear hfi hh hr hfc
                  unfold exV
                  go_wp2_with fail
                  refine hK.out _ _ (c1Dbc) (fun hHeld => ?_)
                  clear hK K
                  try simp only [Act.put, List.setIfInBounds_toArray, List.set_cons_zero, List.set_cons_succ]
                  obtain ⟨iE, zE, hiE, hzE, hsE, hbE, hcE⟩ := rowE.hi
                  refine wpAnyH_ready (rs := [6]) (by kernel_rfl) (by simp) ?_
                  refine AllReadyH.cons (o := ({ dst := some 33, op := Op.call { callee := Callee.builtin Builtin.append, args := #[Operand.tmp 28, Operand.tmp 32], argTypes := #[24, 24] }, type := 24, pos := "expr.go:263", after := #[{ on := 1, ground := Ground.data }, { on := 5, ground := Ground.data }, { on := 3, ground := Ground.chain }, { on := 0, ground := Ground.phase }, { on := 1, ground := Ground.phase }, { on := 2, ground := Ground.phase }, { on := 3, ground := Ground.phase }, { on := 4, ground := Ground.phase }, { on := 5, ground := Ground.phase }], guard := none } : Oper)) rfl (fun K hK => ?_) AllReadyH.nil
                  refine step_append_lies wcDbc rfl (.tmp 28) (.tmp 32) _ rfl w.heap.size 26 iE zE 10 120 rowE.ht hiE hzE hsE hbE hcE rowE.pos _ kq (rowsC ps) rfl HGDbc.out.own ⟨bz, 0, none⟩ 1 1 zRow rfl rfl (World.news_of_block HZDbc.out) (by decide) (by omega) (by unfold maxLen; omega) (by omega) HFDbc.out.size wcDbc.heap.size rfl ?_
                  intro g2 cap2 w5 ho hg hor hlt5
                  clear hiE hzE hsE hbE hcE
                  have hl10 : (rowsC ps).length = kq * 10 := by rw [rowsC_len, HGDbc.out.len]
                  have hgr := Fr.of_grown (S := fun k => (Value.slice A' kq c').ownBlock = some k) hg (fun k h => h)
                  have HO5 := Asd.mk ho
                  have HG2 : Asd (w.heap.size ≤ g2) := Asd.mk (by rcases hor with e | e; exact (HGDbc.out.own.lt g2 e).1; rw [e]; exact HFDbc.out.size)
                  have hne : ∀ g, g < wcDbc.heap.size → (Value.slice A' kq c').ownBlock ≠ some g → g ≠ g2 := fun g h1 h2 e => by
                    rcases hor with e2 | e2
                    · rw [e] at h2; exact h2 e2
                    · omega
                  have hown : ∀ b, b < w.heap.size → ¬ (Value.slice A' kq c').ownBlock = some b := fun b hb e => by have := (HGDbc.out.own.lt b e).1; omega
                  have HE5 := Asd.mk (blk_fr HGDbc.out.e hgr (hown b5 (by have := HNB.out; omega)))
                  have HF5 : Asd (Fr (fun k => k = R ∨ k = b5) w w5) := Asd.mk (fr_newS HFDbc.out hgr (fun k h => .inr (HGDbc.out.own.lt k h).1))
                  have HH5 : Asd (∀ p ∈ ps, Held (fun g => w.heap.size ≤ g ∧ g ≠ g2) w5 p.1.args p.2) := Asd.mk (fun p hp => held_mono (held_frS (held_mono (HGDbc.out.held p hp) (fun g h1 h2 => (⟨h2.1, h2.2, hne g h1 h2.2⟩ : w.heap.size ≤ g ∧ (Value.slice A' kq c').ownBlock ≠ some g ∧ g ≠ g2))) hgr (fun g hg h => hg.2.1 h)) (fun g _ hg => ⟨hg.1, hg.2.2⟩))
                  have HX5 : Asd (Held (fun g => w.heap.size ≤ g ∧ g ≠ g2) w5 x.args (.slice As ms cs)) := Asd.mk (held_mono (held_frS (held_mono HXDbc.out (fun g h1 h2 => (⟨h2.1, h2.2, hne g h1 h2.2⟩ : w.heap.size ≤ g ∧ (Value.slice A' kq c').ownBlock ≠ some g ∧ g ≠ g2))) hgr (fun g hg h => hg.2.1 h)) (fun g _ hg => ⟨hg.1, hg.2.2⟩))
                  have HB5 := Asd.mk (blk_fr HRDbc.out.blk hgr (hown R (by have := HNB.out; omega)))
                  have c15 := cell_frS hgr (hown b1 (by have := HNB.out; omega)) c1Dbc
                  have HJ := Asd.mk HRDbc.out.le
                  clear ho hg hor hlt5 hgr hne hown
                  refine hK.out _ _ (c15) (fun hHeld => ?_)
                  clear hK K
                  try simp only [Act.put, List.setIfInBounds_toArray, List.set_cons_zero, List.set_cons_succ]
                  have hidx1 : (0 : Int) ≤ (kq : Int) := by omega
                  have hidx2 : (kq : Int) < (kq : Int) + 1 := by omega
                  refine wpAnyH_take (i := 7) (oi := ({ dst := some 34, op := Op.indexAddr 24 (Operand.tmp 33) (Operand.tmp 31), type := 0, pos := "expr.go:263", after := #[{ on := 6, ground := Ground.data }, { on := 4, ground := Ground.data }, { on := 0, ground := Ground.phase }, { on := 1, ground := Ground.phase }, { on := 2, ground := Ground.phase }, { on := 3, ground := Ground.phase }, { on := 4, ground := Ground.phase }, { on := 5, ground := Ground.phase }, { on := 6, ground := Ground.phase }, { on := 10, ground := Ground.gcOnly Departure.appendInPlace }], guard := none } : Oper)) (v := ?vus5137) rfl (by kernel_rfl) (by kernel_rfl) (by kernel_rfl) (fun _ _ _ h => h) (Or.inl ⟨by rfl, ?hus5137⟩) (by assumption) ?rus5137
                  case hus5137 => (intro w hSw; (try dsimp only at hSw); go_simp; try (with_reducible rfl))
                  try simp only [Act.put, List.setIfInBounds_toArray, List.set_cons_zero, List.set_cons_succ]
                  refine wpAnyH_take (i := 9) (oi := ({ dst := some 35, op := Op.fieldAddr 26 (Operand.tmp 2) 7, type := 0, pos := "expr.go:263", after := #[{ on := 0, ground := Ground.phase }, { on := 1, ground := Ground.phase }, { on := 2, ground := Ground.phase }, { on := 3, ground := Ground.phase }, { on := 4, ground := Ground.phase }, { on := 5, ground := Ground.phase }, { on := 6, ground := Ground.phase }, { on := 7, ground := Ground.textOnly Departure.appendInPlace }, { on := 8, ground := Ground.textOnly Departure.appendInPlace }], guard := none } : Oper)) (v := ?vws5139) rfl (by kernel_rfl) (by kernel_rfl) (by kernel_rfl) (fun _ _ _ h => h) (Or.inl ⟨by rfl, ?hws5139⟩) (by assumption) ?rws5139
                  case hws5139 => (intro w hSw; (try dsimp only at hSw); go_simp; try (with_reducible rfl))
                  try simp only [Act.put, List.setIfInBounds_toArray, List.set_cons_zero, List.set_cons_succ]
                  refine wpAnyH_ready (rs := [8, 10]) (by kernel_rfl) (by simp) ?_
                  refine AllReadyH.cons (o := ({ dst := none, op := Op.store 26 (Operand.tmp 34) (Operand.tmp 30), type := 0, pos := "expr.go:263", after := #[{ on := 7, ground := Ground.data }, { on := 3, ground := Ground.data }, { on := 6, ground := Ground.chain }, { on := 0, ground := Ground.phase }, { on := 1, ground := Ground.phase }, { on := 2, ground := Ground.phase }, { on := 3, ground := Ground.phase }, { on := 4, ground := Ground.phase }, { on := 5, ground := Ground.phase }, { on := 6, ground := Ground.phase }, { on := 10, ground := Ground.gcOnly Departure.appendInPlace }], guard := none } : Oper)) rfl ?ks513a (AllReadyH.cons (o := ({ dst := none, op := Op.store 24 (Operand.tmp 35) (Operand.tmp 33), type := 0, pos := "expr.go:263", after := #[{ on := 9, ground := Ground.data }, { on := 6, ground := Ground.data }, { on := 6, ground := Ground.chain }, { on := 8, ground := Ground.textOnly Departure.appendInPlace }, { on := 0, ground := Ground.phase }, { on := 1, ground := Ground.phase }, { on := 2, ground := Ground.phase }, { on := 3, ground := Ground.phase }, { on := 4, ground := Ground.phase }, { on := 5, ground := Ground.phase }, { on := 6, ground := Ground.phase }, { on := 7, ground := Ground.textOnly Departure.appendInPlace }, { on := 8, ground := Ground.textOnly Departure.appendInPlace }], guard := none } : Oper)) rfl ?ks513b AllReadyH.nil)
                  case ks513a =>
                    have y0 : w5.cell? ⟨g2, kq * 10, none⟩ = some (.int .i64 0) := own_zero hl10 HO5.out 0 (by decide)
                    have y1 : w5.cell? ⟨g2, kq * 10 + 1, none⟩ = some (.int .i64 0) := own_zero hl10 HO5.out 1 (by decide)
                    have y2 : w5.cell? ⟨g2, kq * 10 + 2, none⟩ = some (.int .i64 0) := own_zero hl10 HO5.out 2 (by decide)
                    have y3 : w5.cell? ⟨g2, kq * 10 + 3, none⟩ = some (.int .i64 0) := own_zero hl10 HO5.out 3 (by decide)
                    have y4 : w5.cell? ⟨g2, kq * 10 + 4, none⟩ = some (.string ⟨#[]⟩) := own_zero hl10 HO5.out 4 (by decide)
                    have y5 : w5.cell? ⟨g2, kq * 10 + 5, none⟩ = some (.string ⟨#[]⟩) := own_zero hl10 HO5.out 5 (by decide)
                    have y6 : w5.cell? ⟨g2, kq * 10 + 6, none⟩ = some (.string ⟨#[]⟩) := own_zero hl10 HO5.out 6 (by decide)
                    have y7 : w5.cell? ⟨g2, kq * 10 + 7, none⟩ = some (.int .i64 0) := own_zero hl10 HO5.out 7 (by decide)
                    have y8 : w5.cell? ⟨g2, kq * 10 + 8, none⟩ = some (.int .i64 0) := own_zero hl10 HO5.out 8 (by decide)
                    have y9 : w5.cell? ⟨g2, kq * 10 + 9, none⟩ = some (.slice none 0 0) := own_zero hl10 HO5.out 9 (by decide)
                    have z0 : w5.frozen? ⟨g2, kq * 10, none⟩ = false := HO5.out.frozenAt _
                    have z1 : w5.frozen? ⟨g2, kq * 10 + 1, none⟩ = false := HO5.out.frozenAt _
                    have z2 : w5.frozen? ⟨g2, kq * 10 + 2, none⟩ = false := HO5.out.frozenAt _
                    have z3 : w5.frozen? ⟨g2, kq * 10 + 3, none⟩ = false := HO5.out.frozenAt _
                    have z4 : w5.frozen? ⟨g2, kq * 10 + 4, none⟩ = false := HO5.out.frozenAt _
                    have z5 : w5.frozen? ⟨g2, kq * 10 + 5, none⟩ = false := HO5.out.frozenAt _
                    have z6 : w5.frozen? ⟨g2, kq * 10 + 6, none⟩ = false := HO5.out.frozenAt _
                    have z7 : w5.frozen? ⟨g2, kq * 10 + 7, none⟩ = false := HO5.out.frozenAt _
                    have z8 : w5.frozen? ⟨g2, kq * 10 + 8, none⟩ = false := HO5.out.frozenAt _
                    have z9 : w5.frozen? ⟨g2, kq * 10 + 9, none⟩ = false := HO5.out.frozenAt _
                    have hpf : Fr (fun k => k = g2) w5 ((((((((((w5.setCell ⟨g2, kq * 10, none⟩ (.int .i64 x.kind)).setCell ⟨g2, kq * 10 + 1, none⟩ (.int .i64 x.op)).setCell ⟨g2, kq * 10 + 2, none⟩ (.int .i64 x.v.kind)).setCell ⟨g2, kq * 10 + 3, none⟩ (.int .i64 x.v.int)).setCell ⟨g2, kq * 10 + 4, none⟩ (.string ⟨x.v.text.toArray⟩)).setCell ⟨g2, kq * 10 + 5, none⟩ (.string ⟨x.table.toArray⟩)).setCell ⟨g2, kq * 10 + 6, none⟩ (.string ⟨x.name.toArray⟩)).setCell ⟨g2, kq * 10 + 7, none⟩ (.int .i64 x.col)).setCell ⟨g2, kq * 10 + 8, none⟩ (.int .i64 x.ty)).setCell ⟨g2, kq * 10 + 9, none⟩ (.slice As ms cs)) := put_fr _ _ _ _ _ _ _ _ _ _
                    have HO6 : Asd (((((((((((w5.setCell ⟨g2, kq * 10, none⟩ (.int .i64 x.kind)).setCell ⟨g2, kq * 10 + 1, none⟩ (.int .i64 x.op)).setCell ⟨g2, kq * 10 + 2, none⟩ (.int .i64 x.v.kind)).setCell ⟨g2, kq * 10 + 3, none⟩ (.int .i64 x.v.int)).setCell ⟨g2, kq * 10 + 4, none⟩ (.string ⟨x.v.text.toArray⟩)).setCell ⟨g2, kq * 10 + 5, none⟩ (.string ⟨x.table.toArray⟩)).setCell ⟨g2, kq * 10 + 6, none⟩ (.string ⟨x.name.toArray⟩)).setCell ⟨g2, kq * 10 + 7, none⟩ (.int .i64 x.col)).setCell ⟨g2, kq * 10 + 8, none⟩ (.int .i64 x.ty)).setCell ⟨g2, kq * 10 + 9, none⟩ (.slice As ms cs)).ownsRow w.heap.size 26 10 (.slice (some ⟨g2, 0, none⟩) (kq + 1) cap2) (kq + 1) (rowsC (ps ++ [((x, Value.slice As ms cs) : Ex × Value)]))) := Asd.mk (by rw [rowsC_snoc]; exact own_put hl10 HO5.out _ _ _ _ _ _ _ _ _ _)
                    have HE6 := Asd.mk (blk_fr HE5.out hpf (by show ¬ b5 = g2; have := HG2.out; have := HNB.out; omega))
                    have HF6 := Asd.mk (fr_newS HF5.out hpf (fun k h => .inr (by have h1 : k = g2 := h; have := HG2.out; omega)))
                    have HH6 := Asd.mk (fun p (hp : p ∈ ps) => held_frS (HH5.out p hp) hpf (fun g hg h => hg.2 h))
                    have HX6 := Asd.mk (held_frS HX5.out hpf (fun g hg h => hg.2 h))
                    have HB6 := Asd.mk (blk_fr HB5.out hpf (by show ¬ R = g2; have := HG2.out; have := HNB.out; omega))
                    have c16 := cell_frS hpf (by show ¬ b1 = g2; have := HG2.out; have := HNB.out; omega) c15
                    clear hpf
                    intro K hK
                    go_simp
                    go_wp2_with fail
                    refine hK.out _ _ (c16) (fun hHeld => ?_)
                    clear hK K
                    try simp only [Act.put, List.setIfInBounds_toArray, List.set_cons_zero, List.set_cons_succ]
                    generalize ((((((((((w5.setCell ⟨g2, kq * 10, none⟩ (.int .i64 x.kind)).setCell ⟨g2, kq * 10 + 1, none⟩ (.int .i64 x.op)).setCell ⟨g2, kq * 10 + 2, none⟩ (.int .i64 x.v.kind)).setCell ⟨g2, kq * 10 + 3, none⟩ (.int .i64 x.v.int)).setCell ⟨g2, kq * 10 + 4, none⟩ (.string ⟨x.v.text.toArray⟩)).setCell ⟨g2, kq * 10 + 5, none⟩ (.string ⟨x.table.toArray⟩)).setCell ⟨g2, kq * 10 + 6, none⟩ (.string ⟨x.name.toArray⟩)).setCell ⟨g2, kq * 10 + 7, none⟩ (.int .i64 x.col)).setCell ⟨g2, kq * 10 + 8, none⟩ (.int .i64 x.ty)).setCell ⟨g2, kq * 10 + 9, none⟩ (.slice As ms cs)) = w6 at HO6 HE6 HF6 HH6 HX6 HB6 c16 hHeld ⊢
                    have x9b := (ex_cells HE6.out).2.2.2.2.2.2.2.2.2
                    have z9b := blk_frozen HE6.out 9
                    have hsf := Fr.setCell (S := fun k => k = b5) (Fr.refl _ w6) (p := ⟨b5, 9, none⟩) rfl (.slice (some ⟨g2, 0, none⟩) (kq + 1) cap2)
                    have HE7 : Asd ((w6.setCell ⟨b5, 9, none⟩ (.slice (some ⟨g2, 0, none⟩) (kq + 1) cap2)).heap[b5]? = some (.cells (exC (callE f.1 f.2.1 ((ps ++ [((x, Value.slice As ms cs) : Ex × Value)]).map (fun z => z.1))) (.slice (some ⟨g2, 0, none⟩) (kq + 1) cap2)).toArray 26 (0, 0))) := Asd.mk (blk_set9 HE6.out _ rfl)
                    have HO7 := Asd.mk (own_frS HO6.out hsf (fun g h e => by have h1 : g = b5 := e; have := HNB.out; omega))
                    have HF7 := Asd.mk (fr_newS HF6.out hsf (fun k h => .inl (.inr h)))
                    have hS : ∀ g, w.heap.size ≤ g ∧ g ≠ g2 → ¬ g = b5 := fun g hg e => by have := HNB.out; omega
                    have HH7 := Asd.mk (fun p (hp : p ∈ ps) => held_frS (HH6.out p hp) hsf hS)
                    have HX7 := Asd.mk (held_frS HX6.out hsf hS)
                    have HB7 := Asd.mk (blk_fr HB6.out hsf (by show ¬ R = b5; have := HNB.out; omega))
                    have c17 := cell_frS hsf (by show ¬ b1 = b5; have := HNB.out; omega) c16
                    clear hsf hS
                    refine wpAnyH_ready (rs := [10]) (by kernel_rfl) (by simp) ?_
                    refine AllReadyH.cons (o := ({ dst := none, op := Op.store 24 (Operand.tmp 35) (Operand.tmp 33), type := 0, pos := "expr.go:263", after := #[{ on := 9, ground := Ground.data }, { on := 6, ground := Ground.data }, { on := 6, ground := Ground.chain }, { on := 8, ground := Ground.textOnly Departure.appendInPlace }, { on := 0, ground := Ground.phase }, { on := 1, ground := Ground.phase }, { on := 2, ground := Ground.phase }, { on := 3, ground := Ground.phase }, { on := 4, ground := Ground.phase }, { on := 5, ground := Ground.phase }, { on := 6, ground := Ground.phase }, { on := 7, ground := Ground.textOnly Departure.appendInPlace }, { on := 8, ground := Ground.textOnly Departure.appendInPlace }], guard := none } : Oper)) rfl (fun K hK => ?_) AllReadyH.nil
                    go_simp
                    go_wp2_with fail
                    refine hK.out _ _ (c17) (fun hHeld => ?_)
                    clear hK K
                    try simp only [Act.put, List.setIfInBounds_toArray, List.set_cons_zero, List.set_cons_succ]
                    generalize (w6.setCell ⟨b5, 9, none⟩ (.slice (some ⟨g2, 0, none⟩) (kq + 1) cap2)) = wz at HO7 HE7 HF7 HH7 HX7 HB7 c17 hHeld ⊢
                    have HG7 : Asd (Gath wz w.heap.size b5 R f (ps ++ [((x, Value.slice As ms cs) : Ex × Value)]) (kq + 1) (some ⟨g2, 0, none⟩) cap2) := Asd.mk ⟨HE7.out, HO7.out, by rw [List.length_append, HGDbc.out.len]; rfl, fun p hp => by
                      have hM : ∀ g, w.heap.size ≤ g ∧ g ≠ g2 → w.heap.size ≤ g ∧ (Value.slice (some ⟨g2, 0, none⟩) (kq + 1) cap2).ownBlock ≠ some g := fun g hg => ⟨hg.1, fun e => hg.2 (by simpa [Value.ownBlock] using e.symm)⟩
                      rcases List.mem_append.mp hp with hp | hp
                      · exact held_mono (HH7.out p hp) (fun g _ hg => hM g hg)
                      · simp only [List.mem_singleton] at hp
                        subst hp
                        exact held_mono HX7.out (fun g _ hg => hM g hg)⟩
                    have HR7 := Asd.mk (rdw_far HH.out HF7.out (by have := HNB.out; omega) HP5.out HE7.out HB7.out HJ.out)
                    refine wpAnyH_done (by kernel_rfl) ?_ _
                    go_wp2
                    go_roundw
                    case rel => exact ⟨(kq + 1), j, ps ++ [(x, .slice As ms cs)], some ⟨g2, 0, none⟩, cap2, by omega, by go_num, HF7, HR7, HG7, ⟨by rw [if_neg (by omega), HGN.out, List.map_append]; rfl⟩⟩
                    case measure => simp [intOf]; omega
                  case ks513b =>
                    have x9b := (ex_cells HE5.out).2.2.2.2.2.2.2.2.2
                    have z9b := blk_frozen HE5.out 9
                    have hsf := Fr.setCell (S := fun k => k = b5) (Fr.refl _ w5) (p := ⟨b5, 9, none⟩) rfl (.slice (some ⟨g2, 0, none⟩) (kq + 1) cap2)
                    have HE6 : Asd ((w5.setCell ⟨b5, 9, none⟩ (.slice (some ⟨g2, 0, none⟩) (kq + 1) cap2)).heap[b5]? = some (.cells (exC (callE f.1 f.2.1 ((ps ++ [((x, Value.slice As ms cs) : Ex × Value)]).map (fun z => z.1))) (.slice (some ⟨g2, 0, none⟩) (kq + 1) cap2)).toArray 26 (0, 0))) := Asd.mk (blk_set9 HE5.out _ rfl)
                    have HO6 := Asd.mk (own_frS HO5.out hsf (fun g h e => by have h1 : g = b5 := e; have := HNB.out; omega))
                    have HF6 := Asd.mk (fr_newS HF5.out hsf (fun k h => .inl (.inr h)))
                    have hS : ∀ g, w.heap.size ≤ g ∧ g ≠ g2 → ¬ g = b5 := fun g hg e => by have := HNB.out; omega
                    have HH6 := Asd.mk (fun p (hp : p ∈ ps) => held_frS (HH5.out p hp) hsf hS)
                    have HX6 := Asd.mk (held_frS HX5.out hsf hS)
                    have HB6 := Asd.mk (blk_fr HB5.out hsf (by show ¬ R = b5; have := HNB.out; omega))
                    have c16 := cell_frS hsf (by show ¬ b1 = b5; have := HNB.out; omega) c15
                    clear hsf hS
                    intro K hK
                    go_simp
                    go_wp2_with fail
                    refine hK.out _ _ (c16) (fun hHeld => ?_)
                    clear hK K
                    try simp only [Act.put, List.setIfInBounds_toArray, List.set_cons_zero, List.set_cons_succ]
                    generalize (w5.setCell ⟨b5, 9, none⟩ (.slice (some ⟨g2, 0, none⟩) (kq + 1) cap2)) = w6 at HO6 HE6 HF6 HH6 HX6 HB6 c16 hHeld ⊢
                    have y0 : w6.cell? ⟨g2, kq * 10, none⟩ = some (.int .i64 0) := own_zero hl10 HO6.out 0 (by decide)
                    have y1 : w6.cell? ⟨g2, kq * 10 + 1, none⟩ = some (.int .i64 0) := own_zero hl10 HO6.out 1 (by decide)
                    have y2 : w6.cell? ⟨g2, kq * 10 + 2, none⟩ = some (.int .i64 0) := own_zero hl10 HO6.out 2 (by decide)
                    have y3 : w6.cell? ⟨g2, kq * 10 + 3, none⟩ = some (.int .i64 0) := own_zero hl10 HO6.out 3 (by decide)
                    have y4 : w6.cell? ⟨g2, kq * 10 + 4, none⟩ = some (.string ⟨#[]⟩) := own_zero hl10 HO6.out 4 (by decide)
                    have y5 : w6.cell? ⟨g2, kq * 10 + 5, none⟩ = some (.string ⟨#[]⟩) := own_zero hl10 HO6.out 5 (by decide)
                    have y6 : w6.cell? ⟨g2, kq * 10 + 6, none⟩ = some (.string ⟨#[]⟩) := own_zero hl10 HO6.out 6 (by decide)
                    have y7 : w6.cell? ⟨g2, kq * 10 + 7, none⟩ = some (.int .i64 0) := own_zero hl10 HO6.out 7 (by decide)
                    have y8 : w6.cell? ⟨g2, kq * 10 + 8, none⟩ = some (.int .i64 0) := own_zero hl10 HO6.out 8 (by decide)
                    have y9 : w6.cell? ⟨g2, kq * 10 + 9, none⟩ = some (.slice none 0 0) := own_zero hl10 HO6.out 9 (by decide)
                    have z0 : w6.frozen? ⟨g2, kq * 10, none⟩ = false := HO6.out.frozenAt _
                    have z1 : w6.frozen? ⟨g2, kq * 10 + 1, none⟩ = false := HO6.out.frozenAt _
                    have z2 : w6.frozen? ⟨g2, kq * 10 + 2, none⟩ = false := HO6.out.frozenAt _
                    have z3 : w6.frozen? ⟨g2, kq * 10 + 3, none⟩ = false := HO6.out.frozenAt _
                    have z4 : w6.frozen? ⟨g2, kq * 10 + 4, none⟩ = false := HO6.out.frozenAt _
                    have z5 : w6.frozen? ⟨g2, kq * 10 + 5, none⟩ = false := HO6.out.frozenAt _
                    have z6 : w6.frozen? ⟨g2, kq * 10 + 6, none⟩ = false := HO6.out.frozenAt _
                    have z7 : w6.frozen? ⟨g2, kq * 10 + 7, none⟩ = false := HO6.out.frozenAt _
                    have z8 : w6.frozen? ⟨g2, kq * 10 + 8, none⟩ = false := HO6.out.frozenAt _
                    have z9 : w6.frozen? ⟨g2, kq * 10 + 9, none⟩ = false := HO6.out.frozenAt _
                    have hpf : Fr (fun k => k = g2) w6 ((((((((((w6.setCell ⟨g2, kq * 10, none⟩ (.int .i64 x.kind)).setCell ⟨g2, kq * 10 + 1, none⟩ (.int .i64 x.op)).setCell ⟨g2, kq * 10 + 2, none⟩ (.int .i64 x.v.kind)).setCell ⟨g2, kq * 10 + 3, none⟩ (.int .i64 x.v.int)).setCell ⟨g2, kq * 10 + 4, none⟩ (.string ⟨x.v.text.toArray⟩)).setCell ⟨g2, kq * 10 + 5, none⟩ (.string ⟨x.table.toArray⟩)).setCell ⟨g2, kq * 10 + 6, none⟩ (.string ⟨x.name.toArray⟩)).setCell ⟨g2, kq * 10 + 7, none⟩ (.int .i64 x.col)).setCell ⟨g2, kq * 10 + 8, none⟩ (.int .i64 x.ty)).setCell ⟨g2, kq * 10 + 9, none⟩ (.slice As ms cs)) := put_fr _ _ _ _ _ _ _ _ _ _
                    have HO7 : Asd (((((((((((w6.setCell ⟨g2, kq * 10, none⟩ (.int .i64 x.kind)).setCell ⟨g2, kq * 10 + 1, none⟩ (.int .i64 x.op)).setCell ⟨g2, kq * 10 + 2, none⟩ (.int .i64 x.v.kind)).setCell ⟨g2, kq * 10 + 3, none⟩ (.int .i64 x.v.int)).setCell ⟨g2, kq * 10 + 4, none⟩ (.string ⟨x.v.text.toArray⟩)).setCell ⟨g2, kq * 10 + 5, none⟩ (.string ⟨x.table.toArray⟩)).setCell ⟨g2, kq * 10 + 6, none⟩ (.string ⟨x.name.toArray⟩)).setCell ⟨g2, kq * 10 + 7, none⟩ (.int .i64 x.col)).setCell ⟨g2, kq * 10 + 8, none⟩ (.int .i64 x.ty)).setCell ⟨g2, kq * 10 + 9, none⟩ (.slice As ms cs)).ownsRow w.heap.size 26 10 (.slice (some ⟨g2, 0, none⟩) (kq + 1) cap2) (kq + 1) (rowsC (ps ++ [((x, Value.slice As ms cs) : Ex × Value)]))) := Asd.mk (by rw [rowsC_snoc]; exact own_put hl10 HO6.out _ _ _ _ _ _ _ _ _ _)
                    have HE7 := Asd.mk (blk_fr HE6.out hpf (by show ¬ b5 = g2; have := HG2.out; have := HNB.out; omega))
                    have HF7 := Asd.mk (fr_newS HF6.out hpf (fun k h => .inr (by have h1 : k = g2 := h; have := HG2.out; omega)))
                    have HH7 := Asd.mk (fun p (hp : p ∈ ps) => held_frS (HH6.out p hp) hpf (fun g hg h => hg.2 h))
                    have HX7 := Asd.mk (held_frS HX6.out hpf (fun g hg h => hg.2 h))
                    have HB7 := Asd.mk (blk_fr HB6.out hpf (by show ¬ R = g2; have := HG2.out; have := HNB.out; omega))
                    have c17 := cell_frS hpf (by show ¬ b1 = g2; have := HG2.out; have := HNB.out; omega) c16
                    clear hpf
                    refine wpAnyH_ready (rs := [8]) (by kernel_rfl) (by simp) ?_
                    refine AllReadyH.cons (o := ({ dst := none, op := Op.store 26 (Operand.tmp 34) (Operand.tmp 30), type := 0, pos := "expr.go:263", after := #[{ on := 7, ground := Ground.data }, { on := 3, ground := Ground.data }, { on := 6, ground := Ground.chain }, { on := 0, ground := Ground.phase }, { on := 1, ground := Ground.phase }, { on := 2, ground := Ground.phase }, { on := 3, ground := Ground.phase }, { on := 4, ground := Ground.phase }, { on := 5, ground := Ground.phase }, { on := 6, ground := Ground.phase }, { on := 10, ground := Ground.gcOnly Departure.appendInPlace }], guard := none } : Oper)) rfl (fun K hK => ?_) AllReadyH.nil
                    go_simp
                    go_wp2_with fail
                    refine hK.out _ _ (c17) (fun hHeld => ?_)
                    clear hK K
                    try simp only [Act.put, List.setIfInBounds_toArray, List.set_cons_zero, List.set_cons_succ]
                    generalize ((((((((((w6.setCell ⟨g2, kq * 10, none⟩ (.int .i64 x.kind)).setCell ⟨g2, kq * 10 + 1, none⟩ (.int .i64 x.op)).setCell ⟨g2, kq * 10 + 2, none⟩ (.int .i64 x.v.kind)).setCell ⟨g2, kq * 10 + 3, none⟩ (.int .i64 x.v.int)).setCell ⟨g2, kq * 10 + 4, none⟩ (.string ⟨x.v.text.toArray⟩)).setCell ⟨g2, kq * 10 + 5, none⟩ (.string ⟨x.table.toArray⟩)).setCell ⟨g2, kq * 10 + 6, none⟩ (.string ⟨x.name.toArray⟩)).setCell ⟨g2, kq * 10 + 7, none⟩ (.int .i64 x.col)).setCell ⟨g2, kq * 10 + 8, none⟩ (.int .i64 x.ty)).setCell ⟨g2, kq * 10 + 9, none⟩ (.slice As ms cs)) = wz at HO7 HE7 HF7 HH7 HX7 HB7 c17 hHeld ⊢
                    have HG7 : Asd (Gath wz w.heap.size b5 R f (ps ++ [((x, Value.slice As ms cs) : Ex × Value)]) (kq + 1) (some ⟨g2, 0, none⟩) cap2) := Asd.mk ⟨HE7.out, HO7.out, by rw [List.length_append, HGDbc.out.len]; rfl, fun p hp => by
                      have hM : ∀ g, w.heap.size ≤ g ∧ g ≠ g2 → w.heap.size ≤ g ∧ (Value.slice (some ⟨g2, 0, none⟩) (kq + 1) cap2).ownBlock ≠ some g := fun g hg => ⟨hg.1, fun e => hg.2 (by simpa [Value.ownBlock] using e.symm)⟩
                      rcases List.mem_append.mp hp with hp | hp
                      · exact held_mono (HH7.out p hp) (fun g _ hg => hM g hg)
                      · simp only [List.mem_singleton] at hp
                        subst hp
                        exact held_mono HX7.out (fun g _ hg => hM g hg)⟩
                    have HR7 := Asd.mk (rdw_far HH.out HF7.out (by have := HNB.out; omega) HP5.out HE7.out HB7.out HJ.out)
                    refine wpAnyH_done (by kernel_rfl) ?_ _
                    go_wp2
                    go_roundw
                    case rel => exact ⟨(kq + 1), j, ps ++ [(x, .slice As ms cs)], some ⟨g2, 0, none⟩, cap2, by omega, by go_num, HF7, HR7, HG7, ⟨by rw [if_neg (by omega), HGN.out, List.map_append]; rfl⟩⟩
                    case measure => simp [intOf]; omega
              case gzs153 =>
                intro K hK
                go_simp
                refine (HPA.out wbDb q2 HRDb.out).mono ?_
                rintro e wcDbc ⟨hfc, hm⟩
                have HFDbc : Asd (Fr (fun k => k = R ∨ k = b5) w wcDbc) := Asd.mk (HFDb.out.trans hfc (fun k h _ => h) (fun k h _ => .inl h))
                have HGDbc := Asd.mk (HGDb.out.frS hfc (by show ¬ b5 = R; have := HNB.out; omega) (fun g hg => by show ¬ g = R; have := HNB.out; omega))
                have c1Dbc := fr_cell hfc HNB.out.2.1 c1Db
                have HSZDbc : Asd ((∀ g, (Value.slice A' kq c').ownBlock = some g → g < wbDb.heap.size) ∧ w.heap.size ≤ wbDb.heap.size) := Asd.mk ⟨fun g hg => (HGDb.out.own.lt g hg).2, HFDb.out.size⟩
                have HZDbc := Asd.mk (blk_fr HZDb.out hfc (by show ¬ bz = R; have := HBZ.out; have := HNB.out; omega))
                cases hfi : p.or q2 with
                | error er =>
                  rw [hfi] at hm
                  obtain ⟨N, rfl, hN⟩ := hm
                  refine ⟨rfl, HFDbc.out, ?_⟩
                  rw [HERR.out er hfi]
                  exact ⟨N, rfl, hN⟩
                | ok yy =>
                obtain ⟨x, j⟩ := yy
                rw [hfi] at hm
                obtain ⟨sx, rfl, hh, hr⟩ := hm
                obtain ⟨As, ms, cs, rfl⟩ := held_slice hh
                have HGN := Asd.mk (HGO.out x j hfi)
                have HXDbc : Asd (Held (fun g => w.heap.size ≤ g ∧ (Value.slice A' kq c').ownBlock ≠ some g) wcDbc x.args (.slice As ms cs)) := Asd.mk (held_mono hh (fun g _ hg => ⟨by have h1 : wbDb.heap.size ≤ g := hg; have := HSZDbc.out.2; omega, fun e => by have h1 : wbDb.heap.size ≤ g := hg; have := HSZDbc.out.1 g e; omega⟩))
                have HRDbc := Asd.mk hr
                clear hfi hh hr hfc
                unfold exV
                go_wp2_with fail
                refine hK.out _ _ (c1Dbc) (fun hHeld => ?_)
                clear hK K
                try simp only [Act.put, List.setIfInBounds_toArray, List.set_cons_zero, List.set_cons_succ]
                refine wpAnyH_ready (rs := [1]) (by kernel_rfl) (by simp) ?_
                refine AllReadyH.cons (o := ({ dst := some 28, op := Op.load 24 (Operand.tmp 27), type := 24, pos := "expr.go:263", after := #[{ on := 0, ground := Ground.data }], guard := none } : Oper)) rfl ?gzs2531 AllReadyH.nil
                case gzs2531 =>
                  have HEDbc := HGDbc.out.e
                  have x9 := (ex_cells HGDbc.out.e).2.2.2.2.2.2.2.2.2
                  intro K hK
                  go_simp
                  go_wp2_with fail
                  refine hK.out _ _ (c1Dbc) (fun hHeld => ?_)
                  clear hK K
                  try simp only [Act.put, List.setIfInBounds_toArray, List.set_cons_zero, List.set_cons_succ]
                  refine wpAnyH_take (i := 4) (oi := ({ dst := some 31, op := Op.call { callee := Callee.builtin Builtin.len, args := #[Operand.tmp 28], argTypes := #[24] }, type := 3, pos := "expr.go:263", after := #[{ on := 1, ground := Ground.data }], guard := none } : Oper)) (v := ?vzs253t4) rfl (by kernel_rfl) (by kernel_rfl) (by kernel_rfl) (fun _ _ _ h => h) (Or.inl ⟨by rfl, ?hzs253t4⟩) (by assumption) ?rzs253t4
                  case hzs253t4 => (intro w hSw; (try dsimp only at hSw); go_simp; try (with_reducible rfl))
                  try simp only [Act.put, List.setIfInBounds_toArray, List.set_cons_zero, List.set_cons_succ]
                  obtain ⟨iE, zE, hiE, hzE, hsE, hbE, hcE⟩ := rowE.hi
                  refine wpAnyH_ready (rs := [6]) (by kernel_rfl) (by simp) ?_
                  refine AllReadyH.cons (o := ({ dst := some 33, op := Op.call { callee := Callee.builtin Builtin.append, args := #[Operand.tmp 28, Operand.tmp 32], argTypes := #[24, 24] }, type := 24, pos := "expr.go:263", after := #[{ on := 1, ground := Ground.data }, { on := 5, ground := Ground.data }, { on := 3, ground := Ground.chain }, { on := 0, ground := Ground.phase }, { on := 1, ground := Ground.phase }, { on := 2, ground := Ground.phase }, { on := 3, ground := Ground.phase }, { on := 4, ground := Ground.phase }, { on := 5, ground := Ground.phase }], guard := none } : Oper)) rfl (fun K hK => ?_) AllReadyH.nil
                  refine step_append_lies wcDbc rfl (.tmp 28) (.tmp 32) _ rfl w.heap.size 26 iE zE 10 120 rowE.ht hiE hzE hsE hbE hcE rowE.pos _ kq (rowsC ps) rfl HGDbc.out.own ⟨bz, 0, none⟩ 1 1 zRow rfl rfl (World.news_of_block HZDbc.out) (by decide) (by omega) (by unfold maxLen; omega) (by omega) HFDbc.out.size wcDbc.heap.size rfl ?_
                  intro g2 cap2 w5 ho hg hor hlt5
                  clear hiE hzE hsE hbE hcE
                  have hl10 : (rowsC ps).length = kq * 10 := by rw [rowsC_len, HGDbc.out.len]
                  have hgr := Fr.of_grown (S := fun k => (Value.slice A' kq c').ownBlock = some k) hg (fun k h => h)
                  have HO5 := Asd.mk ho
                  have HG2 : Asd (w.heap.size ≤ g2) := Asd.mk (by rcases hor with e | e; exact (HGDbc.out.own.lt g2 e).1; rw [e]; exact HFDbc.out.size)
                  have hne : ∀ g, g < wcDbc.heap.size → (Value.slice A' kq c').ownBlock ≠ some g → g ≠ g2 := fun g h1 h2 e => by
                    rcases hor with e2 | e2
                    · rw [e] at h2; exact h2 e2
                    · omega
                  have hown : ∀ b, b < w.heap.size → ¬ (Value.slice A' kq c').ownBlock = some b := fun b hb e => by have := (HGDbc.out.own.lt b e).1; omega
                  have HE5 := Asd.mk (blk_fr HGDbc.out.e hgr (hown b5 (by have := HNB.out; omega)))
                  have HF5 : Asd (Fr (fun k => k = R ∨ k = b5) w w5) := Asd.mk (fr_newS HFDbc.out hgr (fun k h => .inr (HGDbc.out.own.lt k h).1))
                  have HH5 : Asd (∀ p ∈ ps, Held (fun g => w.heap.size ≤ g ∧ g ≠ g2) w5 p.1.args p.2) := Asd.mk (fun p hp => held_mono (held_frS (held_mono (HGDbc.out.held p hp) (fun g h1 h2 => (⟨h2.1, h2.2, hne g h1 h2.2⟩ : w.heap.size ≤ g ∧ (Value.slice A' kq c').ownBlock ≠ some g ∧ g ≠ g2))) hgr (fun g hg h => hg.2.1 h)) (fun g _ hg => ⟨hg.1, hg.2.2⟩))
                  have HX5 : Asd (Held (fun g => w.heap.size ≤ g ∧ g ≠ g2) w5 x.args (.slice As ms cs)) := Asd.mk (held_mono (held_frS (held_mono HXDbc.out (fun g h1 h2 => (⟨h2.1, h2.2, hne g h1 h2.2⟩ : w.heap.size ≤ g ∧ (Value.slice A' kq c').ownBlock ≠ some g ∧ g ≠ g2))) hgr (fun g hg h => hg.2.1 h)) (fun g _ hg => ⟨hg.1, hg.2.2⟩))
                  have HB5 := Asd.mk (blk_fr HRDbc.out.blk hgr (hown R (by have := HNB.out; omega)))
                  have c15 := cell_frS hgr (hown b1 (by have := HNB.out; omega)) c1Dbc
                  have HJ := Asd.mk HRDbc.out.le
                  clear ho hg hor hlt5 hgr hne hown
                  refine hK.out _ _ (c15) (fun hHeld => ?_)
                  clear hK K
                  try simp only [Act.put, List.setIfInBounds_toArray, List.set_cons_zero, List.set_cons_succ]
                  have hidx1 : (0 : Int) ≤ (kq : Int) := by omega
                  have hidx2 : (kq : Int) < (kq : Int) + 1 := by omega
                  refine wpAnyH_take (i := 7) (oi := ({ dst := some 34, op := Op.indexAddr 24 (Operand.tmp 33) (Operand.tmp 31), type := 0, pos := "expr.go:263", after := #[{ on := 6, ground := Ground.data }, { on := 4, ground := Ground.data }, { on := 0, ground := Ground.phase }, { on := 1, ground := Ground.phase }, { on := 2, ground := Ground.phase }, { on := 3, ground := Ground.phase }, { on := 4, ground := Ground.phase }, { on := 5, ground := Ground.phase }, { on := 6, ground := Ground.phase }, { on := 10, ground := Ground.gcOnly Departure.appendInPlace }], guard := none } : Oper)) (v := ?vus5317) rfl (by kernel_rfl) (by kernel_rfl) (by kernel_rfl) (fun _ _ _ h => h) (Or.inl ⟨by rfl, ?hus5317⟩) (by assumption) ?rus5317
                  case hus5317 => (intro w hSw; (try dsimp only at hSw); go_simp; try (with_reducible rfl))
                  try simp only [Act.put, List.setIfInBounds_toArray, List.set_cons_zero, List.set_cons_succ]
                  refine wpAnyH_take (i := 9) (oi := ({ dst := some 35, op := Op.fieldAddr 26 (Operand.tmp 2) 7, type := 0, pos := "expr.go:263", after := #[{ on := 0, ground := Ground.phase }, { on := 1, ground := Ground.phase }, { on := 2, ground := Ground.phase }, { on := 3, ground := Ground.phase }, { on := 4, ground := Ground.phase }, { on := 5, ground := Ground.phase }, { on := 6, ground := Ground.phase }, { on := 7, ground := Ground.textOnly Departure.appendInPlace }, { on := 8, ground := Ground.textOnly Departure.appendInPlace }], guard := none } : Oper)) (v := ?vws5319) rfl (by kernel_rfl) (by kernel_rfl) (by kernel_rfl) (fun _ _ _ h => h) (Or.inl ⟨by rfl, ?hws5319⟩) (by assumption) ?rws5319
                  case hws5319 => (intro w hSw; (try dsimp only at hSw); go_simp; try (with_reducible rfl))
                  try simp only [Act.put, List.setIfInBounds_toArray, List.set_cons_zero, List.set_cons_succ]
                  refine wpAnyH_ready (rs := [8, 10]) (by kernel_rfl) (by simp) ?_
                  refine AllReadyH.cons (o := ({ dst := none, op := Op.store 26 (Operand.tmp 34) (Operand.tmp 30), type := 0, pos := "expr.go:263", after := #[{ on := 7, ground := Ground.data }, { on := 3, ground := Ground.data }, { on := 6, ground := Ground.chain }, { on := 0, ground := Ground.phase }, { on := 1, ground := Ground.phase }, { on := 2, ground := Ground.phase }, { on := 3, ground := Ground.phase }, { on := 4, ground := Ground.phase }, { on := 5, ground := Ground.phase }, { on := 6, ground := Ground.phase }, { on := 10, ground := Ground.gcOnly Departure.appendInPlace }], guard := none } : Oper)) rfl ?ks531a (AllReadyH.cons (o := ({ dst := none, op := Op.store 24 (Operand.tmp 35) (Operand.tmp 33), type := 0, pos := "expr.go:263", after := #[{ on := 9, ground := Ground.data }, { on := 6, ground := Ground.data }, { on := 6, ground := Ground.chain }, { on := 8, ground := Ground.textOnly Departure.appendInPlace }, { on := 0, ground := Ground.phase }, { on := 1, ground := Ground.phase }, { on := 2, ground := Ground.phase }, { on := 3, ground := Ground.phase }, { on := 4, ground := Ground.phase }, { on := 5, ground := Ground.phase }, { on := 6, ground := Ground.phase }, { on := 7, ground := Ground.textOnly Departure.appendInPlace }, { on := 8, ground := Ground.textOnly Departure.appendInPlace }], guard := none } : Oper)) rfl ?ks531b AllReadyH.nil)
                  case ks531a =>
                    have y0 : w5.cell? ⟨g2, kq * 10, none⟩ = some (.int .i64 0) := own_zero hl10 HO5.out 0 (by decide)
                    have y1 : w5.cell? ⟨g2, kq * 10 + 1, none⟩ = some (.int .i64 0) := own_zero hl10 HO5.out 1 (by decide)
                    have y2 : w5.cell? ⟨g2, kq * 10 + 2, none⟩ = some (.int .i64 0) := own_zero hl10 HO5.out 2 (by decide)
                    have y3 : w5.cell? ⟨g2, kq * 10 + 3, none⟩ = some (.int .i64 0) := own_zero hl10 HO5.out 3 (by decide)
                    have y4 : w5.cell? ⟨g2, kq * 10 + 4, none⟩ = some (.string ⟨#[]⟩) := own_zero hl10 HO5.out 4 (by decide)
                    have y5 : w5.cell? ⟨g2, kq * 10 + 5, none⟩ = some (.string ⟨#[]⟩) := own_zero hl10 HO5.out 5 (by decide)
                    have y6 : w5.cell? ⟨g2, kq * 10 + 6, none⟩ = some (.string ⟨#[]⟩) := own_zero hl10 HO5.out 6 (by decide)
                    have y7 : w5.cell? ⟨g2, kq * 10 + 7, none⟩ = some (.int .i64 0) := own_zero hl10 HO5.out 7 (by decide)
                    have y8 : w5.cell? ⟨g2, kq * 10 + 8, none⟩ = some (.int .i64 0) := own_zero hl10 HO5.out 8 (by decide)
                    have y9 : w5.cell? ⟨g2, kq * 10 + 9, none⟩ = some (.slice none 0 0) := own_zero hl10 HO5.out 9 (by decide)
                    have z0 : w5.frozen? ⟨g2, kq * 10, none⟩ = false := HO5.out.frozenAt _
                    have z1 : w5.frozen? ⟨g2, kq * 10 + 1, none⟩ = false := HO5.out.frozenAt _
                    have z2 : w5.frozen? ⟨g2, kq * 10 + 2, none⟩ = false := HO5.out.frozenAt _
                    have z3 : w5.frozen? ⟨g2, kq * 10 + 3, none⟩ = false := HO5.out.frozenAt _
                    have z4 : w5.frozen? ⟨g2, kq * 10 + 4, none⟩ = false := HO5.out.frozenAt _
                    have z5 : w5.frozen? ⟨g2, kq * 10 + 5, none⟩ = false := HO5.out.frozenAt _
                    have z6 : w5.frozen? ⟨g2, kq * 10 + 6, none⟩ = false := HO5.out.frozenAt _
                    have z7 : w5.frozen? ⟨g2, kq * 10 + 7, none⟩ = false := HO5.out.frozenAt _
                    have z8 : w5.frozen? ⟨g2, kq * 10 + 8, none⟩ = false := HO5.out.frozenAt _
                    have z9 : w5.frozen? ⟨g2, kq * 10 + 9, none⟩ = false := HO5.out.frozenAt _
                    have hpf : Fr (fun k => k = g2) w5 ((((((((((w5.setCell ⟨g2, kq * 10, none⟩ (.int .i64 x.kind)).setCell ⟨g2, kq * 10 + 1, none⟩ (.int .i64 x.op)).setCell ⟨g2, kq * 10 + 2, none⟩ (.int .i64 x.v.kind)).setCell ⟨g2, kq * 10 + 3, none⟩ (.int .i64 x.v.int)).setCell ⟨g2, kq * 10 + 4, none⟩ (.string ⟨x.v.text.toArray⟩)).setCell ⟨g2, kq * 10 + 5, none⟩ (.string ⟨x.table.toArray⟩)).setCell ⟨g2, kq * 10 + 6, none⟩ (.string ⟨x.name.toArray⟩)).setCell ⟨g2, kq * 10 + 7, none⟩ (.int .i64 x.col)).setCell ⟨g2, kq * 10 + 8, none⟩ (.int .i64 x.ty)).setCell ⟨g2, kq * 10 + 9, none⟩ (.slice As ms cs)) := put_fr _ _ _ _ _ _ _ _ _ _
                    have HO6 : Asd (((((((((((w5.setCell ⟨g2, kq * 10, none⟩ (.int .i64 x.kind)).setCell ⟨g2, kq * 10 + 1, none⟩ (.int .i64 x.op)).setCell ⟨g2, kq * 10 + 2, none⟩ (.int .i64 x.v.kind)).setCell ⟨g2, kq * 10 + 3, none⟩ (.int .i64 x.v.int)).setCell ⟨g2, kq * 10 + 4, none⟩ (.string ⟨x.v.text.toArray⟩)).setCell ⟨g2, kq * 10 + 5, none⟩ (.string ⟨x.table.toArray⟩)).setCell ⟨g2, kq * 10 + 6, none⟩ (.string ⟨x.name.toArray⟩)).setCell ⟨g2, kq * 10 + 7, none⟩ (.int .i64 x.col)).setCell ⟨g2, kq * 10 + 8, none⟩ (.int .i64 x.ty)).setCell ⟨g2, kq * 10 + 9, none⟩ (.slice As ms cs)).ownsRow w.heap.size 26 10 (.slice (some ⟨g2, 0, none⟩) (kq + 1) cap2) (kq + 1) (rowsC (ps ++ [((x, Value.slice As ms cs) : Ex × Value)]))) := Asd.mk (by rw [rowsC_snoc]; exact own_put hl10 HO5.out _ _ _ _ _ _ _ _ _ _)
                    have HE6 := Asd.mk (blk_fr HE5.out hpf (by show ¬ b5 = g2; have := HG2.out; have := HNB.out; omega))
                    have HF6 := Asd.mk (fr_newS HF5.out hpf (fun k h => .inr (by have h1 : k = g2 := h; have := HG2.out; omega)))
                    have HH6 := Asd.mk (fun p (hp : p ∈ ps) => held_frS (HH5.out p hp) hpf (fun g hg h => hg.2 h))
                    have HX6 := Asd.mk (held_frS HX5.out hpf (fun g hg h => hg.2 h))
                    have HB6 := Asd.mk (blk_fr HB5.out hpf (by show ¬ R = g2; have := HG2.out; have := HNB.out; omega))
                    have c16 := cell_frS hpf (by show ¬ b1 = g2; have := HG2.out; have := HNB.out; omega) c15
                    clear hpf
                    intro K hK
                    go_simp
                    go_wp2_with fail
                    refine hK.out _ _ (c16) (fun hHeld => ?_)
                    clear hK K
                    try simp only [Act.put, List.setIfInBounds_toArray, List.set_cons_zero, List.set_cons_succ]
                    generalize ((((((((((w5.setCell ⟨g2, kq * 10, none⟩ (.int .i64 x.kind)).setCell ⟨g2, kq * 10 + 1, none⟩ (.int .i64 x.op)).setCell ⟨g2, kq * 10 + 2, none⟩ (.int .i64 x.v.kind)).setCell ⟨g2, kq * 10 + 3, none⟩ (.int .i64 x.v.int)).setCell ⟨g2, kq * 10 + 4, none⟩ (.string ⟨x.v.text.toArray⟩)).setCell ⟨g2, kq * 10 + 5, none⟩ (.string ⟨x.table.toArray⟩)).setCell ⟨g2, kq * 10 + 6, none⟩ (.string ⟨x.name.toArray⟩)).setCell ⟨g2, kq * 10 + 7, none⟩ (.int .i64 x.col)).setCell ⟨g2, kq * 10 + 8, none⟩ (.int .i64 x.ty)).setCell ⟨g2, kq * 10 + 9, none⟩ (.slice As ms cs)) = w6 at HO6 HE6 HF6 HH6 HX6 HB6 c16 hHeld ⊢
                    have x9b := (ex_cells HE6.out).2.2.2.2.2.2.2.2.2
                    have z9b := blk_frozen HE6.out 9
                    have hsf := Fr.setCell (S := fun k => k = b5) (Fr.refl _ w6) (p := ⟨b5, 9, none⟩) rfl (.slice (some ⟨g2, 0, none⟩) (kq + 1) cap2)
                    have HE7 : Asd ((w6.setCell ⟨b5, 9, none⟩ (.slice (some ⟨g2, 0, none⟩) (kq + 1) cap2)).heap[b5]? = some (.cells (exC (callE f.1 f.2.1 ((ps ++ [((x, Value.slice As ms cs) : Ex × Value)]).map (fun z => z.1))) (.slice (some ⟨g2, 0, none⟩) (kq + 1) cap2)).toArray 26 (0, 0))) := Asd.mk (blk_set9 HE6.out _ rfl)
                    have HO7 := Asd.mk (own_frS HO6.out hsf (fun g h e => by have h1 : g = b5 := e; have := HNB.out; omega))
                    have HF7 := Asd.mk (fr_newS HF6.out hsf (fun k h => .inl (.inr h)))
                    have hS : ∀ g, w.heap.size ≤ g ∧ g ≠ g2 → ¬ g = b5 := fun g hg e => by have := HNB.out; omega
                    have HH7 := Asd.mk (fun p (hp : p ∈ ps) => held_frS (HH6.out p hp) hsf hS)
                    have HX7 := Asd.mk (held_frS HX6.out hsf hS)
                    have HB7 := Asd.mk (blk_fr HB6.out hsf (by show ¬ R = b5; have := HNB.out; omega))
                    have c17 := cell_frS hsf (by show ¬ b1 = b5; have := HNB.out; omega) c16
                    clear hsf hS
                    refine wpAnyH_ready (rs := [10]) (by kernel_rfl) (by simp) ?_
                    refine AllReadyH.cons (o := ({ dst := none, op := Op.store 24 (Operand.tmp 35) (Operand.tmp 33), type := 0, pos := "expr.go:263", after := #[{ on := 9, ground := Ground.data }, { on := 6, ground := Ground.data }, { on := 6, ground := Ground.chain }, { on := 8, ground := Ground.textOnly Departure.appendInPlace }, { on := 0, ground := Ground.phase }, { on := 1, ground := Ground.phase }, { on := 2, ground := Ground.phase }, { on := 3, ground := Ground.phase }, { on := 4, ground := Ground.phase }, { on := 5, ground := Ground.phase }, { on := 6, ground := Ground.phase }, { on := 7, ground := Ground.textOnly Departure.appendInPlace }, { on := 8, ground := Ground.textOnly Departure.appendInPlace }], guard := none } : Oper)) rfl (fun K hK => ?_) AllReadyH.nil
                    go_simp
                    go_wp2_with fail
                    refine hK.out _ _ (c17) (fun hHeld => ?_)
                    clear hK K
                    try simp only [Act.put, List.setIfInBounds_toArray, List.set_cons_zero, List.set_cons_succ]
                    generalize (w6.setCell ⟨b5, 9, none⟩ (.slice (some ⟨g2, 0, none⟩) (kq + 1) cap2)) = wz at HO7 HE7 HF7 HH7 HX7 HB7 c17 hHeld ⊢
                    have HG7 : Asd (Gath wz w.heap.size b5 R f (ps ++ [((x, Value.slice As ms cs) : Ex × Value)]) (kq + 1) (some ⟨g2, 0, none⟩) cap2) := Asd.mk ⟨HE7.out, HO7.out, by rw [List.length_append, HGDbc.out.len]; rfl, fun p hp => by
                      have hM : ∀ g, w.heap.size ≤ g ∧ g ≠ g2 → w.heap.size ≤ g ∧ (Value.slice (some ⟨g2, 0, none⟩) (kq + 1) cap2).ownBlock ≠ some g := fun g hg => ⟨hg.1, fun e => hg.2 (by simpa [Value.ownBlock] using e.symm)⟩
                      rcases List.mem_append.mp hp with hp | hp
                      · exact held_mono (HH7.out p hp) (fun g _ hg => hM g hg)
                      · simp only [List.mem_singleton] at hp
                        subst hp
                        exact held_mono HX7.out (fun g _ hg => hM g hg)⟩
                    have HR7 := Asd.mk (rdw_far HH.out HF7.out (by have := HNB.out; omega) HP5.out HE7.out HB7.out HJ.out)
                    refine wpAnyH_done (by kernel_rfl) ?_ _
                    go_wp2
                    go_roundw
                    case rel => exact ⟨(kq + 1), j, ps ++ [(x, .slice As ms cs)], some ⟨g2, 0, none⟩, cap2, by omega, by go_num, HF7, HR7, HG7, ⟨by rw [if_neg (by omega), HGN.out, List.map_append]; rfl⟩⟩
                    case measure => simp [intOf]; omega
                  case ks531b =>
                    have x9b := (ex_cells HE5.out).2.2.2.2.2.2.2.2.2
                    have z9b := blk_frozen HE5.out 9
                    have hsf := Fr.setCell (S := fun k => k = b5) (Fr.refl _ w5) (p := ⟨b5, 9, none⟩) rfl (.slice (some ⟨g2, 0, none⟩) (kq + 1) cap2)
                    have HE6 : Asd ((w5.setCell ⟨b5, 9, none⟩ (.slice (some ⟨g2, 0, none⟩) (kq + 1) cap2)).heap[b5]? = some (.cells (exC (callE f.1 f.2.1 ((ps ++ [((x, Value.slice As ms cs) : Ex × Value)]).map (fun z => z.1))) (.slice (some ⟨g2, 0, none⟩) (kq + 1) cap2)).toArray 26 (0, 0))) := Asd.mk (blk_set9 HE5.out _ rfl)
                    have HO6 := Asd.mk (own_frS HO5.out hsf (fun g h e => by have h1 : g = b5 := e; have := HNB.out; omega))
                    have HF6 := Asd.mk (fr_newS HF5.out hsf (fun k h => .inl (.inr h)))
                    have hS : ∀ g, w.heap.size ≤ g ∧ g ≠ g2 → ¬ g = b5 := fun g hg e => by have := HNB.out; omega
                    have HH6 := Asd.mk (fun p (hp : p ∈ ps) => held_frS (HH5.out p hp) hsf hS)
                    have HX6 := Asd.mk (held_frS HX5.out hsf hS)
                    have HB6 := Asd.mk (blk_fr HB5.out hsf (by show ¬ R = b5; have := HNB.out; omega))
                    have c16 := cell_frS hsf (by show ¬ b1 = b5; have := HNB.out; omega) c15
                    clear hsf hS
                    intro K hK
                    go_simp
                    go_wp2_with fail
                    refine hK.out _ _ (c16) (fun hHeld => ?_)
                    clear hK K
                    try simp only [Act.put, List.setIfInBounds_toArray, List.set_cons_zero, List.set_cons_succ]
                    generalize (w5.setCell ⟨b5, 9, none⟩ (.slice (some ⟨g2, 0, none⟩) (kq + 1) cap2)) = w6 at HO6 HE6 HF6 HH6 HX6 HB6 c16 hHeld ⊢
                    have y0 : w6.cell? ⟨g2, kq * 10, none⟩ = some (.int .i64 0) := own_zero hl10 HO6.out 0 (by decide)
                    have y1 : w6.cell? ⟨g2, kq * 10 + 1, none⟩ = some (.int .i64 0) := own_zero hl10 HO6.out 1 (by decide)
                    have y2 : w6.cell? ⟨g2, kq * 10 + 2, none⟩ = some (.int .i64 0) := own_zero hl10 HO6.out 2 (by decide)
                    have y3 : w6.cell? ⟨g2, kq * 10 + 3, none⟩ = some (.int .i64 0) := own_zero hl10 HO6.out 3 (by decide)
                    have y4 : w6.cell? ⟨g2, kq * 10 + 4, none⟩ = some (.string ⟨#[]⟩) := own_zero hl10 HO6.out 4 (by decide)
                    have y5 : w6.cell? ⟨g2, kq * 10 + 5, none⟩ = some (.string ⟨#[]⟩) := own_zero hl10 HO6.out 5 (by decide)
                    have y6 : w6.cell? ⟨g2, kq * 10 + 6, none⟩ = some (.string ⟨#[]⟩) := own_zero hl10 HO6.out 6 (by decide)
                    have y7 : w6.cell? ⟨g2, kq * 10 + 7, none⟩ = some (.int .i64 0) := own_zero hl10 HO6.out 7 (by decide)
                    have y8 : w6.cell? ⟨g2, kq * 10 + 8, none⟩ = some (.int .i64 0) := own_zero hl10 HO6.out 8 (by decide)
                    have y9 : w6.cell? ⟨g2, kq * 10 + 9, none⟩ = some (.slice none 0 0) := own_zero hl10 HO6.out 9 (by decide)
                    have z0 : w6.frozen? ⟨g2, kq * 10, none⟩ = false := HO6.out.frozenAt _
                    have z1 : w6.frozen? ⟨g2, kq * 10 + 1, none⟩ = false := HO6.out.frozenAt _
                    have z2 : w6.frozen? ⟨g2, kq * 10 + 2, none⟩ = false := HO6.out.frozenAt _
                    have z3 : w6.frozen? ⟨g2, kq * 10 + 3, none⟩ = false := HO6.out.frozenAt _
                    have z4 : w6.frozen? ⟨g2, kq * 10 + 4, none⟩ = false := HO6.out.frozenAt _
                    have z5 : w6.frozen? ⟨g2, kq * 10 + 5, none⟩ = false := HO6.out.frozenAt _
                    have z6 : w6.frozen? ⟨g2, kq * 10 + 6, none⟩ = false := HO6.out.frozenAt _
                    have z7 : w6.frozen? ⟨g2, kq * 10 + 7, none⟩ = false := HO6.out.frozenAt _
                    have z8 : w6.frozen? ⟨g2, kq * 10 + 8, none⟩ = false := HO6.out.frozenAt _
                    have z9 : w6.frozen? ⟨g2, kq * 10 + 9, none⟩ = false := HO6.out.frozenAt _
                    have hpf : Fr (fun k => k = g2) w6 ((((((((((w6.setCell ⟨g2, kq * 10, none⟩ (.int .i64 x.kind)).setCell ⟨g2, kq * 10 + 1, none⟩ (.int .i64 x.op)).setCell ⟨g2, kq * 10 + 2, none⟩ (.int .i64 x.v.kind)).setCell ⟨g2, kq * 10 + 3, none⟩ (.int .i64 x.v.int)).setCell ⟨g2, kq * 10 + 4, none⟩ (.string ⟨x.v.text.toArray⟩)).setCell ⟨g2, kq * 10 + 5, none⟩ (.string ⟨x.table.toArray⟩)).setCell ⟨g2, kq * 10 + 6, none⟩ (.string ⟨x.name.toArray⟩)).setCell ⟨g2, kq * 10 + 7, none⟩ (.int .i64 x.col)).setCell ⟨g2, kq * 10 + 8, none⟩ (.int .i64 x.ty)).setCell ⟨g2, kq * 10 + 9, none⟩ (.slice As ms cs)) := put_fr _ _ _ _ _ _ _ _ _ _
                    have HO7 : Asd (((((((((((w6.setCell ⟨g2, kq * 10, none⟩ (.int .i64 x.kind)).setCell ⟨g2, kq * 10 + 1, none⟩ (.int .i64 x.op)).setCell ⟨g2, kq * 10 + 2, none⟩ (.int .i64 x.v.kind)).setCell ⟨g2, kq * 10 + 3, none⟩ (.int .i64 x.v.int)).setCell ⟨g2, kq * 10 + 4, none⟩ (.string ⟨x.v.text.toArray⟩)).setCell ⟨g2, kq * 10 + 5, none⟩ (.string ⟨x.table.toArray⟩)).setCell ⟨g2, kq * 10 + 6, none⟩ (.string ⟨x.name.toArray⟩)).setCell ⟨g2, kq * 10 + 7, none⟩ (.int .i64 x.col)).setCell ⟨g2, kq * 10 + 8, none⟩ (.int .i64 x.ty)).setCell ⟨g2, kq * 10 + 9, none⟩ (.slice As ms cs)).ownsRow w.heap.size 26 10 (.slice (some ⟨g2, 0, none⟩) (kq + 1) cap2) (kq + 1) (rowsC (ps ++ [((x, Value.slice As ms cs) : Ex × Value)]))) := Asd.mk (by rw [rowsC_snoc]; exact own_put hl10 HO6.out _ _ _ _ _ _ _ _ _ _)
                    have HE7 := Asd.mk (blk_fr HE6.out hpf (by show ¬ b5 = g2; have := HG2.out; have := HNB.out; omega))
                    have HF7 := Asd.mk (fr_newS HF6.out hpf (fun k h => .inr (by have h1 : k = g2 := h; have := HG2.out; omega)))
                    have HH7 := Asd.mk (fun p (hp : p ∈ ps) => held_frS (HH6.out p hp) hpf (fun g hg h => hg.2 h))
                    have HX7 := Asd.mk (held_frS HX6.out hpf (fun g hg h => hg.2 h))
                    have HB7 := Asd.mk (blk_fr HB6.out hpf (by show ¬ R = g2; have := HG2.out; have := HNB.out; omega))
                    have c17 := cell_frS hpf (by show ¬ b1 = g2; have := HG2.out; have := HNB.out; omega) c16
                    clear hpf
                    refine wpAnyH_ready (rs := [8]) (by kernel_rfl) (by simp) ?_
                    refine AllReadyH.cons (o := ({ dst := none, op := Op.store 26 (Operand.tmp 34) (Operand.tmp 30), type := 0, pos := "expr.go:263", after := #[{ on := 7, ground := Ground.data }, { on := 3, ground := Ground.data }, { on := 6, ground := Ground.chain }, { on := 0, ground := Ground.phase }, { on := 1, ground := Ground.phase }, { on := 2, ground := Ground.phase }, { on := 3, ground := Ground.phase }, { on := 4, ground := Ground.phase }, { on := 5, ground := Ground.phase }, { on := 6, ground := Ground.phase }, { on := 10, ground := Ground.gcOnly Departure.appendInPlace }], guard := none } : Oper)) rfl (fun K hK => ?_) AllReadyH.nil
                    go_simp
                    go_wp2_with fail
                    refine hK.out _ _ (c17) (fun hHeld => ?_)
                    clear hK K
                    try simp only [Act.put, List.setIfInBounds_toArray, List.set_cons_zero, List.set_cons_succ]
                    generalize ((((((((((w6.setCell ⟨g2, kq * 10, none⟩ (.int .i64 x.kind)).setCell ⟨g2, kq * 10 + 1, none⟩ (.int .i64 x.op)).setCell ⟨g2, kq * 10 + 2, none⟩ (.int .i64 x.v.kind)).setCell ⟨g2, kq * 10 + 3, none⟩ (.int .i64 x.v.int)).setCell ⟨g2, kq * 10 + 4, none⟩ (.string ⟨x.v.text.toArray⟩)).setCell ⟨g2, kq * 10 + 5, none⟩ (.string ⟨x.table.toArray⟩)).setCell ⟨g2, kq * 10 + 6, none⟩ (.string ⟨x.name.toArray⟩)).setCell ⟨g2, kq * 10 + 7, none⟩ (.int .i64 x.col)).setCell ⟨g2, kq * 10 + 8, none⟩ (.int .i64 x.ty)).setCell ⟨g2, kq * 10 + 9, none⟩ (.slice As ms cs)) = wz at HO7 HE7 HF7 HH7 HX7 HB7 c17 hHeld ⊢
                    have HG7 : Asd (Gath wz w.heap.size b5 R f (ps ++ [((x, Value.slice As ms cs) : Ex × Value)]) (kq + 1) (some ⟨g2, 0, none⟩) cap2) := Asd.mk ⟨HE7.out, HO7.out, by rw [List.length_append, HGDbc.out.len]; rfl, fun p hp => by
                      have hM : ∀ g, w.heap.size ≤ g ∧ g ≠ g2 → w.heap.size ≤ g ∧ (Value.slice (some ⟨g2, 0, none⟩) (kq + 1) cap2).ownBlock ≠ some g := fun g hg => ⟨hg.1, fun e => hg.2 (by simpa [Value.ownBlock] using e.symm)⟩
                      rcases List.mem_append.mp hp with hp | hp
                      · exact held_mono (HH7.out p hp) (fun g _ hg => hM g hg)
                      · simp only [List.mem_singleton] at hp
                        subst hp
                        exact held_mono HX7.out (fun g _ hg => hM g hg)⟩
                    have HR7 := Asd.mk (rdw_far HH.out HF7.out (by have := HNB.out; omega) HP5.out HE7.out HB7.out HJ.out)
                    refine wpAnyH_done (by kernel_rfl) ?_ _
                    go_wp2
                    go_roundw
                    case rel => exact ⟨(kq + 1), j, ps ++ [(x, .slice As ms cs)], some ⟨g2, 0, none⟩, cap2, by omega, by go_num, HF7, HR7, HG7, ⟨by rw [if_neg (by omega), HGN.out, List.map_append]; rfl⟩⟩
                    case measure => simp [intOf]; omega
        · obtain rfl : k = f.2.2 := by omega
          have hk0 : ¬ f.2.2 = 0 := by omega
          have HAR : Asd (argsP l p f.2.2 i = .ok (ps.map (·.1), q)) := Asd.mk (by have h1 := HA.out; rw [if_neg hk0, Nat.sub_self] at h1; exact h1)
          clear hk0 hlt
          go_wp2_with fail
          refine (must_calls R A m c l q d 5 [41] wr HNE.out (by omega) HRW.out).mono ?_
          rintro e w2 ⟨hf2, hm⟩
          have HF2 : Asd (Fr (fun k => k = R ∨ k = b5) w w2) := Asd.mk (HFW.out.trans hf2 (fun k h _ => h) (fun k h _ => .inl h))
          have HG2 := Asd.mk (HG.out.frS hf2 (by show ¬ b5 = R; have := HNB.out; omega) (fun g hg => by show ¬ g = R; have := HNB.out; omega))
          clear hf2
          cases hM : mustT l q 5 [41] with
          | error er =>
            rw [hM] at hm
            obtain ⟨N, rfl, hN⟩ := hm
            have HE : Asd (inC l p f i = .error er) := Asd.mk (by unfold inC; rw [if_neg HK.out, HAR.out]; simp only; rw [hM])
            clear hM
            go_wp2
            refine ⟨rfl, HF2.out, ?_⟩
            rw [HE.out]
            exact ⟨N, rfl, hN⟩
          | ok j =>
            rw [hM] at hm
            obtain ⟨rfl, hr2⟩ := hm
            have HR2 := Asd.mk hr2
            have HE : Asd (inC l p f i = .ok (callE f.1 f.2.1 (ps.map (·.1)), j)) := Asd.mk (by unfold inC; rw [if_neg HK.out, HAR.out]; simp only; rw [hM])
            clear hM hr2
            go_wp2
            first | refine bodyPost_ret (results_none rfl _ _ _) rfl ?_ | refine bodyPost_end (results_none rfl _ _ _) rfl ?_
            refine ⟨HF2.out, ?_⟩
            rw [HE.out]
            refine ⟨rfl, HR2.out, A', _, c', HG2.out.e, ?_⟩
            refine held_mono (held_of_own (P := fun g => w.heap.size ≤ g) (fun g h => h) ps HG2.out.len.symm HG2.out.own (fun p hp => held_mono (HG2.out.held p hp) (fun g _ hg => hg.1))) (fun g _ hg => ⟨hg, by have := HNB.out; omega⟩)

set_option maxRecDepth 100000 in
theorem call_calls (R : Nat) (A : Option Addr) (m c : Nat) (l : Toks) (sub : Option PF) (f : Int × Int × Nat) (i d : Nat) (w : World) (hnear : Near l) (hd : d ≤ 32) (hn : 1 ≤ f.2.2 ∧ f.2.2 ≤ 3) (hi : i < l.length)
    (hsome : ∀ p, sub = some p → d < 32 ∧ PartOK 59 R A m c l p.or (d + 1)) (hnone : sub = none → ¬ d < 32) (h : RdW w R A m c l i d) :
    Calls Tryz.prog 137 #[.pointer (some ⟨R, 0, none⟩), .agg #[.int .i64 f.1, .int .i64 f.2.1, .int .i64 (f.2.2 : Nat)]] w (Got R A m c l d w (callP l sub f i)) := by
  have HH := Asd.mk h
  have HSO := Asd.mk hsome
  have HNO := Asd.mk hnone
  have HNE := Asd.mk hnear
  have HD := Asd.mk hd
  have HN := Asd.mk hn
  have HI := Asd.mk hi
  have hmf := mk_func
  have HRW : Asd (R < w.heap.size) := Asd.mk (blk_lt h.blk)
  have HBB := Asd.mk (below_alloc (below_alloc (below_alloc (below_alloc (Below.refl _ w) (.cells #[.pointer (some ⟨R, 0, none⟩)] 91 (0, 0))) (.cells #[.int .i64 f.1, .int .i64 f.2.1, .int .i64 (f.2.2 : Nat)] 163 (0, 0))) (.cells #[.int .i64 0, .int .i64 0, .int .i64 0, .int .i64 0, .string ⟨#[]⟩, .string ⟨#[]⟩, .string ⟨#[]⟩, .int .i64 0, .int .i64 0, .slice none 0 0] 26 (0, 0))) (.cells #[.int .i64 f.1, .int .i64 f.2.1, .int .i64 0, .int .i64 0, .string ⟨#[]⟩, .string ⟨#[]⟩, .string ⟨#[]⟩, .int .i64 0, .int .i64 0, .slice none 0 0] 26 (0, 0)))
  have HP1 := Asd.mk (blk_alloc (blk_alloc (blk_alloc (blk_new w (.cells #[.pointer (some ⟨R, 0, none⟩)] 91 (0, 0))) (.cells #[.int .i64 f.1, .int .i64 f.2.1, .int .i64 (f.2.2 : Nat)] 163 (0, 0))) (.cells #[.int .i64 0, .int .i64 0, .int .i64 0, .int .i64 0, .string ⟨#[]⟩, .string ⟨#[]⟩, .string ⟨#[]⟩, .int .i64 0, .int .i64 0, .slice none 0 0] 26 (0, 0))) (.cells #[.int .i64 f.1, .int .i64 f.2.1, .int .i64 0, .int .i64 0, .string ⟨#[]⟩, .string ⟨#[]⟩, .string ⟨#[]⟩, .int .i64 0, .int .i64 0, .slice none 0 0] 26 (0, 0)))
  have HPF := Asd.mk (blk_alloc (blk_alloc (nb1 w (.cells #[.pointer (some ⟨R, 0, none⟩)] 91 (0, 0)) (.cells #[.int .i64 f.1, .int .i64 f.2.1, .int .i64 (f.2.2 : Nat)] 163 (0, 0))) (.cells #[.int .i64 0, .int .i64 0, .int .i64 0, .int .i64 0, .string ⟨#[]⟩, .string ⟨#[]⟩, .string ⟨#[]⟩, .int .i64 0, .int .i64 0, .slice none 0 0] 26 (0, 0))) (.cells #[.int .i64 f.1, .int .i64 f.2.1, .int .i64 0, .int .i64 0, .string ⟨#[]⟩, .string ⟨#[]⟩, .string ⟨#[]⟩, .int .i64 0, .int .i64 0, .slice none 0 0] 26 (0, 0)))
  have HZ5 := Asd.mk (blk_alloc (nb2 w (.cells #[.pointer (some ⟨R, 0, none⟩)] 91 (0, 0)) (.cells #[.int .i64 f.1, .int .i64 f.2.1, .int .i64 (f.2.2 : Nat)] 163 (0, 0)) (.cells #[.int .i64 0, .int .i64 0, .int .i64 0, .int .i64 0, .string ⟨#[]⟩, .string ⟨#[]⟩, .string ⟨#[]⟩, .int .i64 0, .int .i64 0, .slice none 0 0] 26 (0, 0))) (.cells #[.int .i64 f.1, .int .i64 f.2.1, .int .i64 0, .int .i64 0, .string ⟨#[]⟩, .string ⟨#[]⟩, .string ⟨#[]⟩, .int .i64 0, .int .i64 0, .slice none 0 0] 26 (0, 0)))
  have HU0 := Asd.mk (nb3 w (.cells #[.pointer (some ⟨R, 0, none⟩)] 91 (0, 0)) (.cells #[.int .i64 f.1, .int .i64 f.2.1, .int .i64 (f.2.2 : Nat)] 163 (0, 0)) (.cells #[.int .i64 0, .int .i64 0, .int .i64 0, .int .i64 0, .string ⟨#[]⟩, .string ⟨#[]⟩, .string ⟨#[]⟩, .int .i64 0, .int .i64 0, .slice none 0 0] 26 (0, 0)) (.cells #[.int .i64 f.1, .int .i64 f.2.1, .int .i64 0, .int .i64 0, .string ⟨#[]⟩, .string ⟨#[]⟩, .string ⟨#[]⟩, .int .i64 0, .int .i64 0, .slice none 0 0] 26 (0, 0)))
  clear h hsome hnone hnear hd hn hi
  go_enter Tryz.func137, Tryz.ntmps137
  have c1 := (blk_cell HP1.out 0).trans rfl
  go_wp2_with fail
  generalize (((w.alloc (.cells #[.pointer (some ⟨R, 0, none⟩)] 91 (0, 0))).alloc (.cells #[.int .i64 f.1, .int .i64 f.2.1, .int .i64 (f.2.2 : Nat)] 163 (0, 0))).alloc (.cells #[.int .i64 0, .int .i64 0, .int .i64 0, .int .i64 0, .string ⟨#[]⟩, .string ⟨#[]⟩, .string ⟨#[]⟩, .int .i64 0, .int .i64 0, .slice none 0 0] 26 (0, 0))).alloc (.cells #[.int .i64 f.1, .int .i64 f.2.1, .int .i64 0, .int .i64 0, .string ⟨#[]⟩, .string ⟨#[]⟩, .string ⟨#[]⟩, .int .i64 0, .int .i64 0, .slice none 0 0] 26 (0, 0)) = w4 at HBB HP1 HPF HZ5 HU0 ⊢
  have HRD := Asd.mk (HH.out.below HBB.out)
  have HB4 : Asd (w.heap.size + 1 + 1 + 1 < w4.heap.size) := Asd.mk (blk_lt HU0.out)
  cases hs : sub with
  | none =>
    have HE : Asd (callP l sub f i = .error (stopAt l i, 21)) := Asd.mk (by rw [hs]; rfl)
    have hnd := HNO.out hs
    refine (within_calls 145 #[.pointer (some ⟨w.heap.size + 1, 0, none⟩), .pointer (some ⟨w.heap.size, 0, none⟩), .pointer (some ⟨w.heap.size + 1 + 1 + 1, 0, none⟩)] (fun k => k = R) R A m c l i d (.error (stopAt l i, 21)) (fun _ => True) w4 HNE.out rfl (isGo_of Tryz.func145 (by kernel_rfl) rfl) HI.out HD.out (fun _ _ _ => trivial) HRD.out (fun h => absurd h hnd)).mono ?_
    rintro e w5 ⟨hf5, hm⟩
    rw [if_neg hnd] at hm
    obtain ⟨N, rfl, hN⟩ := hm
    refine ⟨rfl, ?_⟩
    first | rw [← hs, HE.out] | rw [HE.out]
    exact got_error (frR_below HBB.out hf5) ⟨N, rfl, hN⟩
  | some p =>
    obtain ⟨hd32, hpart⟩ := HSO.out p hs
    have HPA := Asd.mk hpart
    have HS := Asd.mk hs
    have HE : Asd (callP l sub f i = inC l p f (i + 1)) := Asd.mk (by rw [hs]; exact callP_in l p f i)
    refine (within_calls 145 #[.pointer (some ⟨w.heap.size + 1, 0, none⟩), .pointer (some ⟨w.heap.size, 0, none⟩), .pointer (some ⟨w.heap.size + 1 + 1 + 1, 0, none⟩)] (fun k => k = R ∨ k = (w.heap.size + 1 + 1 + 1)) R A m c l i d (resJ (inC l p f (i + 1))) (ExAt (w.heap.size + 1 + 1 + 1) w4.heap.size (exOf (inC l p f (i + 1)))) w4 HNE.out (.inl rfl) (isGo_of Tryz.func145 (by kernel_rfl) rfl) HI.out HD.out (fun W v hq => hq.set (by have := HRW.out; omega) (by have := HB4.out; have := HRW.out; omega) 2 v) HRD.out (fun _ w' hf' hr' => ?_)).mono ?_
    · refine (call1_calls (w.heap.size + 1) w.heap.size (w.heap.size + 1 + 1 + 1) R A m c l f p (i + 1) (d + 1) w' HNE.out HN.out (blk_fr HPF.out hf' (by show ¬ w.heap.size + 1 = R; have := HRW.out; omega)) (blk_fr HP1.out hf' (by show ¬ w.heap.size = R; have := HRW.out; omega)) (blk_fr HU0.out hf' (by show ¬ (w.heap.size + 1 + 1 + 1) = R; have := HRW.out; omega)) (by have := HRW.out; omega) (by have := HRW.out; omega) (by omega) (by omega) (by have := HRW.out; omega) HPA.out hr').mono ?_
      rintro e w'' ⟨h1, h2⟩
      exact ⟨h1, ins_mono h2 fun W hq => hq.mono hf'.size⟩
    · rintro e w5 ⟨hf5, hm⟩
      rw [if_pos hd32] at hm
      have HF5 : Asd (Fr (fun k => k = R) w w5) := Asd.mk (fr_new (Fr.of_below HBB.out) hf5 (fun k hk => by rcases hk with h | h; exact .inl h; exact .inr (by omega)))
      have HZ6 := Asd.mk (blk_fr HZ5.out hf5 (by show ¬ (w.heap.size + 1 + 1 = R ∨ w.heap.size + 1 + 1 = (w.heap.size + 1 + 1 + 1)); have := HRW.out; omega))
      clear hf5
      cases hfi : inC l p f (i + 1) with
      | error er =>
        rw [hfi] at hm
        obtain ⟨N, rfl, hN⟩ := hm
        have HE2 : Asd (callP l sub f i = .error er) := Asd.mk (by rw [HE.out, hfi])
        clear hfi
        go_wp2
        refine ⟨rfl, ?_⟩
        first | rw [HE2.out] | rw [← HS.out, HE2.out]
        exact got_error HF5.out ⟨N, rfl, hN⟩
      | ok y =>
        obtain ⟨x, j⟩ := y
        rw [hfi] at hm
        obtain ⟨rfl, hr5, A5, n5, c5', hb5, hh5⟩ := hm
        have HE2 : Asd (callP l sub f i = .ok (x, j)) := Asd.mk (by rw [HE.out, hfi])
        change w5.heap[(w.heap.size + 1 + 1 + 1)]? = some (Obj.cells (exC x (.slice A5 n5 c5')).toArray 26 (0, 0)) at hb5
        change Held _ _ x.args _ at hh5
        have HR5 := Asd.mk hr5
        have HH5 := Asd.mk hh5
        obtain ⟨e0, e1, e2, e3, e4, e5, e6, e7, e8, e9⟩ := ex_cells hb5
        clear hfi hr5 hh5 hb5
        have y0 := (blk_cell HZ6.out 0).trans rfl
        have y1 := (blk_cell HZ6.out 1).trans rfl
        have y2 := (blk_cell HZ6.out 2).trans rfl
        have y3 := (blk_cell HZ6.out 3).trans rfl
        have y4 := (blk_cell HZ6.out 4).trans rfl
        have y5 := (blk_cell HZ6.out 5).trans rfl
        have y6 := (blk_cell HZ6.out 6).trans rfl
        have y7 := (blk_cell HZ6.out 7).trans rfl
        have y8 := (blk_cell HZ6.out 8).trans rfl
        have y9 := (blk_cell HZ6.out 9).trans rfl
        have z0 := blk_frozen HZ6.out 0
        have z1 := blk_frozen HZ6.out 1
        have z2 := blk_frozen HZ6.out 2
        have z3 := blk_frozen HZ6.out 3
        have z4 := blk_frozen HZ6.out 4
        have z5 := blk_frozen HZ6.out 5
        have z6 := blk_frozen HZ6.out 6
        have z7 := blk_frozen HZ6.out 7
        have z8 := blk_frozen HZ6.out 8
        have z9 := blk_frozen HZ6.out 9
        go_wp2
        refine bodyPost_ret (results_cell_row rfl _ _ (w.heap.size + 1 + 1) 26 _ (0, 0) _ rfl (put10_blk HZ6.out _ _ _ _ _ _ _ _ _ _) Tryz.underlying26 rfl (by kernel_rfl)) rfl ?_
        first | rw [HE2.out] | rw [← HS.out, HE2.out]
        exact fin_got HH.out HF5.out (by omega) HR5.out (held_mono HH5.out fun g _ hg => by have h1 := hg.1; have := HB4.out; exact ⟨by omega, by omega⟩)

theorem parts (R : Nat) (A : Option Addr) (m c : Nat) (l : Toks) (hnear : Near l) : ∀ (k d : Nat), d + k = 32 →
    PartOK 83 R A m c l (readF nmOk l k).sign d ∧ PartOK 59 R A m c l (readF nmOk l k).or d ∧
    (∀ cap, PartK 85 cap (CatK R cap) R A m c l (readF nmOk l k).not d) := by
  have step : ∀ (k d : Nat), d + k = 32 → (∀ p, subF nmOk l k = some p → d < 32 ∧ PartOK 83 R A m c l p.sign (d + 1) ∧ PartOK 59 R A m c l p.or (d + 1) ∧ (∀ cap, PartK 85 cap (CatK R cap) R A m c l p.not (d + 1))) →
      (subF nmOk l k = none → ¬ d < 32) → PartOK 83 R A m c l (readF nmOk l k).sign d ∧ PartOK 59 R A m c l (readF nmOk l k).or d ∧
      (∀ cap, PartK 85 cap (CatK R cap) R A m c l (readF nmOk l k).not d) := by
    intro k d hk hs hn
    rw [readF_eq]
    have hah := subF_ahd nmOk l k
    have hitem : PartOK 103 R A m c l (itemP nmOk l (subF nmOk l k)) d := fun w i h =>
      item_calls nmOk R A m c l _ i d w hnear (by omega) (fun w i s hi hr => word_calls R A m c l _ i d s w hnear hi (fun w j f hf hj hr => call_calls R A m c l _ f j d w hnear (by omega) hf (isT_lt hj) (fun p hp => ⟨(hs p hp).1, (hs p hp).2.2.1⟩) hn hr) hr)
        (fun p hp => ⟨(hs p hp).1, (hs p hp).2.2.1⟩) hn h
    have hsign : PartOK 83 R A m c l (signP nmOk l (subF nmOk l k)) d := fun w i h =>
      sign_calls nmOk R A m c l _ i d w hnear (by omega) hitem (fun p hp => ⟨(hs p hp).1, (hs p hp).2.1⟩) hn h
    have hnot : ∀ cap, PartK 85 cap (CatK R cap) R A m c l (notP nmOk l (subF nmOk l k)) d := fun cap w i h hK =>
      not_calls cap (CatK R cap) nmOk R A m c l _ i d w (catK_stays R cap) hK hnear (by omega)
        (fun w i h hK => test_calls cap (CatK R cap) nmOk R A m c l _ i d w hnear (catP_ahd hah) (catK_stays R cap) hK (fun w hK => catK_op hK hnear hah hsign) h)
        (fun p hp => ⟨(hs p hp).1, (hs p hp).2.2.2 cap⟩) hn h
    exact ⟨hsign, fun w i h => or_calls nmOk _ R A m c l i d w hnear hah hnot h, hnot⟩
  intro k
  induction k with
  | zero =>
    intro d hd
    exact step 0 d hd (fun p hp => by cases hp) (fun _ => by omega)
  | succ k ih =>
    intro d hd
    have h1 := ih (d + 1) (by omega)
    exact step (k + 1) d hd (fun p hp => by cases hp; exact ⟨by omega, h1.1, h1.2.1, h1.2.2⟩) (fun h => by cases h)
theorem or_reads (R : Nat) (A : Option Addr) (m c : Nat) (l : Toks) (hnear : Near l) (i : Nat) (w : World) (h : RdW w R A m c l i 0) :
    Calls Tryz.prog 59 #[.pointer (some ⟨R, 0, none⟩)] w (Got R A m c l 0 w ((readF nmOk l 32).or i)) := (parts R A m c l hnear 32 0 rfl).2.1 w i h
end Go.Proofs.YtbeeaikilcnpgaaGreatDoor.Exp
