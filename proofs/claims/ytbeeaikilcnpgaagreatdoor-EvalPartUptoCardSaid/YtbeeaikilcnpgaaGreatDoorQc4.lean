/- Texts put together: Hd1, Hd2, Rd9, Rd16. -/
import Derived.Test.YtbeeaikilcnpgaaGreatDoorQc3
/- expr.Same: two expressions are the same. -/
set_option linter.unusedVariables false
set_option linter.unusedSimpArgs false
namespace Go.Proofs.YtbeeaikilcnpgaaGreatDoor.Exp
open Go.RowKit Go.Proofs.YtbeeaikilcnpgaaGreatDoor.Base Go.Proofs.YtbeeaikilcnpgaaGreatDoor.App Go.Proofs.YtbeeaikilcnpgaaGreatDoor.Byt

mutual
/-- Are two expressions the same? -/
def sameE : Ex → Ex → Bool
  | .mk k o v t n _ _ a, .mk k' o' v' t' n' _ _ a' => k == k' && o == o' && (v.kind == v'.kind && (v.int == v'.int && v.text == v'.text)) && t == t' && n == n' && sameL a a'
def sameL : List Ex → List Ex → Bool
  | [], [] => true
  | x :: xs, y :: ys => sameE x y && sameL xs ys
  | [], _ :: _ => false
  | _ :: _, [] => false
end
mutual
/-- No expression within has too many operands. -/
def fewE : Ex → Prop
  | .mk _ _ _ _ _ _ _ a => a.length ≤ 1048576 ∧ fewL a
def fewL : List Ex → Prop
  | [] => True
  | x :: xs => fewE x ∧ fewL xs
end
theorem fewL_mem : ∀ {l : List Ex}, fewL l → ∀ x ∈ l, fewE x
  | [], _, x, hx => by cases hx
  | y :: r, h, x, hx => by
    rw [fewL] at h
    rcases List.mem_cons.mp hx with rfl | hx
    · exact h.1
    · exact fewL_mem h.2 x hx
theorem fewE_args {x : Ex} (h : fewE x) : x.args.length ≤ 1048576 ∧ fewL x.args := by
  cases x; rw [fewE] at h; exact h
theorem sameE_eq (x y : Ex) : sameE x y = (x.kind == y.kind && x.op == y.op && (x.v.kind == y.v.kind && (x.v.int == y.v.int && x.v.text == y.v.text)) && x.table == y.table && x.name == y.name && sameL x.args y.args) := by
  cases x; cases y; rw [sameE]; rfl
theorem sameL_len : ∀ {xs ys : List Ex}, xs.length ≠ ys.length → sameL xs ys = false
  | [], [], h => absurd rfl h
  | x :: xs, y :: ys, h => by rw [sameL, sameL_len (by simpa using h)]; simp
  | [], _ :: _, h => by rw [sameL]
  | _ :: _, [], h => by rw [sameL]
theorem sameL_all : ∀ {xs ys : List Ex}, xs.length = ys.length → (∀ i (h : i < xs.length) (h' : i < ys.length), sameE xs[i] ys[i] = true) → sameL xs ys = true
  | [], [], _, _ => by rw [sameL]
  | x :: xs, y :: ys, h, ha => by
    rw [sameL, show sameE x y = true from ha 0 (by simp) (by simp), sameL_all (by simpa using h) (fun i h1 h2 => ha (i + 1) (by simpa using h1) (by simpa using h2))]
    rfl
theorem sameL_not : ∀ {xs ys : List Ex} (i : Nat) (h : i < xs.length) (h' : i < ys.length), sameE xs[i] ys[i] = false → sameL xs ys = false
  | x :: xs, y :: ys, 0, h, h', hn => by rw [sameL, show sameE x y = false from hn]; rfl
  | x :: xs, y :: ys, i + 1, h, h', hn => by rw [sameL, sameL_not i (by simpa using h) (by simpa using h') (by simpa using hn)]; simp

theorem held_len {P : Nat → Prop} {W : World} {xs : List Ex} {s : Value} (h : Held P W xs s) : ∃ A c, s = .slice A xs.length c := by
  cases h with
  | nil A c => exact ⟨_, _, rfl⟩
  | cons g o c xs ss hg hl hu hrow hsub => exact ⟨_, _, rfl⟩
theorem held_at {P : Nat → Prop} {W : World} {xs : List Ex} {A : Option Addr} {n c : Nat} (h : Held P W xs (.slice A n c)) (i : Nat) (hi : i < xs.length) : ∃ g o A' n' c', A = some ⟨g, o, none⟩ ∧ RowC W g (o + i * 10) xs[i] (.slice A' n' c') ∧ Held P W xs[i].args (.slice A' n' c') := by
  cases h with
  | nil A c => exact absurd hi (by simp)
  | cons g o c xs ss hg hl hu hrow hsub =>
    have h1 := hrow i hi
    have h2 := hsub i hi
    obtain ⟨A', n', c', he⟩ := held_slice h2
    rw [he] at h1 h2
    exact ⟨g, o, A', n', c', rfl, h1, h2⟩
theorem held_frz {P : Nat → Prop} {W : World} {xs : List Ex} {g o n c : Nat} (h : Held P W xs (.slice (some ⟨g, o, none⟩) n c)) (i j : Nat) (hi : i < xs.length) (hj : j < 10) : W.frozen? ⟨g, o + i * 10 + j, none⟩ = false := by
  cases h with
  | nil A c => exact absurd hi (by simp)
  | cons g o c xs ss hg hl hu hrow hsub =>
    have := hu (i * 10 + j) (by omega)
    rwa [← Nat.add_assoc] at this
/-- What expr.Same answers. -/
def SameR (x y : Ex) (w : World) (e : Ending) (w' : World) : Prop := e = .returned (.bool (sameE x y)) ∧ Below w.heap.size w w'
def SameOK (x y : Ex) : Prop := ∀ (P Q : Nat → Prop) (sx sy : Value) (w : World), Held P w x.args sx → Held Q w y.args sy → Calls Tryz.prog 18 #[exV x sx, exV y sy] w (SameR x y w)

set_option maxRecDepth 100000 in
set_option maxHeartbeats 6400000 in
theorem equal_calls (P Q : Nat → Prop) (xs ys : List Ex) (sx sy : Value) (w : World) (hx : Held P w xs sx) (hy : Held Q w ys sy) (hn : xs.length ≤ 1048576)
    (hf : ∀ i (h : i < xs.length) (h' : i < ys.length), SameOK xs[i] ys[i]) :
    Calls Tryz.prog 33 #[sx, sy, .func (.func 18) #[] #[]] w fun e w' => e = .returned (.bool (sameL xs ys)) ∧ Below w.heap.size w w' := by
  have hcf : ∀ (args : Array Value) (w : World), (callFunc 18 args).run Tryz.prog w = .ok (.enter 18 args) w := isGo_of Tryz.func18 (by decide) rfl
  obtain ⟨A, ca, rfl⟩ := held_len hx
  obtain ⟨B, cb, rfl⟩ := held_len hy
  have HX := Asd.mk hx
  have HY := Asd.mk hy
  have HF := Asd.mk hf
  generalize hm : xs.length = m at hn ⊢
  generalize hm' : ys.length = m' 
  have HM := Asd.mk hm
  have HM' := Asd.mk hm'
  clear hx hy hf hm hm'
  go_enter Tryz.func33, Tryz.ntmps33
  by_cases hmm : m = m'
  · subst hmm
    go_wp2
    go_loopw [17] (fun i wr => ∃ (k : Nat), k ≤ m ∧ i = .int .i64 (k : Int) ∧ Asd (Below w.heap.size w wr) ∧ Asd (∀ j (h : j < xs.length) (h' : j < ys.length), j < k → sameE xs[j] ys[j] = true)) (fun i _ => m - (intOf i).toNat)
    case atStart => exact ⟨0, by omega, rfl, ⟨Below.refl _ _⟩, ⟨fun j _ _ h => absurd h (by omega)⟩⟩
    case round =>
      obtain ⟨k, hk, rfl, HB, HQ⟩ := hrel
      by_cases hlt : k < m
      · have hkx : k < xs.length := by rw [HM.out]; exact hlt
        have hky : k < ys.length := by rw [HM'.out]; exact hlt
        obtain ⟨g, o, A1, n1, c1, rfl, hr1, hh1⟩ := held_at (held_below HX.out HB.out) k hkx
        obtain ⟨h, q, A2, n2, c2, rfl, hr2, hh2⟩ := held_at (held_below HY.out HB.out) k hky
        have HFK := Asd.mk (HF.out k hkx hky)
        have HSK : Asd (sameE xs[k] ys[k] = true → ∀ j (h : j < xs.length) (h' : j < ys.length), j < k + 1 → sameE xs[j] ys[j] = true) := Asd.mk fun he j h h' hj => by
          rcases Nat.lt_succ_iff_lt_or_eq.mp hj with hj | rfl
          · exact HQ.out j h h' hj
          · exact he
        have HNK : Asd (sameE xs[k] ys[k] = false → sameL xs ys = false) := Asd.mk fun he => sameL_not k hkx hky he
        generalize xs[k] = x at HFK HSK HNK hr1 hh1
        generalize ys[k] = y at HFK HSK HNK hr2 hh2
        have HR2 := Asd.mk hr2
        have HH1 := Asd.mk hh1
        have HH2 := Asd.mk hh2
        have hgl := World.block_lt_of_cell? wr _ (hr1 0 (by omega))
        have hk0 : (0 : Int) ≤ (k : Int) := by omega
        have hk1 : k < m := hlt
        have x0 : wr.cell? ⟨g, o + k * 10, none⟩ = some (.int .i64 x.kind) := hr1 0 (by omega)
        have x1 : wr.cell? ⟨g, o + k * 10 + 1, none⟩ = some (.int .i64 x.op) := hr1 1 (by omega)
        have x2 : wr.cell? ⟨g, o + k * 10 + 2, none⟩ = some (.int .i64 x.v.kind) := hr1 2 (by omega)
        have x3 : wr.cell? ⟨g, o + k * 10 + 3, none⟩ = some (.int .i64 x.v.int) := hr1 3 (by omega)
        have x4 : wr.cell? ⟨g, o + k * 10 + 4, none⟩ = some (.string ⟨x.v.text.toArray⟩) := hr1 4 (by omega)
        have x5 : wr.cell? ⟨g, o + k * 10 + 5, none⟩ = some (.string ⟨x.table.toArray⟩) := hr1 5 (by omega)
        have x6 : wr.cell? ⟨g, o + k * 10 + 6, none⟩ = some (.string ⟨x.name.toArray⟩) := hr1 6 (by omega)
        have x7 : wr.cell? ⟨g, o + k * 10 + 7, none⟩ = some (.int .i64 x.col) := hr1 7 (by omega)
        have x8 : wr.cell? ⟨g, o + k * 10 + 8, none⟩ = some (.int .i64 x.ty) := hr1 8 (by omega)
        have x9 : wr.cell? ⟨g, o + k * 10 + 9, none⟩ = some (.slice A1 n1 c1) := hr1 9 (by omega)
        clear hr1 hr2 hh1 hh2 hkx hky
        have HA1 := Asd.mk (blk_new wr (.cells #[.int .i64 x.kind, .int .i64 x.op, .int .i64 x.v.kind, .int .i64 x.v.int, .string ⟨x.v.text.toArray⟩, .string ⟨x.table.toArray⟩, .string ⟨x.name.toArray⟩, .int .i64 x.col, .int .i64 x.ty, .slice A1 n1 c1] 26 (0, 0)))
        have HB1 : Asd (Below wr.heap.size wr _) := Asd.mk (below_alloc (Below.refl _ wr) (.cells #[.int .i64 x.kind, .int .i64 x.op, .int .i64 x.v.kind, .int .i64 x.v.int, .string ⟨x.v.text.toArray⟩, .string ⟨x.table.toArray⟩, .string ⟨x.name.toArray⟩, .int .i64 x.col, .int .i64 x.ty, .slice A1 n1 c1] 26 (0, 0)))
        go_upto_region 6 with fail
        generalize wr.alloc (.cells #[.int .i64 x.kind, .int .i64 x.op, .int .i64 x.v.kind, .int .i64 x.v.int, .string ⟨x.v.text.toArray⟩, .string ⟨x.table.toArray⟩, .string ⟨x.name.toArray⟩, .int .i64 x.col, .int .i64 x.ty, .slice A1 n1 c1] 26 (0, 0)) = w1 at HA1 HB1 ⊢
        have hr2 := HR2.out.below HB1.out
        clear x0 x1 x2 x3 x4 x5 x6 x7 x8 x9
        have HP1 : Asd (wr.heap.size < w1.heap.size) := Asd.mk (blk_lt HA1.out)
        have y0 : w1.cell? ⟨h, q + k * 10, none⟩ = some (.int .i64 y.kind) := hr2 0 (by omega)
        have y1 : w1.cell? ⟨h, q + k * 10 + 1, none⟩ = some (.int .i64 y.op) := hr2 1 (by omega)
        have y2 : w1.cell? ⟨h, q + k * 10 + 2, none⟩ = some (.int .i64 y.v.kind) := hr2 2 (by omega)
        have y3 : w1.cell? ⟨h, q + k * 10 + 3, none⟩ = some (.int .i64 y.v.int) := hr2 3 (by omega)
        have y4 : w1.cell? ⟨h, q + k * 10 + 4, none⟩ = some (.string ⟨y.v.text.toArray⟩) := hr2 4 (by omega)
        have y5 : w1.cell? ⟨h, q + k * 10 + 5, none⟩ = some (.string ⟨y.table.toArray⟩) := hr2 5 (by omega)
        have y6 : w1.cell? ⟨h, q + k * 10 + 6, none⟩ = some (.string ⟨y.name.toArray⟩) := hr2 6 (by omega)
        have y7 : w1.cell? ⟨h, q + k * 10 + 7, none⟩ = some (.int .i64 y.col) := hr2 7 (by omega)
        have y8 : w1.cell? ⟨h, q + k * 10 + 8, none⟩ = some (.int .i64 y.ty) := hr2 8 (by omega)
        have y9 : w1.cell? ⟨h, q + k * 10 + 9, none⟩ = some (.slice A2 n2 c2) := hr2 9 (by omega)
        clear hr2
        have HA2 := Asd.mk (blk_new w1 (.cells #[.int .i64 y.kind, .int .i64 y.op, .int .i64 y.v.kind, .int .i64 y.v.int, .string ⟨y.v.text.toArray⟩, .string ⟨y.table.toArray⟩, .string ⟨y.name.toArray⟩, .int .i64 y.col, .int .i64 y.ty, .slice A2 n2 c2] 26 (0, 0)))
        have HB2 : Asd (Below w1.heap.size w1 _) := Asd.mk (below_alloc (Below.refl _ w1) (.cells #[.int .i64 y.kind, .int .i64 y.op, .int .i64 y.v.kind, .int .i64 y.v.int, .string ⟨y.v.text.toArray⟩, .string ⟨y.table.toArray⟩, .string ⟨y.name.toArray⟩, .int .i64 y.col, .int .i64 y.ty, .slice A2 n2 c2] 26 (0, 0)))
        go_upto_region 7 with fail
        generalize w1.alloc (.cells #[.int .i64 y.kind, .int .i64 y.op, .int .i64 y.v.kind, .int .i64 y.v.int, .string ⟨y.v.text.toArray⟩, .string ⟨y.table.toArray⟩, .string ⟨y.name.toArray⟩, .int .i64 y.col, .int .i64 y.ty, .slice A2 n2 c2] 26 (0, 0)) = w2 at HA2 HB2 ⊢
        clear y0 y1 y2 y3 y4 y5 y6 y7 y8 y9
        have HB12 : Asd (Below wr.heap.size wr w2) := Asd.mk (HB1.out.trans (HB2.out.mono HB1.out.size))
        have HA12 := Asd.mk (blk_below HB2.out HA1.out)
        have u0 := (blk_cell HA12.out 0).trans rfl
        have u1 := (blk_cell HA12.out 1).trans rfl
        have u2 := (blk_cell HA12.out 2).trans rfl
        have u3 := (blk_cell HA12.out 3).trans rfl
        have u4 := (blk_cell HA12.out 4).trans rfl
        have u5 := (blk_cell HA12.out 5).trans rfl
        have u6 := (blk_cell HA12.out 6).trans rfl
        have u7 := (blk_cell HA12.out 7).trans rfl
        have u8 := (blk_cell HA12.out 8).trans rfl
        have u9 := (blk_cell HA12.out 9).trans rfl
        have v0 := (blk_cell HA2.out 0).trans rfl
        have v1 := (blk_cell HA2.out 1).trans rfl
        have v2 := (blk_cell HA2.out 2).trans rfl
        have v3 := (blk_cell HA2.out 3).trans rfl
        have v4 := (blk_cell HA2.out 4).trans rfl
        have v5 := (blk_cell HA2.out 5).trans rfl
        have v6 := (blk_cell HA2.out 6).trans rfl
        have v7 := (blk_cell HA2.out 7).trans rfl
        have v8 := (blk_cell HA2.out 8).trans rfl
        have v9 := (blk_cell HA2.out 9).trans rfl
        go_wp2_with fail
        refine (HFK.out P Q (.slice A1 n1 c1) (.slice A2 n2 c2) w2 (held_below HH1.out HB12.out) (held_below HH2.out HB12.out)).mono ?_
        rintro e w3 ⟨rfl, hb3⟩
        have HB3 : Asd (Below w.heap.size w w3) := Asd.mk (HB.out.trans ((HB12.out.trans (hb3.mono HB12.out.size)).mono HB.out.size))
        clear hb3 u0 v0 u1 v1 u2 v2 u3 v3 u4 v4 u5 v5 u6 v6 u7 v7 u8 v8 u9 v9
        cases hs : sameE x y with
        | true =>
          have HS := Asd.mk (HSK.out hs)
          clear hs
          go_wp2
          go_roundw
          case rel => exact ⟨k + 1, by omega, by go_num, HB3, HS⟩
          case measure => simp [intOf]; omega
        | false =>
          have HS := Asd.mk (HNK.out hs)
          clear hs
          go_wp2
          go_ret
          exact ⟨ret_eq (by rw [HS.out]; rfl), HB3.out⟩
      · have HS : Asd (sameL xs ys = true) := Asd.mk (sameL_all (HM.out.trans HM'.out.symm) fun i h h' => HQ.out i h h' (by have := HM.out; omega))
        have hge : ¬ (k : Int) < (m : Int) := by omega
        clear HQ
        go_wp2
        go_ret
        exact ⟨ret_eq (by rw [HS.out]; rfl), HB.out⟩
  · have HS : Asd (sameL xs ys = false) := Asd.mk (sameL_len (by rw [HM.out, HM'.out]; exact hmm))
    have hne : ((m : Int) != (m' : Int)) = true := by rw [bne_iff_ne]; omega
    clear hmm
    go_wp2
    go_ret
    exact ⟨ret_eq (by rw [HS.out]; rfl), Below.refl _ _⟩
theorem val_in (d : Nat) (w : World) (x0 y0 x1 y1 : Int) (x2 y2 : ByteArray) :
    (Op.equalIn (d + 2) 23 (.agg #[.int .i64 x0, .int .i64 x1, .string x2]) (.agg #[.int .i64 y0, .int .i64 y1, .string y2])).run Tryz.prog w = .ok (x0 == y0 && (x1 == y1 && (x2.toList == y2.toList))) w := by
  refine Eqs.s_of Tryz.underlying23 (by kernel_rfl) ?_
  refine Eqs.f_cons (by rfl) (by go_simp; rfl) (by go_simp; rfl) (by go_simp) ?_
  refine Eqs.f_cons (by rfl) (by go_simp; rfl) (by go_simp; rfl) (by go_simp) ?_
  exact Eqs.f_last (by rfl) (by go_simp; rfl) (by go_simp; rfl) (by go_simp)
theorem val_eql (w : World) (x0 y0 x1 y1 : Int) (x2 y2 : ByteArray) :
    (binOp .eql 23 (.agg #[.int .i64 x0, .int .i64 x1, .string x2]) (.agg #[.int .i64 y0, .int .i64 y1, .string y2])).run Tryz.prog w = .ok (.bool (x0 == y0 && (x1 == y1 && (x2.toList == y2.toList)))) w := Eqs.op_eql fun d => val_in d w x0 y0 x1 y1 x2 y2
theorem tl_eq (a b : List UInt8) : ((⟨a.toArray⟩ : ByteArray).toList == (⟨b.toArray⟩ : ByteArray).toList) = (a == b) := by rw [Lib.toList_data, Lib.toList_data]

set_option maxRecDepth 100000 in
set_option maxHeartbeats 6400000 in
theorem same_step (x y : Ex) (hx : fewE x) (hsub : ∀ i (h : i < x.args.length) (h' : i < y.args.length), SameOK x.args[i] y.args[i]) : SameOK x y := by
  intro P Q sx sy w hhx hhy
  obtain ⟨A1, n1, c1, rfl⟩ := held_slice hhx
  obtain ⟨A2, n2, c2, rfl⟩ := held_slice hhy
  have HS := Asd.mk (fun (W : World) (hb : Below w.heap.size w W) => equal_calls P Q x.args y.args (.slice A1 n1 c1) (.slice A2 n2 c2) W (held_below hhx hb) (held_below hhy hb) (fewE_args hx).1 hsub)
  have HE := Asd.mk (sameE_eq x y)
  have HB : Asd (Below w.heap.size w ((w.alloc (.cells #[.int .i64 x.kind, .int .i64 x.op, .int .i64 x.v.kind, .int .i64 x.v.int, .string ⟨x.v.text.toArray⟩, .string ⟨x.table.toArray⟩, .string ⟨x.name.toArray⟩, .int .i64 x.col, .int .i64 x.ty, .slice A1 n1 c1] 26 (0, 0))).alloc (.cells #[.int .i64 y.kind, .int .i64 y.op, .int .i64 y.v.kind, .int .i64 y.v.int, .string ⟨y.v.text.toArray⟩, .string ⟨y.table.toArray⟩, .string ⟨y.name.toArray⟩, .int .i64 y.col, .int .i64 y.ty, .slice A2 n2 c2] 26 (0, 0)))) := Asd.mk (below_alloc (below_alloc (Below.refl _ w) _) _)
  clear hhx hhy hx hsub
  unfold exV
  go_enter Tryz.func18, Tryz.ntmps18
  cases h1 : (x.kind == y.kind) with
  | false =>
    have HR : Asd (sameE x y = false) := Asd.mk (by rw [HE.out, h1]; simp)
    go_wp2
    go_ret
    exact ⟨ret_eq (by rw [HR.out]; rfl), HB.out⟩
  | true =>
    cases h2 : (x.op == y.op) with
    | false =>
      have HR : Asd (sameE x y = false) := Asd.mk (by rw [HE.out, h1, h2]; simp)
      go_wp2
      go_ret
      exact ⟨ret_eq (by rw [HR.out]; rfl), HB.out⟩
    | true =>
      cases h3 : (x.v.kind == y.v.kind && (x.v.int == y.v.int && x.v.text == y.v.text)) with
      | false =>
        have HR : Asd (sameE x y = false) := Asd.mk (by rw [HE.out, h1, h2, h3]; simp)
        have hve : ∀ W, (binOp .eql 23 (.agg #[.int .i64 x.v.kind, .int .i64 x.v.int, .string ⟨x.v.text.toArray⟩]) (.agg #[.int .i64 y.v.kind, .int .i64 y.v.int, .string ⟨y.v.text.toArray⟩])).run Tryz.prog W = .ok (.bool false) W := fun W => by rw [val_eql, tl_eq, h3]
        clear h3
        go_wp2
        go_ret
        exact ⟨ret_eq (by rw [HR.out]; rfl), HB.out⟩
      | true =>
        cases h4 : (x.table == y.table) with
        | false =>
          have HR : Asd (sameE x y = false) := Asd.mk (by rw [HE.out, h1, h2, h3, h4]; simp)
          have hve : ∀ W, (binOp .eql 23 (.agg #[.int .i64 x.v.kind, .int .i64 x.v.int, .string ⟨x.v.text.toArray⟩]) (.agg #[.int .i64 y.v.kind, .int .i64 y.v.int, .string ⟨y.v.text.toArray⟩])).run Tryz.prog W = .ok (.bool true) W := fun W => by rw [val_eql, tl_eq, h3]
          clear h3
          go_wp2
          go_ret
          exact ⟨ret_eq (by rw [HR.out]; rfl), HB.out⟩
        | true =>
          cases h5 : (x.name == y.name) with
          | false =>
            have HR : Asd (sameE x y = false) := Asd.mk (by rw [HE.out, h1, h2, h3, h4, h5]; simp)
            have hve : ∀ W, (binOp .eql 23 (.agg #[.int .i64 x.v.kind, .int .i64 x.v.int, .string ⟨x.v.text.toArray⟩]) (.agg #[.int .i64 y.v.kind, .int .i64 y.v.int, .string ⟨y.v.text.toArray⟩])).run Tryz.prog W = .ok (.bool true) W := fun W => by rw [val_eql, tl_eq, h3]
            clear h3
            go_wp2
            go_ret
            exact ⟨ret_eq (by rw [HR.out]; rfl), HB.out⟩
          | true =>
            have HR : Asd (sameE x y = sameL x.args y.args) := Asd.mk (by rw [HE.out, h1, h2, h3, h4, h5]; simp)
            have hve : ∀ W, (binOp .eql 23 (.agg #[.int .i64 x.v.kind, .int .i64 x.v.int, .string ⟨x.v.text.toArray⟩]) (.agg #[.int .i64 y.v.kind, .int .i64 y.v.int, .string ⟨y.v.text.toArray⟩])).run Tryz.prog W = .ok (.bool true) W := fun W => by rw [val_eql, tl_eq, h3]
            clear h3
            go_wp2_with fail
            refine (HS.out _ HB.out).mono ?_
            rintro e w2 ⟨rfl, hb2⟩
            have HB2 := Asd.mk (HB.out.trans (hb2.mono HB.out.size))
            clear hb2
            cases hl : sameL x.args y.args with
            | true =>
              have HR2 : Asd (sameE x y = true) := Asd.mk (HR.out.trans hl)
              clear hl
              go_wp2
              go_ret
              exact ⟨ret_eq (by rw [HR2.out]; rfl), HB2.out⟩
            | false =>
              have HR2 : Asd (sameE x y = false) := Asd.mk (HR.out.trans hl)
              clear hl
              go_wp2
              go_ret
              exact ⟨ret_eq (by rw [HR2.out]; rfl), HB2.out⟩
theorem args_lt (x : Ex) (i : Nat) (h : i < x.args.length) : SizeOf.sizeOf x.args[i] < SizeOf.sizeOf x := by
  cases x with
  | mk k o v t n c ty a =>
    have h1 := List.sizeOf_lt_of_mem (List.getElem_mem (l := a) h)
    have h2 : SizeOf.sizeOf a < SizeOf.sizeOf (Ex.mk k o v t n c ty a) := by simp; omega
    exact Nat.lt_trans h1 h2
theorem same_ok (x y : Ex) (hx : fewE x) : SameOK x y :=
  same_step x y hx fun i h h' => same_ok x.args[i] y.args[i] (fewL_mem (fewE_args hx).2 _ (List.getElem_mem h))
termination_by SizeOf.sizeOf x
decreasing_by exact args_lt x i h
/-- expr.Same. -/
theorem same_calls (P Q : Nat → Prop) (x y : Ex) (sx sy : Value) (w : World) (hx : fewE x) (hhx : Held P w x.args sx) (hhy : Held Q w y.args sy) :
    Calls Tryz.prog 18 #[exV x sx, exV y sy] w (SameR x y w) := same_ok x y hx P Q sx sy w hhx hhy

end Go.Proofs.YtbeeaikilcnpgaaGreatDoor.Exp

/- expr.operands; the lines of operators. -/
set_option linter.unusedVariables false
set_option linter.unusedSimpArgs false
namespace Go.Proofs.YtbeeaikilcnpgaaGreatDoor.Exp
open Go.RowKit Go.Proofs.YtbeeaikilcnpgaaGreatDoor.Base Go.Proofs.YtbeeaikilcnpgaaGreatDoor.App Go.Proofs.YtbeeaikilcnpgaaGreatDoor.Byt

set_option maxRecDepth 100000 in
set_option maxHeartbeats 1600000 in
theorem operands_calls (k : Nat) (w : World) : Calls Tryz.prog 60 #[.int .i64 (k : Nat)] w fun e w' => e = .returned (.int .i64 ((opn k : Nat) : Int)) ∧ w' = w := by
  by_cases h5 : k = 5
  · subst h5
    go_enter Tryz.func60, Tryz.ntmps60
    go_wp2
    go_ret
    exact ⟨rfl, rfl⟩
  · by_cases h6 : k = 6
    · subst h6
      clear h5
      go_enter Tryz.func60, Tryz.ntmps60
      go_wp2
      go_ret
      exact ⟨rfl, rfl⟩
    · have h5' : ¬ (k : Int) = 5 := by omega
      have h6' : ¬ (k : Int) = 6 := by omega
      have HO : Asd (opn k = 1) := Asd.mk (by unfold opn; rw [if_neg h5, if_neg h6])
      clear h5 h6
      go_enter Tryz.func60, Tryz.ntmps60
      go_wp2
      go_ret
      exact ⟨ret_eq (by rw [HO.out]; rfl), rfl⟩
/-- The line of a pair's operator. -/
def pairLn (o : Nat) : Int := [0, 0, 0, 1, 2, 4, 4, 4, 4, 4, 4, 6, 6, 7, 7, 7, 5].getD o 0
/-- What line answers. -/
def LineR (L : Int) (w : World) (e : Ending) (w' : World) : Prop := e = .returned (.int .i64 L) ∧ Below w.heap.size w w'
set_option maxRecDepth 100000 in
theorem line_index (o : Nat) (h : 3 ≤ o) (h' : o ≤ 16) (W : World) : (Instr.index 95 (.agg #[.int .i64 0, .int .i64 0, .int .i64 0, .int .i64 1, .int .i64 2, .int .i64 4, .int .i64 4, .int .i64 4, .int .i64 4, .int .i64 4, .int .i64 4, .int .i64 6, .int .i64 6, .int .i64 7, .int .i64 7, .int .i64 7, .int .i64 5]) (.int .i64 (o : Nat))).run Tryz.prog W = .ok (.int .i64 (pairLn o)) W := by
  have hc : o = 3 ∨ o = 4 ∨ o = 5 ∨ o = 6 ∨ o = 7 ∨ o = 8 ∨ o = 9 ∨ o = 10 ∨ o = 11 ∨ o = 12 ∨ o = 13 ∨ o = 14 ∨ o = 15 ∨ o = 16 := by omega
  clear h h'
  rcases hc with rfl | rfl | rfl | rfl | rfl | rfl | rfl | rfl | rfl | rfl | rfl | rfl | rfl | rfl
  all_goals
    first | rfl | (show _ = _; kernel_rfl)
end Go.Proofs.YtbeeaikilcnpgaaGreatDoor.Exp

/- The reader of expressions: what a word calls. -/
set_option linter.unusedVariables false
set_option linter.unusedSimpArgs false
namespace Go.Proofs.YtbeeaikilcnpgaaGreatDoor.Exp
open Go.RowKit Go.Proofs.YtbeeaikilcnpgaaGreatDoor.Base Go.Proofs.YtbeeaikilcnpgaaGreatDoor.App Go.Proofs.YtbeeaikilcnpgaaGreatDoor.Byt Go.Proofs.YtbeeaikilcnpgaaGreatDoor.Lex

def fn1 : List ByteArray := [⟨#[]⟩, ⟨#[108, 101, 110, 103, 116, 104]⟩, ⟨#[97, 98, 115]⟩, ⟨#[117, 112, 112, 101, 114]⟩, ⟨#[108, 111, 119, 101, 114]⟩, ⟨#[115, 117, 98, 115, 116, 114]⟩, ⟨#[99, 111, 97, 108, 101, 115, 99, 101]⟩]
def fn2 : List ByteArray := [⟨#[]⟩, ⟨#[99, 111, 117, 110, 116]⟩, ⟨#[115, 117, 109]⟩, ⟨#[109, 105, 110]⟩, ⟨#[109, 97, 120]⟩]
theorem ba_ne {a b : List UInt8} (h : a ≠ b) : (⟨a.toArray⟩ : ByteArray) ≠ ⟨b.toArray⟩ := by
  intro e
  injection e with e
  exact h (by simpa using congrArg Array.toList e)
theorem idx_le (zs : List ByteArray) (n : Nat) (x : ByteArray) (hn : 0 < n) (hz : n ≤ zs.length) (h : ∀ j, 1 ≤ j → j < n → zs.getD j ByteArray.empty ≠ x) : Lib.idxOfS (zs.take n) x ≤ 0 := by
  by_cases h0 : zs.getD 0 ByteArray.empty = x
  · rw [Lib.idxOfS_hit zs n 0 x hn hz h0 (fun j hj => absurd hj (by omega))]; simp
  · rw [Lib.idxOfS_miss zs n x (fun j hj => by
      rcases Nat.eq_zero_or_pos j with rfl | h1
      · exact h0
      · exact h j h1 hj)]
    decide
/-- The ways of a word. -/
theorem fn_ways (s : List UInt8) : (∃ k : Nat, 1 ≤ k ∧ k ≤ 6 ∧ Lib.idxOfS (fn1.take 7) ⟨s.toArray⟩ = (k : Int) ∧ funT s = some (5, (k : Int), opn k)) ∨
    (Lib.idxOfS (fn1.take 7) ⟨s.toArray⟩ ≤ 0 ∧ ∃ j : Nat, 1 ≤ j ∧ j ≤ 4 ∧ Lib.idxOfS (fn2.take 5) ⟨s.toArray⟩ = (j : Int) ∧ funT s = some (6, (j : Int), 1)) ∨
    (Lib.idxOfS (fn1.take 7) ⟨s.toArray⟩ ≤ 0 ∧ Lib.idxOfS (fn2.take 5) ⟨s.toArray⟩ ≤ 0 ∧ funT s = none) := by
  by_cases a1 : s = [108, 101, 110, 103, 116, 104]
  · subst a1
    exact .inl ⟨1, by omega, by omega, by kernel_rfl, by decide⟩
  by_cases a2 : s = [97, 98, 115]
  · subst a2
    exact .inl ⟨2, by omega, by omega, by kernel_rfl, by decide⟩
  by_cases a3 : s = [117, 112, 112, 101, 114]
  · subst a3
    exact .inl ⟨3, by omega, by omega, by kernel_rfl, by decide⟩
  by_cases a4 : s = [108, 111, 119, 101, 114]
  · subst a4
    exact .inl ⟨4, by omega, by omega, by kernel_rfl, by decide⟩
  by_cases a5 : s = [115, 117, 98, 115, 116, 114]
  · subst a5
    exact .inl ⟨5, by omega, by omega, by kernel_rfl, by decide⟩
  by_cases a6 : s = [99, 111, 97, 108, 101, 115, 99, 101]
  · subst a6
    exact .inl ⟨6, by omega, by omega, by kernel_rfl, by decide⟩
  have h1 : Lib.idxOfS (fn1.take 7) ⟨s.toArray⟩ ≤ 0 := idx_le fn1 7 _ (by decide) (by decide) (fun j hj hj7 => by
    obtain rfl | rfl | rfl | rfl | rfl | rfl : j = 1 ∨ j = 2 ∨ j = 3 ∨ j = 4 ∨ j = 5 ∨ j = 6 := by omega
    · exact ba_ne (a := [108, 101, 110, 103, 116, 104]) (fun e => a1 e.symm)
    · exact ba_ne (a := [97, 98, 115]) (fun e => a2 e.symm)
    · exact ba_ne (a := [117, 112, 112, 101, 114]) (fun e => a3 e.symm)
    · exact ba_ne (a := [108, 111, 119, 101, 114]) (fun e => a4 e.symm)
    · exact ba_ne (a := [115, 117, 98, 115, 116, 114]) (fun e => a5 e.symm)
    · exact ba_ne (a := [99, 111, 97, 108, 101, 115, 99, 101]) (fun e => a6 e.symm))
  by_cases b1 : s = [99, 111, 117, 110, 116]
  · subst b1
    exact .inr (.inl ⟨h1, 1, by omega, by omega, by kernel_rfl, by decide⟩)
  by_cases b2 : s = [115, 117, 109]
  · subst b2
    exact .inr (.inl ⟨h1, 2, by omega, by omega, by kernel_rfl, by decide⟩)
  by_cases b3 : s = [109, 105, 110]
  · subst b3
    exact .inr (.inl ⟨h1, 3, by omega, by omega, by kernel_rfl, by decide⟩)
  by_cases b4 : s = [109, 97, 120]
  · subst b4
    exact .inr (.inl ⟨h1, 4, by omega, by omega, by kernel_rfl, by decide⟩)
  have h2 : Lib.idxOfS (fn2.take 5) ⟨s.toArray⟩ ≤ 0 := idx_le fn2 5 _ (by decide) (by decide) (fun j hj hj7 => by
    obtain rfl | rfl | rfl | rfl : j = 1 ∨ j = 2 ∨ j = 3 ∨ j = 4 := by omega
    · exact ba_ne (a := [99, 111, 117, 110, 116]) (fun e => b1 e.symm)
    · exact ba_ne (a := [115, 117, 109]) (fun e => b2 e.symm)
    · exact ba_ne (a := [109, 105, 110]) (fun e => b3 e.symm)
    · exact ba_ne (a := [109, 97, 120]) (fun e => b4 e.symm))
  refine .inr (.inr ⟨h1, h2, ?_⟩)
  unfold funT
  rw [if_neg a1, if_neg a2, if_neg a3, if_neg a4, if_neg a5, if_neg a6, if_neg b1, if_neg b2, if_neg b3, if_neg b4]

theorem load_called {w : World} {g : Nat} {cs : Array Value} (hg : w.heap[g]? = some (.cells cs 163 (0, 0))) (h3 : cs.size = 3) : (loadVar 163 ⟨g, 0, none⟩).run Tryz.prog w = .ok (.agg cs) w :=
  run_loadVar_row w g 163 163 cs (0, 0) _ hg Tryz.underlying163 rfl (by rw [h3]; kernel_rfl)
theorem results_called {fn : Func} {p u : Tmp} (h : fn.results = #[.cell p 163, .tmp u]) (tmps : Array Value) (w : World) (g : Nat) (cs : Array Value)
    (hp : tmps.getD p undef = .pointer (some ⟨g, 0, none⟩)) (hg : w.heap[g]? = some (.cells cs 163 (0, 0))) (h3 : cs.size = 3) :
    (results fn tmps).run Tryz.prog w = .ok (.tuple #[.agg cs, tmps.getD u undef]) w := by
  rw [results_cell_tmp h, hp]
  simp [asAddr, load_called hg h3, Result.andThen]
/-- How 'function' ends. -/
def FnEnd (r : Option (Int × Int × Nat)) (e : Ending) : Prop := match r with
  | some f => e = .returned (.tuple #[.agg #[.int .i64 f.1, .int .i64 f.2.1, .int .i64 (f.2.2 : Nat)], .bool true])
  | none => ∃ k o n, e = .returned (.tuple #[.agg #[.int .i64 k, .int .i64 o, .int .i64 n], .bool false])

theorem hit_cells {W : World} {g : Nat} {T : TypeId} (zs : List ByteArray) (h : W.heap[g]? = some (.cells (zs.map Value.string).toArray T (0, 0))) : ∀ j, j < zs.length → W.cell? ⟨g, 0 + j, none⟩ = some (.string (zs.getD j ByteArray.empty)) := by
  intro j hj
  rw [blk_cell h, Nat.zero_add, List.getElem?_toArray, List.getElem?_map, List.getElem?_eq_getElem hj, List.getD_eq_getElem?_getD, List.getElem?_eq_getElem hj]
  rfl
set_option maxRecDepth 100000 in
set_option maxHeartbeats 6400000 in
theorem function_calls (s : List UInt8) (w : World) : Calls Tryz.prog 136 #[.string ⟨s.toArray⟩] w fun e w' => FnEnd (funT s) e ∧ Below w.heap.size w w' := by
  have HB1 := Asd.mk (below_alloc (below_alloc (Below.refl _ w) (.cells #[.int .i64 0, .int .i64 0, .int .i64 0] 163 (0, 0))) (.cells (fn1.map Value.string).toArray 9 (0, 0)))
  have HC0 := Asd.mk (blk_alloc (blk_new w (.cells #[.int .i64 0, .int .i64 0, .int .i64 0] 163 (0, 0))) (.cells (fn1.map Value.string).toArray 9 (0, 0)))
  have HC1 := Asd.mk (nb1 w (.cells #[.int .i64 0, .int .i64 0, .int .i64 0] 163 (0, 0)) (.cells (fn1.map Value.string).toArray 9 (0, 0)))
  have HWY := Asd.mk (fn_ways s)
  go_enter Tryz.func136, Tryz.ntmps136
  go_wp2_with fail
  change Calls _ _ _ ((w.alloc (.cells #[.int .i64 0, .int .i64 0, .int .i64 0] 163 (0, 0))).alloc (.cells (fn1.map Value.string).toArray 9 (0, 0))) _
  generalize (w.alloc (.cells #[.int .i64 0, .int .i64 0, .int .i64 0] 163 (0, 0))).alloc (.cells (fn1.map Value.string).toArray 9 (0, 0)) = w1 at HB1 HC0 HC1 ⊢
  refine (Tryz.slices_Index_string (w.heap.size + 1) 0 7 7 fn1 ⟨s.toArray⟩ w1 (by decide) (by decide) (hit_cells fn1 HC1.out)).mono ?_
  rintro e wq ⟨rfl, hq⟩
  obtain rfl : w1 = wq := hq.symm
  have HTAIL : Asd (∀ o, Below w.heap.size w (w1.alloc o) ∧ (w1.alloc o).heap[w.heap.size]? = some (.cells #[.int .i64 0, .int .i64 0, .int .i64 0] 163 (0, 0))) := Asd.mk fun o => ⟨below_alloc HB1.out o, blk_alloc HC0.out o⟩
  generalize hi1 : Lib.idxOfS (fn1.take 7) ⟨s.toArray⟩ = i1
  rcases HWY.out with ⟨k, hk1, hk6, hik, hfn⟩ | ⟨hle, j, hj1, hj4, hij, hfn⟩ | ⟨hle, hle2, hfn⟩
  · obtain rfl : i1 = (k : Int) := hi1.symm.trans hik
    have HFN := Asd.mk hfn
    clear hi1 hik hfn
    have y0 := (blk_cell HC0.out 0).trans rfl
    have y1 := (blk_cell HC0.out 1).trans rfl
    have y2 := (blk_cell HC0.out 2).trans rfl
    have z0 := blk_frozen HC0.out 0
    have z1 := blk_frozen HC0.out 1
    have z2 := blk_frozen HC0.out 2
    go_wp2_with fail
    refine (operands_calls k _).mono ?_
    rintro e wq ⟨rfl, hq⟩
    obtain rfl : w1 = wq := hq.symm
    have HFIN : Asd (∀ a b c, (((w1.setCell ⟨w.heap.size, 0, none⟩ a).setCell ⟨w.heap.size, 1, none⟩ b).setCell ⟨w.heap.size, 2, none⟩ c).heap[w.heap.size]? = some (.cells #[a, b, c] 163 (0, 0)) ∧ Below w.heap.size w (((w1.setCell ⟨w.heap.size, 0, none⟩ a).setCell ⟨w.heap.size, 1, none⟩ b).setCell ⟨w.heap.size, 2, none⟩ c)) := Asd.mk fun a b c =>
      ⟨(blk_set (blk_set (blk_set HC0.out 0 a) 1 b) 2 c).trans rfl, ((HB1.out.setCell (Nat.le_refl _) a).setCell (Nat.le_refl _) b).setCell (Nat.le_refl _) c⟩
    go_wp2
    refine bodyPost_ret (results_called rfl _ _ w.heap.size _ rfl (HFIN.out _ _ _).1 rfl) rfl ?_
    refine ⟨?_, (HFIN.out _ _ _).2⟩
    rw [HFN.out]
    rfl
  · have HFN := Asd.mk hfn
    have hle1 : i1 ≤ 0 := by rw [← hi1]; exact hle
    have HIJ := Asd.mk hij
    clear hi1 hle hij hfn
    have hng : ¬ (0 : Int) < i1 := by omega
    have HB2 := Asd.mk (HTAIL.out (.cells (fn2.map Value.string).toArray 9 (0, 0))).1
    have HD0 := Asd.mk (HTAIL.out (.cells (fn2.map Value.string).toArray 9 (0, 0))).2
    have HD1 := Asd.mk (blk_new w1 (.cells (fn2.map Value.string).toArray 9 (0, 0)))
    go_wp2_with fail
    change Calls _ _ _ (w1.alloc (.cells (fn2.map Value.string).toArray 9 (0, 0))) _
    generalize w1.alloc (.cells (fn2.map Value.string).toArray 9 (0, 0)) = w2 at HB2 HD0 HD1 ⊢
    refine (Tryz.slices_Index_string w1.heap.size 0 5 5 fn2 ⟨s.toArray⟩ w2 (by decide) (by decide) (hit_cells fn2 HD1.out)).mono ?_
    rintro e wq ⟨rfl, hq⟩
    obtain rfl : w2 = wq := hq.symm
    have y0 := (blk_cell HD0.out 0).trans rfl
    have y1 := (blk_cell HD0.out 1).trans rfl
    have y2 := (blk_cell HD0.out 2).trans rfl
    have z0 := blk_frozen HD0.out 0
    have z1 := blk_frozen HD0.out 1
    have z2 := blk_frozen HD0.out 2
    have HFIN : Asd (∀ a b c, (((w2.setCell ⟨w.heap.size, 0, none⟩ a).setCell ⟨w.heap.size, 1, none⟩ b).setCell ⟨w.heap.size, 2, none⟩ c).heap[w.heap.size]? = some (.cells #[a, b, c] 163 (0, 0)) ∧ Below w.heap.size w (((w2.setCell ⟨w.heap.size, 0, none⟩ a).setCell ⟨w.heap.size, 1, none⟩ b).setCell ⟨w.heap.size, 2, none⟩ c)) := Asd.mk fun a b c =>
      ⟨(blk_set (blk_set (blk_set HD0.out 0 a) 1 b) 2 c).trans rfl, ((HB2.out.setCell (Nat.le_refl _) a).setCell (Nat.le_refl _) b).setCell (Nat.le_refl _) c⟩
    rw [HIJ.out]
    go_wp2
    refine bodyPost_ret (results_called rfl _ _ w.heap.size _ rfl (HFIN.out _ _ _).1 rfl) rfl ?_
    refine ⟨?_, (HFIN.out _ _ _).2⟩
    rw [HFN.out]
    have hj : decide ((0 : Int) < (j : Int)) = true := by simp; omega
    first | rfl | (simp [FnEnd]; try omega)
  · have HFN := Asd.mk hfn
    have hle1 : i1 ≤ 0 := by rw [← hi1]; exact hle
    have HLE2 := Asd.mk hle2
    clear hi1 hle hle2 hfn
    have hng : ¬ (0 : Int) < i1 := by omega
    have HB2 := Asd.mk (HTAIL.out (.cells (fn2.map Value.string).toArray 9 (0, 0))).1
    have HD0 := Asd.mk (HTAIL.out (.cells (fn2.map Value.string).toArray 9 (0, 0))).2
    have HD1 := Asd.mk (blk_new w1 (.cells (fn2.map Value.string).toArray 9 (0, 0)))
    go_wp2_with fail
    change Calls _ _ _ (w1.alloc (.cells (fn2.map Value.string).toArray 9 (0, 0))) _
    generalize w1.alloc (.cells (fn2.map Value.string).toArray 9 (0, 0)) = w2 at HB2 HD0 HD1 ⊢
    refine (Tryz.slices_Index_string w1.heap.size 0 5 5 fn2 ⟨s.toArray⟩ w2 (by decide) (by decide) (hit_cells fn2 HD1.out)).mono ?_
    rintro e wq ⟨rfl, hq⟩
    obtain rfl : w2 = wq := hq.symm
    have y0 := (blk_cell HD0.out 0).trans rfl
    have y1 := (blk_cell HD0.out 1).trans rfl
    have y2 := (blk_cell HD0.out 2).trans rfl
    have z0 := blk_frozen HD0.out 0
    have z1 := blk_frozen HD0.out 1
    have z2 := blk_frozen HD0.out 2
    have HFIN : Asd (∀ a b c, (((w2.setCell ⟨w.heap.size, 0, none⟩ a).setCell ⟨w.heap.size, 1, none⟩ b).setCell ⟨w.heap.size, 2, none⟩ c).heap[w.heap.size]? = some (.cells #[a, b, c] 163 (0, 0)) ∧ Below w.heap.size w (((w2.setCell ⟨w.heap.size, 0, none⟩ a).setCell ⟨w.heap.size, 1, none⟩ b).setCell ⟨w.heap.size, 2, none⟩ c)) := Asd.mk fun a b c =>
      ⟨(blk_set (blk_set (blk_set HD0.out 0 a) 1 b) 2 c).trans rfl, ((HB2.out.setCell (Nat.le_refl _) a).setCell (Nat.le_refl _) b).setCell (Nat.le_refl _) c⟩
    generalize hi2 : Lib.idxOfS (fn2.take 5) ⟨s.toArray⟩ = i2
    have hle3 : ¬ (0 : Int) < i2 := by rw [← hi2]; have := HLE2.out; omega
    clear hi2
    go_wp2
    refine bodyPost_ret (results_called rfl _ _ w.heap.size _ rfl (HFIN.out _ _ _).1 rfl) rfl ?_
    refine ⟨?_, (HFIN.out _ _ _).2⟩
    rw [HFN.out]
    have hd : decide ((0 : Int) < i2) = false := by simpa using hle3
    exact ⟨6, i2, 1, ret_eq (by show Value.tuple #[.agg #[.int .i64 6, .int .i64 i2, .int .i64 1], .bool (decide ((0 : Int) < i2))] = _; rw [hd])⟩
end Go.Proofs.YtbeeaikilcnpgaaGreatDoor.Exp

/- The reader of expressions: word. -/
set_option linter.unusedVariables false
set_option linter.unusedSimpArgs false
namespace Go.Proofs.YtbeeaikilcnpgaaGreatDoor.Exp
open Go.RowKit Go.Proofs.YtbeeaikilcnpgaaGreatDoor.Base Go.Proofs.YtbeeaikilcnpgaaGreatDoor.App Go.Proofs.YtbeeaikilcnpgaaGreatDoor.Byt Go.Proofs.YtbeeaikilcnpgaaGreatDoor.Lex

theorem funT_bound {s : List UInt8} {f : Int × Int × Nat} (h : funT s = some f) : 1 ≤ f.2.2 ∧ f.2.2 ≤ 3 := by
  unfold funT at h
  repeat' split at h
  all_goals first | (injection h with h; subst h; exact ⟨by decide, by decide⟩) | cases h
/-- Behind the words that are literals: a call, or a column. -/
def wordR (nm : List UInt8 → Bool) (l : Toks) (sub : Option PF) (s : List UInt8) (i : Nat) : Res Ex := match funT s with
  | some f => if isT l (i + 1) 5 [40] then callP l sub f (i + 1) else colP nm l i
  | none => colP nm l i
set_option maxRecDepth 100000 in
set_option maxHeartbeats 6400000 in
theorem word_null (R : Nat) (A : Option Addr) (m c : Nat) (l : Toks) (i d : Nat) (w : World) (hi : i < l.length) (h : RdW w R A m c l i d) :
    Calls Tryz.prog 120 #[.pointer (some ⟨R, 0, none⟩), .string ⟨#[110, 117, 108, 108]⟩] w (Got R A m c l d w (.ok (litE vNull, i + 1))) := by
  have HH := Asd.mk h
  have HRW : Asd (R < w.heap.size) := Asd.mk (blk_lt h.blk)
  have hib : i ≤ 16384 := by have h1 := h.tok.1; have h2 := h.tok.2.1; omega
  have HBA := Asd.mk (below_alloc (Below.refl _ w) (.cells #[.int .i64 0, .int .i64 0, .int .i64 0, .int .i64 0, .string ⟨#[]⟩, .string ⟨#[]⟩, .string ⟨#[]⟩, .int .i64 0, .int .i64 0, .slice none 0 0] 26 (0, 0)))
  have HZ0 := Asd.mk (blk_new w (.cells #[.int .i64 0, .int .i64 0, .int .i64 0, .int .i64 0, .string ⟨#[]⟩, .string ⟨#[]⟩, .string ⟨#[]⟩, .int .i64 0, .int .i64 0, .slice none 0 0] 26 (0, 0)))
  clear h
  have HRA := Asd.mk (HH.out.below HBA.out)
  have r1 := (blk_cell HRA.out.blk 1).trans rfl
  have z1 := blk_frozen HRA.out.blk 1
  have hs := HRA.out.set (j := i + 1) (by omega)
  have HRS := Asd.mk hs.2
  have HFS := Asd.mk (frR_below HBA.out hs.1)
  have HZS := Asd.mk (blk_fr HZ0.out hs.1 (by show ¬ w.heap.size = R; have := HRW.out; omega))
  clear hs
  go_enter Tryz.func120, Tryz.ntmps120
  go_wp2_with fail
  change Calls _ _ _ ((w.alloc (.cells #[.int .i64 0, .int .i64 0, .int .i64 0, .int .i64 0, .string ⟨#[]⟩, .string ⟨#[]⟩, .string ⟨#[]⟩, .int .i64 0, .int .i64 0, .slice none 0 0] 26 (0, 0))).setCell ⟨R, 1, none⟩ (.int .i64 ((i + 1 : Nat) : Int))) _
  generalize ((w.alloc (.cells #[.int .i64 0, .int .i64 0, .int .i64 0, .int .i64 0, .string ⟨#[]⟩, .string ⟨#[]⟩, .string ⟨#[]⟩, .int .i64 0, .int .i64 0, .slice none 0 0] 26 (0, 0))).setCell ⟨R, 1, none⟩ (.int .i64 ((i + 1 : Nat) : Int))) = w3 at HRS HFS HZS ⊢
  refine (literal_calls vNull w3).mono ?_
  rintro e w4 ⟨rfl, hb4⟩
  have HF4 := Asd.mk (below_frR HFS.out hb4)
  have HZ4 := Asd.mk (blk_below hb4 HZS.out)
  have HR4 := Asd.mk (HRS.out.below hb4)
  clear hb4 r1 z1
  unfold exV
  have y0 := (blk_cell HZ4.out 0).trans rfl
  have y1 := (blk_cell HZ4.out 1).trans rfl
  have y2 := (blk_cell HZ4.out 2).trans rfl
  have y3 := (blk_cell HZ4.out 3).trans rfl
  have y4 := (blk_cell HZ4.out 4).trans rfl
  have y5 := (blk_cell HZ4.out 5).trans rfl
  have y6 := (blk_cell HZ4.out 6).trans rfl
  have y7 := (blk_cell HZ4.out 7).trans rfl
  have y8 := (blk_cell HZ4.out 8).trans rfl
  have y9 := (blk_cell HZ4.out 9).trans rfl
  have z0 := blk_frozen HZ4.out 0
  have z1 := blk_frozen HZ4.out 1
  have z2 := blk_frozen HZ4.out 2
  have z3 := blk_frozen HZ4.out 3
  have z4 := blk_frozen HZ4.out 4
  have z5 := blk_frozen HZ4.out 5
  have z6 := blk_frozen HZ4.out 6
  have z7 := blk_frozen HZ4.out 7
  have z8 := blk_frozen HZ4.out 8
  have z9 := blk_frozen HZ4.out 9
  go_wp2
  refine bodyPost_ret (results_cell_row rfl _ _ w.heap.size 26 _ (0, 0) _ rfl (put10_blk HZ4.out _ _ _ _ _ _ _ _ _ _) Tryz.underlying26 rfl (by kernel_rfl)) rfl ?_
  exact fin_got (x := litE vNull) HH.out HF4.out (Nat.le_refl _) HR4.out (.nil _ _)
set_option maxRecDepth 100000 in
set_option maxHeartbeats 6400000 in
theorem word_true (R : Nat) (A : Option Addr) (m c : Nat) (l : Toks) (i d : Nat) (w : World) (hi : i < l.length) (h : RdW w R A m c l i d) :
    Calls Tryz.prog 120 #[.pointer (some ⟨R, 0, none⟩), .string ⟨#[116, 114, 117, 101]⟩] w (Got R A m c l d w (.ok (litE (⟨1, 1, []⟩ : Vl), i + 1))) := by
  have HH := Asd.mk h
  have HRW : Asd (R < w.heap.size) := Asd.mk (blk_lt h.blk)
  have hib : i ≤ 16384 := by have h1 := h.tok.1; have h2 := h.tok.2.1; omega
  have HBA := Asd.mk (below_alloc (Below.refl _ w) (.cells #[.int .i64 0, .int .i64 0, .int .i64 0, .int .i64 0, .string ⟨#[]⟩, .string ⟨#[]⟩, .string ⟨#[]⟩, .int .i64 0, .int .i64 0, .slice none 0 0] 26 (0, 0)))
  have HZ0 := Asd.mk (blk_new w (.cells #[.int .i64 0, .int .i64 0, .int .i64 0, .int .i64 0, .string ⟨#[]⟩, .string ⟨#[]⟩, .string ⟨#[]⟩, .int .i64 0, .int .i64 0, .slice none 0 0] 26 (0, 0)))
  clear h
  have HRA := Asd.mk (HH.out.below HBA.out)
  have r1 := (blk_cell HRA.out.blk 1).trans rfl
  have z1 := blk_frozen HRA.out.blk 1
  have hs := HRA.out.set (j := i + 1) (by omega)
  have HRS := Asd.mk hs.2
  have HFS := Asd.mk (frR_below HBA.out hs.1)
  have HZS := Asd.mk (blk_fr HZ0.out hs.1 (by show ¬ w.heap.size = R; have := HRW.out; omega))
  clear hs
  go_enter Tryz.func120, Tryz.ntmps120
  have HBV := Asd.mk fun (o : Obj) => below_alloc (Below.refl _ ((w.alloc (.cells #[.int .i64 0, .int .i64 0, .int .i64 0, .int .i64 0, .string ⟨#[]⟩, .string ⟨#[]⟩, .string ⟨#[]⟩, .int .i64 0, .int .i64 0, .slice none 0 0] 26 (0, 0))).setCell ⟨R, 1, none⟩ (.int .i64 ((i + 1 : Nat) : Int)))) o
  go_wp2_with fail
  change Calls _ _ _ (((w.alloc (.cells #[.int .i64 0, .int .i64 0, .int .i64 0, .int .i64 0, .string ⟨#[]⟩, .string ⟨#[]⟩, .string ⟨#[]⟩, .int .i64 0, .int .i64 0, .slice none 0 0] 26 (0, 0))).setCell ⟨R, 1, none⟩ (.int .i64 ((i + 1 : Nat) : Int))).alloc (.cells #[.int .i64 1, .int .i64 1, .string ⟨#[]⟩] 23 (0, 0))) _
  have HRS2 := Asd.mk (HRS.out.below (HBV.out (.cells #[.int .i64 1, .int .i64 1, .string ⟨#[]⟩] 23 (0, 0))))
  have HFS2 := Asd.mk (below_frR HFS.out (HBV.out (.cells #[.int .i64 1, .int .i64 1, .string ⟨#[]⟩] 23 (0, 0))))
  have HZS2 := Asd.mk (blk_below (HBV.out (.cells #[.int .i64 1, .int .i64 1, .string ⟨#[]⟩] 23 (0, 0))) HZS.out)
  clear HBV HRS HFS HZS
  generalize ((w.alloc (.cells #[.int .i64 0, .int .i64 0, .int .i64 0, .int .i64 0, .string ⟨#[]⟩, .string ⟨#[]⟩, .string ⟨#[]⟩, .int .i64 0, .int .i64 0, .slice none 0 0] 26 (0, 0))).setCell ⟨R, 1, none⟩ (.int .i64 ((i + 1 : Nat) : Int))).alloc (.cells #[.int .i64 1, .int .i64 1, .string ⟨#[]⟩] 23 (0, 0)) = w3 at HRS2 HFS2 HZS2 ⊢
  have HRS := HRS2
  have HFS := HFS2
  have HZS := HZS2
  refine (literal_calls (⟨1, 1, []⟩ : Vl) w3).mono ?_
  rintro e w4 ⟨rfl, hb4⟩
  have HF4 := Asd.mk (below_frR HFS.out hb4)
  have HZ4 := Asd.mk (blk_below hb4 HZS.out)
  have HR4 := Asd.mk (HRS.out.below hb4)
  clear hb4 r1 z1
  unfold exV
  have y0 := (blk_cell HZ4.out 0).trans rfl
  have y1 := (blk_cell HZ4.out 1).trans rfl
  have y2 := (blk_cell HZ4.out 2).trans rfl
  have y3 := (blk_cell HZ4.out 3).trans rfl
  have y4 := (blk_cell HZ4.out 4).trans rfl
  have y5 := (blk_cell HZ4.out 5).trans rfl
  have y6 := (blk_cell HZ4.out 6).trans rfl
  have y7 := (blk_cell HZ4.out 7).trans rfl
  have y8 := (blk_cell HZ4.out 8).trans rfl
  have y9 := (blk_cell HZ4.out 9).trans rfl
  have z0 := blk_frozen HZ4.out 0
  have z1 := blk_frozen HZ4.out 1
  have z2 := blk_frozen HZ4.out 2
  have z3 := blk_frozen HZ4.out 3
  have z4 := blk_frozen HZ4.out 4
  have z5 := blk_frozen HZ4.out 5
  have z6 := blk_frozen HZ4.out 6
  have z7 := blk_frozen HZ4.out 7
  have z8 := blk_frozen HZ4.out 8
  have z9 := blk_frozen HZ4.out 9
  go_wp2
  refine bodyPost_ret (results_cell_row rfl _ _ w.heap.size 26 _ (0, 0) _ rfl (put10_blk HZ4.out _ _ _ _ _ _ _ _ _ _) Tryz.underlying26 rfl (by kernel_rfl)) rfl ?_
  exact fin_got (x := litE (⟨1, 1, []⟩ : Vl)) HH.out HF4.out (Nat.le_refl _) HR4.out (.nil _ _)
set_option maxRecDepth 100000 in
set_option maxHeartbeats 6400000 in
theorem word_false (R : Nat) (A : Option Addr) (m c : Nat) (l : Toks) (i d : Nat) (w : World) (hi : i < l.length) (h : RdW w R A m c l i d) :
    Calls Tryz.prog 120 #[.pointer (some ⟨R, 0, none⟩), .string ⟨#[102, 97, 108, 115, 101]⟩] w (Got R A m c l d w (.ok (litE (⟨1, 0, []⟩ : Vl), i + 1))) := by
  have HH := Asd.mk h
  have HRW : Asd (R < w.heap.size) := Asd.mk (blk_lt h.blk)
  have hib : i ≤ 16384 := by have h1 := h.tok.1; have h2 := h.tok.2.1; omega
  have HBA := Asd.mk (below_alloc (Below.refl _ w) (.cells #[.int .i64 0, .int .i64 0, .int .i64 0, .int .i64 0, .string ⟨#[]⟩, .string ⟨#[]⟩, .string ⟨#[]⟩, .int .i64 0, .int .i64 0, .slice none 0 0] 26 (0, 0)))
  have HZ0 := Asd.mk (blk_new w (.cells #[.int .i64 0, .int .i64 0, .int .i64 0, .int .i64 0, .string ⟨#[]⟩, .string ⟨#[]⟩, .string ⟨#[]⟩, .int .i64 0, .int .i64 0, .slice none 0 0] 26 (0, 0)))
  clear h
  have HRA := Asd.mk (HH.out.below HBA.out)
  have r1 := (blk_cell HRA.out.blk 1).trans rfl
  have z1 := blk_frozen HRA.out.blk 1
  have hs := HRA.out.set (j := i + 1) (by omega)
  have HRS := Asd.mk hs.2
  have HFS := Asd.mk (frR_below HBA.out hs.1)
  have HZS := Asd.mk (blk_fr HZ0.out hs.1 (by show ¬ w.heap.size = R; have := HRW.out; omega))
  clear hs
  go_enter Tryz.func120, Tryz.ntmps120
  have HBV := Asd.mk fun (o : Obj) => below_alloc (Below.refl _ ((w.alloc (.cells #[.int .i64 0, .int .i64 0, .int .i64 0, .int .i64 0, .string ⟨#[]⟩, .string ⟨#[]⟩, .string ⟨#[]⟩, .int .i64 0, .int .i64 0, .slice none 0 0] 26 (0, 0))).setCell ⟨R, 1, none⟩ (.int .i64 ((i + 1 : Nat) : Int)))) o
  go_wp2_with fail
  change Calls _ _ _ (((w.alloc (.cells #[.int .i64 0, .int .i64 0, .int .i64 0, .int .i64 0, .string ⟨#[]⟩, .string ⟨#[]⟩, .string ⟨#[]⟩, .int .i64 0, .int .i64 0, .slice none 0 0] 26 (0, 0))).setCell ⟨R, 1, none⟩ (.int .i64 ((i + 1 : Nat) : Int))).alloc (.cells #[.int .i64 1, .int .i64 0, .string ⟨#[]⟩] 23 (0, 0))) _
  have HRS2 := Asd.mk (HRS.out.below (HBV.out (.cells #[.int .i64 1, .int .i64 0, .string ⟨#[]⟩] 23 (0, 0))))
  have HFS2 := Asd.mk (below_frR HFS.out (HBV.out (.cells #[.int .i64 1, .int .i64 0, .string ⟨#[]⟩] 23 (0, 0))))
  have HZS2 := Asd.mk (blk_below (HBV.out (.cells #[.int .i64 1, .int .i64 0, .string ⟨#[]⟩] 23 (0, 0))) HZS.out)
  clear HBV HRS HFS HZS
  generalize ((w.alloc (.cells #[.int .i64 0, .int .i64 0, .int .i64 0, .int .i64 0, .string ⟨#[]⟩, .string ⟨#[]⟩, .string ⟨#[]⟩, .int .i64 0, .int .i64 0, .slice none 0 0] 26 (0, 0))).setCell ⟨R, 1, none⟩ (.int .i64 ((i + 1 : Nat) : Int))).alloc (.cells #[.int .i64 1, .int .i64 0, .string ⟨#[]⟩] 23 (0, 0)) = w3 at HRS2 HFS2 HZS2 ⊢
  have HRS := HRS2
  have HFS := HFS2
  have HZS := HZS2
  refine (literal_calls (⟨1, 0, []⟩ : Vl) w3).mono ?_
  rintro e w4 ⟨rfl, hb4⟩
  have HF4 := Asd.mk (below_frR HFS.out hb4)
  have HZ4 := Asd.mk (blk_below hb4 HZS.out)
  have HR4 := Asd.mk (HRS.out.below hb4)
  clear hb4 r1 z1
  unfold exV
  have y0 := (blk_cell HZ4.out 0).trans rfl
  have y1 := (blk_cell HZ4.out 1).trans rfl
  have y2 := (blk_cell HZ4.out 2).trans rfl
  have y3 := (blk_cell HZ4.out 3).trans rfl
  have y4 := (blk_cell HZ4.out 4).trans rfl
  have y5 := (blk_cell HZ4.out 5).trans rfl
  have y6 := (blk_cell HZ4.out 6).trans rfl
  have y7 := (blk_cell HZ4.out 7).trans rfl
  have y8 := (blk_cell HZ4.out 8).trans rfl
  have y9 := (blk_cell HZ4.out 9).trans rfl
  have z0 := blk_frozen HZ4.out 0
  have z1 := blk_frozen HZ4.out 1
  have z2 := blk_frozen HZ4.out 2
  have z3 := blk_frozen HZ4.out 3
  have z4 := blk_frozen HZ4.out 4
  have z5 := blk_frozen HZ4.out 5
  have z6 := blk_frozen HZ4.out 6
  have z7 := blk_frozen HZ4.out 7
  have z8 := blk_frozen HZ4.out 8
  have z9 := blk_frozen HZ4.out 9
  go_wp2
  refine bodyPost_ret (results_cell_row rfl _ _ w.heap.size 26 _ (0, 0) _ rfl (put10_blk HZ4.out _ _ _ _ _ _ _ _ _ _) Tryz.underlying26 rfl (by kernel_rfl)) rfl ?_
  exact fin_got (x := litE (⟨1, 0, []⟩ : Vl)) HH.out HF4.out (Nat.le_refl _) HR4.out (.nil _ _)
set_option maxRecDepth 100000 in
set_option maxHeartbeats 12800000 in
theorem word_rest (R : Nat) (A : Option Addr) (m c : Nat) (l : Toks) (sub : Option PF) (i d : Nat) (s : List UInt8) (w : World) (hnear : Near l) (hi : i < l.length)
    (h1 : s ≠ [110, 117, 108, 108]) (h2 : s ≠ [116, 114, 117, 101]) (h3 : s ≠ [102, 97, 108, 115, 101])
    (hcall : ∀ (w : World) (j : Nat) (f : Int × Int × Nat), 1 ≤ f.2.2 ∧ f.2.2 ≤ 3 → isT l j 5 [40] = true → RdW w R A m c l j d → Calls Tryz.prog 137 #[.pointer (some ⟨R, 0, none⟩), .agg #[.int .i64 f.1, .int .i64 f.2.1, .int .i64 (f.2.2 : Nat)]] w (Got R A m c l d w (callP l sub f j))) (h : RdW w R A m c l i d) :
    Calls Tryz.prog 120 #[.pointer (some ⟨R, 0, none⟩), .string ⟨s.toArray⟩] w (Got R A m c l d w (wordR nmOk l sub s i)) := by
  have HH := Asd.mk h
  have HRW : Asd (R < w.heap.size) := Asd.mk (blk_lt h.blk)
  have HCA := Asd.mk hcall
  have HNE := Asd.mk hnear
  have HI := Asd.mk hi
  have hib : i ≤ 16384 := by have h1 := h.tok.1; have h2 := h.tok.2.1; omega
  have HBA := Asd.mk (below_alloc (Below.refl _ w) (.cells #[.int .i64 0, .int .i64 0, .int .i64 0, .int .i64 0, .string ⟨#[]⟩, .string ⟨#[]⟩, .string ⟨#[]⟩, .int .i64 0, .int .i64 0, .slice none 0 0] 26 (0, 0)))
  have HZ0 := Asd.mk (blk_new w (.cells #[.int .i64 0, .int .i64 0, .int .i64 0, .int .i64 0, .string ⟨#[]⟩, .string ⟨#[]⟩, .string ⟨#[]⟩, .int .i64 0, .int .i64 0, .slice none 0 0] 26 (0, 0)))
  have g1 : (s == [110, 117, 108, 108]) = false := by simp [h1]
  have g2 : (s == [116, 114, 117, 101]) = false := by simp [h2]
  have g3 : (s == [102, 97, 108, 115, 101]) = false := by simp [h3]
  clear h h1 h2 h3 hcall hnear hi
  go_enter Tryz.func120, Tryz.ntmps120
  go_wp2_with fail
  generalize w.alloc (.cells #[.int .i64 0, .int .i64 0, .int .i64 0, .int .i64 0, .string ⟨#[]⟩, .string ⟨#[]⟩, .string ⟨#[]⟩, .int .i64 0, .int .i64 0, .slice none 0 0] 26 (0, 0)) = w0 at HBA HZ0 ⊢
  refine (function_calls s w0).mono ?_
  rintro e w1 ⟨hfn, hb1⟩
  have HB1 : Asd (Below w.heap.size w w1) := Asd.mk (HBA.out.trans (hb1.mono HBA.out.size))
  have HZ1 := Asd.mk (blk_below hb1 HZ0.out)
  clear hb1 g1 g2 g3 HBA HZ0
  obtain ⟨k1, k2, k3, ok, rfl, hway⟩ : ∃ k1 k2 k3 ok, e = .returned (.tuple #[.agg #[.int .i64 k1, .int .i64 k2, .int .i64 k3], .bool ok]) ∧ ((ok = false ∧ wordR nmOk l sub s i = colP nmOk l i) ∨ (∃ f : Int × Int × Nat, (1 ≤ f.2.2 ∧ f.2.2 ≤ 3) ∧ ok = true ∧ k1 = f.1 ∧ k2 = f.2.1 ∧ k3 = (f.2.2 : Nat) ∧ wordR nmOk l sub s i = if isT l (i + 1) 5 [40] then callP l sub f (i + 1) else colP nmOk l i)) := by
    cases hx : funT s with
    | none => rw [hx] at hfn; obtain ⟨k, o, n, rfl⟩ := hfn; exact ⟨k, o, n, false, rfl, .inl ⟨rfl, by unfold wordR; rw [hx]⟩⟩
    | some f => rw [hx] at hfn; exact ⟨_, _, _, true, hfn, .inr ⟨f, funT_bound hx, rfl, rfl, rfl, rfl, by unfold wordR; rw [hx]⟩⟩
  have HWAY := Asd.mk hway
  clear hfn hway
  have HB2 : Asd (Below w.heap.size w (w1.alloc (.cells #[.int .i64 k1, .int .i64 k2, .int .i64 k3] 163 (0, 0)))) := Asd.mk (below_alloc HB1.out _)
  have HZ2 := Asd.mk (blk_alloc HZ1.out (.cells #[.int .i64 k1, .int .i64 k2, .int .i64 k3] 163 (0, 0)))
  have HC2 := Asd.mk (blk_new w1 (.cells #[.int .i64 k1, .int .i64 k2, .int .i64 k3] 163 (0, 0)))
  go_upto_region 13 with fail
  generalize w1.alloc (.cells #[.int .i64 k1, .int .i64 k2, .int .i64 k3] 163 (0, 0)) = w2 at HB2 HZ2 HC2 ⊢
  have HSW : Asd (w.heap.size < w1.heap.size) := Asd.mk (blk_lt HZ1.out)
  generalize w1.heap.size = b6 at HC2 HSW ⊢
  have HR2 := Asd.mk (HH.out.below HB2.out)
  go_cut [85] (fun s85 wx => s85 = .bool (ok && isT l (i + 1) 5 [40]) ∧ Asd (Below w2.heap.size w2 wx))
  case first =>
    have r0 := (blk_cell HR2.out.blk 0).trans rfl
    have r1 := (blk_cell HR2.out.blk 1).trans rfl
    cases ok with
    | false =>
      go_quiet (fail)
      have HQ := Asd.mk (below_drewN' w2 nq)
      go_wp2
      go_meet
      exact ⟨rfl, HQ⟩
    | true =>
      by_cases hlt : i + 1 < l.length
      · have hltm : i + 1 < m := by have := HR2.out.tok.1; omega
        have hlti : (i : Int) + 1 < (m : Int) := by omega
        obtain ⟨gt, rfl, hc⟩ := HR2.out.tok.2.2 (by omega)
        obtain ⟨t0, t1, t2, t3⟩ := hc (i + 1) hlt
        have HTT := Asd.mk (isT_some (k := 5) (s := [40]) hlt)
        generalize l[i + 1] = x at t0 t1 t2 t3 HTT
        clear hc
        by_cases hk : x.1.kind = 5
        · have hk' : ((x.1.kind : Nat) : Int) = 5 := by omega
          rw [hk'] at t0
          by_cases hs : x.1.text = [40]
          · rw [hs] at t1
            have HO : Asd (isT l (i + 1) 5 [40] = true) := Asd.mk (by rw [HTT.out]; simp [hk, hs])
            clear hk hk' hs
            go_quiet (fail)
            have HQ := Asd.mk (below_drewN' w2 nq)
            go_wp2
            go_meet
            exact ⟨by rw [HO.out]; rfl, HQ⟩
          · have hs' : ¬ (⟨x.1.text.toArray⟩ : ByteArray).toList = (⟨#[40]⟩ : ByteArray).toList := by rw [toList_mk, show (⟨#[40]⟩ : ByteArray).toList = [40] from toList_mk _]; exact hs
            have HO : Asd (isT l (i + 1) 5 [40] = false) := Asd.mk (by rw [HTT.out]; simp [hs])
            have HX2 : Asd ((x.1.text == [40]) = false) := Asd.mk (by simp [hs])
            clear hk hk' hs
            go_quiet (fail)
            have HQ := Asd.mk (below_drewN' w2 nq)
            go_wp2
            go_meet
            exact ⟨by rw [HO.out]; first | rfl | (show Value.bool (x.1.text == [40]) = Value.bool false; rw [HX2.out]), HQ⟩
        · have hk' : ¬ ((x.1.kind : Nat) : Int) = 5 := by omega
          have hkb : (((x.1.kind : Nat) : Int) == 5) = false := by simpa using hk'
          have HO : Asd (isT l (i + 1) 5 [40] = false) := Asd.mk (by rw [HTT.out]; simp [hk])
          clear hk
          go_quiet (fail)
          have HQ := Asd.mk (below_drewN' w2 nq)
          go_wp2
          go_meet
          exact ⟨by rw [HO.out]; rfl, HQ⟩
      · have hltm : ¬ i + 1 < m := by have := HR2.out.tok.1; omega
        have hlti : ¬ (i : Int) + 1 < (m : Int) := by omega
        have HO : Asd (isT l (i + 1) 5 [40] = false) := Asd.mk (isT_none (by omega))
        clear hlt
        go_quiet (fail)
        have HQ := Asd.mk (below_drewN' w2 nq)
        go_wp2
        go_meet
        exact ⟨by rw [HO.out]; rfl, HQ⟩
  case rest =>
    obtain ⟨rfl, HQ⟩ := hcut
    have HB3 : Asd (Below w.heap.size w wc) := Asd.mk (HB2.out.trans (HQ.out.mono HB2.out.size))
    have HZ3 := Asd.mk (blk_below HQ.out HZ2.out)
    have HC3 := Asd.mk (blk_below HQ.out HC2.out)
    have HR3 := Asd.mk (HR2.out.below HQ.out)
    clear HQ HB2 HZ2 HC2 HR2
    by_cases hb : (ok && isT l (i + 1) 5 [40]) = true
    · rw [hb]
      obtain ⟨f, hfb, rfl, rfl, rfl, rfl, hw⟩ : ∃ f : Int × Int × Nat, (1 ≤ f.2.2 ∧ f.2.2 ≤ 3) ∧ ok = true ∧ k1 = f.1 ∧ k2 = f.2.1 ∧ k3 = (f.2.2 : Nat) ∧ wordR nmOk l sub s i = callP l sub f (i + 1) := by
        rcases HWAY.out with ⟨h1, _⟩ | ⟨f, h0, h1, h2, h3, h4, h5⟩
        · rw [h1] at hb; cases hb
        · rw [h1] at hb; exact ⟨f, h0, h1, h2, h3, h4, by rw [h5, if_pos (by simpa using hb)]⟩
      have HW := Asd.mk hw
      have HFB := Asd.mk hfb
      have HIT : Asd (isT l (i + 1) 5 [40] = true) := Asd.mk (by simpa using hb)
      have HLT := Asd.mk (isT_lt HIT.out)
      clear hb hw hfb HWAY
      have r1 := (blk_cell HR3.out.blk 1).trans rfl
      have z1 := blk_frozen HR3.out.blk 1
      have hs := HR3.out.set (j := i + 1) (by have := HLT.out; omega)
      have HRS := Asd.mk hs.2
      have HFS := Asd.mk (frR_below HB3.out hs.1)
      have HZS := Asd.mk (blk_fr HZ3.out hs.1 (by show ¬ w.heap.size = R; have := HRW.out; omega))
      have HCS := blk_fr HC3.out hs.1 (by show ¬ b6 = R; have := HRW.out; have := HSW.out; omega)
      have q0 : (wc.setCell ⟨R, 1, none⟩ (.int .i64 ((i : Int) + 1))).cell? ⟨b6, 0, none⟩ = some (.int .i64 f.1) := (blk_cell HCS 0).trans rfl
      have q1 : (wc.setCell ⟨R, 1, none⟩ (.int .i64 ((i : Int) + 1))).cell? ⟨b6, 1, none⟩ = some (.int .i64 f.2.1) := (blk_cell HCS 1).trans rfl
      have q2 : (wc.setCell ⟨R, 1, none⟩ (.int .i64 ((i : Int) + 1))).cell? ⟨b6, 2, none⟩ = some (.int .i64 (f.2.2 : Nat)) := (blk_cell HCS 2).trans rfl
      clear hs HCS
      go_wp2_with fail
      change Calls _ _ _ (wc.setCell ⟨R, 1, none⟩ (.int .i64 ((i + 1 : Nat) : Int))) _
      clear q0 q1 q2 r1 z1
      generalize wc.setCell ⟨R, 1, none⟩ (.int .i64 ((i + 1 : Nat) : Int)) = w3 at HRS HFS HZS ⊢
      refine (HCA.out w3 (i + 1) f HFB.out HIT.out HRS.out).mono ?_
      rintro e w4 ⟨hf4, hm⟩
      have HF4 := Asd.mk (frR_trans HFS.out hf4)
      have HZ4 := Asd.mk (blk_fr HZS.out hf4 (by show ¬ w.heap.size = R; have := HRW.out; omega))
      have HS3 : Asd (w.heap.size < w3.heap.size) := Asd.mk (blk_lt HZS.out)
      clear hf4
      cases hfi : callP l sub f (i + 1) with
      | error er =>
        rw [hfi] at hm
        have HE : Asd (wordR nmOk l sub s i = .error er) := Asd.mk (by rw [HW.out, hfi])
        obtain ⟨N, rfl, hN⟩ := hm
        clear hfi
        go_wp2
        refine ⟨rfl, ?_⟩
        rw [HE.out]
        exact got_error HF4.out ⟨N, rfl, hN⟩
      | ok y =>
        obtain ⟨x, j⟩ := y
        rw [hfi] at hm
        have HE : Asd (wordR nmOk l sub s i = .ok (x, j)) := Asd.mk (by rw [HW.out, hfi])
        obtain ⟨sv, rfl, hh, hr⟩ := hm
        obtain ⟨As, ms, cs, rfl⟩ := held_slice hh
        have HHX := Asd.mk hh
        have HRX := Asd.mk hr
        clear hfi hh hr
        unfold exV
        have y0 := (blk_cell HZ4.out 0).trans rfl
        have y1 := (blk_cell HZ4.out 1).trans rfl
        have y2 := (blk_cell HZ4.out 2).trans rfl
        have y3 := (blk_cell HZ4.out 3).trans rfl
        have y4 := (blk_cell HZ4.out 4).trans rfl
        have y5 := (blk_cell HZ4.out 5).trans rfl
        have y6 := (blk_cell HZ4.out 6).trans rfl
        have y7 := (blk_cell HZ4.out 7).trans rfl
        have y8 := (blk_cell HZ4.out 8).trans rfl
        have y9 := (blk_cell HZ4.out 9).trans rfl
        have z0 := blk_frozen HZ4.out 0
        have z1 := blk_frozen HZ4.out 1
        have z2 := blk_frozen HZ4.out 2
        have z3 := blk_frozen HZ4.out 3
        have z4 := blk_frozen HZ4.out 4
        have z5 := blk_frozen HZ4.out 5
        have z6 := blk_frozen HZ4.out 6
        have z7 := blk_frozen HZ4.out 7
        have z8 := blk_frozen HZ4.out 8
        have z9 := blk_frozen HZ4.out 9
        go_wp2
        refine bodyPost_ret (results_cell_row rfl _ _ w.heap.size 26 _ (0, 0) _ rfl (put10_blk HZ4.out _ _ _ _ _ _ _ _ _ _) Tryz.underlying26 rfl (by kernel_rfl)) rfl ?_
        rw [HE.out]
        exact fin_got HH.out HF4.out (Nat.le_refl _) HRX.out (held_mono HHX.out fun g _ hg => by have h1 : w3.heap.size ≤ g := hg; have := HS3.out; exact ⟨by omega, by omega⟩)
    · have hbf : (ok && isT l (i + 1) 5 [40]) = false := by simpa using hb
      rw [hbf]
      have HW : Asd (wordR nmOk l sub s i = colP nmOk l i) := Asd.mk (by
        rcases HWAY.out with ⟨_, h⟩ | ⟨f, h0, h1, h2, h3, h4, h5⟩
        · exact h
        · rw [h1] at hbf; rw [h5, if_neg (by have : isT l (i + 1) 5 [40] = false := by simpa using hbf
                                             rw [this]; decide)])
      clear hb hbf HWAY
      go_wp2_with fail
      refine (name_calls R A m c l i d wc HNE.out HR3.out).mono ?_
      rintro e w3 ⟨hf3, hm⟩
      have HF3 := Asd.mk (frR_below HB3.out hf3)
      have HZ4 := Asd.mk (blk_fr HZ3.out hf3 (by show ¬ w.heap.size = R; have := HRW.out; omega))
      clear hf3
      cases hn : nameT nmOk l i with
      | error er =>
        rw [hn] at hm
        have HE : Asd (wordR nmOk l sub s i = .error er) := Asd.mk (by rw [HW.out]; unfold colP; rw [hn])
        obtain ⟨N, rfl, hN⟩ := hm
        clear hn
        go_wp2
        refine ⟨rfl, ?_⟩
        rw [HE.out]
        exact got_error HF3.out ⟨N, rfl, hN⟩
      | ok y =>
        obtain ⟨n1, j⟩ := y
        rw [hn] at hm
        have HN := Asd.mk hn
        obtain ⟨rfl, hr3⟩ := hm
        have HBB := Asd.mk (below_alloc (Below.refl _ w3) (.cells #[.int .i64 2, .int .i64 0, .int .i64 0, .int .i64 0, .string ⟨#[]⟩, .string ⟨#[]⟩, .string ⟨n1.toArray⟩, .int .i64 0, .int .i64 0, .slice none 0 0] 26 (0, 0)))
        have HE0 := Asd.mk (blk_new w3 (.cells #[.int .i64 2, .int .i64 0, .int .i64 0, .int .i64 0, .string ⟨#[]⟩, .string ⟨#[]⟩, .string ⟨n1.toArray⟩, .int .i64 0, .int .i64 0, .slice none 0 0] 26 (0, 0)))
        have HZ5 := Asd.mk (blk_alloc HZ4.out (.cells #[.int .i64 2, .int .i64 0, .int .i64 0, .int .i64 0, .string ⟨#[]⟩, .string ⟨#[]⟩, .string ⟨n1.toArray⟩, .int .i64 0, .int .i64 0, .slice none 0 0] 26 (0, 0)))
        have HR5 := Asd.mk (RdW.below hr3 HBB.out)
        have HF5 := Asd.mk (below_frR HF3.out HBB.out)
        have HSE : Asd (w.heap.size < w3.heap.size) := Asd.mk (blk_lt HZ4.out)
        clear hn hr3
        go_wp2_with fail
        generalize w3.alloc (.cells #[.int .i64 2, .int .i64 0, .int .i64 0, .int .i64 0, .string ⟨#[]⟩, .string ⟨#[]⟩, .string ⟨n1.toArray⟩, .int .i64 0, .int .i64 0, .slice none 0 0] 26 (0, 0)) = w5 at HBB HE0 HZ5 HR5 HF5 ⊢
        generalize w3.heap.size = b8 at HE0 HSE ⊢
        refine (take_calls R A m c l j d 5 [46] w5 (by omega) HR5.out).mono ?_
        rintro e w6 ⟨rfl, hf6, hr6⟩
        have HF6 := Asd.mk (frR_trans HF5.out hf6)
        have HZ6 := Asd.mk (blk_fr HZ5.out hf6 (by show ¬ w.heap.size = R; have := HRW.out; omega))
        have HE6 := Asd.mk (blk_fr HE0.out hf6 (by show ¬ b8 = R; have := HRW.out; have := HSE.out; omega))
        have HRT := Asd.mk hr6
        clear hf6 hr6
        cases hT : isT l j 5 [46] with
        | false =>
          have HR6 : Asd (RdW w6 R A m c l j d) := Asd.mk (by have := HRT.out; unfold tookT at this; rw [hT] at this; exact this)
          have HE : Asd (wordR nmOk l sub s i = .ok (colE [] n1, j)) := Asd.mk (by rw [HW.out]; unfold colP; rw [HN.out]; simp only; rw [if_neg (by rw [hT]; decide)])
          clear hT
          have x0 := (blk_cell HE6.out 0).trans rfl
          have x1 := (blk_cell HE6.out 1).trans rfl
          have x2 := (blk_cell HE6.out 2).trans rfl
          have x3 := (blk_cell HE6.out 3).trans rfl
          have x4 := (blk_cell HE6.out 4).trans rfl
          have x5 := (blk_cell HE6.out 5).trans rfl
          have x6 := (blk_cell HE6.out 6).trans rfl
          have x7 := (blk_cell HE6.out 7).trans rfl
          have x8 := (blk_cell HE6.out 8).trans rfl
          have x9 := (blk_cell HE6.out 9).trans rfl
          have y0 := (blk_cell HZ6.out 0).trans rfl
          have y1 := (blk_cell HZ6.out 1).trans rfl
          have y2 := (blk_cell HZ6.out 2).trans rfl
          have y3 := (blk_cell HZ6.out 3).trans rfl
          have y4 := (blk_cell HZ6.out 4).trans rfl
          have y5 := (blk_cell HZ6.out 5).trans rfl
          have y6 := (blk_cell HZ6.out 6).trans rfl
          have y7 := (blk_cell HZ6.out 7).trans rfl
          have y8 := (blk_cell HZ6.out 8).trans rfl
          have y9 := (blk_cell HZ6.out 9).trans rfl
          have z0 := blk_frozen HZ6.out 0
          have z1 := blk_frozen HZ6.out 1
          have z2 := blk_frozen HZ6.out 2
          have z3 := blk_frozen HZ6.out 3
          have z4 := blk_frozen HZ6.out 4
          have z5 := blk_frozen HZ6.out 5
          have z6 := blk_frozen HZ6.out 6
          have z7 := blk_frozen HZ6.out 7
          have z8 := blk_frozen HZ6.out 8
          have z9 := blk_frozen HZ6.out 9
          go_wp2
          refine bodyPost_ret (results_cell_row rfl _ _ w.heap.size 26 _ (0, 0) _ rfl (put10_blk HZ6.out _ _ _ _ _ _ _ _ _ _) Tryz.underlying26 rfl (by kernel_rfl)) rfl ?_
          rw [HE.out]
          exact fin_got (x := colE [] n1) HH.out HF6.out (Nat.le_refl _) HR6.out (.nil _ _)
        | true =>
          have HR6 : Asd (RdW w6 R A m c l (j + 1) d) := Asd.mk (by have := HRT.out; unfold tookT at this; rw [hT] at this; exact this)
          have HT := Asd.mk hT
          clear hT
          have HRD : Asd (RdW w6.drew R A m c l (j + 1) d) := Asd.mk (HR6.out.below (below_drewN' w6 1))
          have HFD : Asd (Fr (fun k => k = R) w w6.drew) := Asd.mk HF6.out.drew
          have HED : Asd (w6.drew.heap[b8]? = some (.cells #[.int .i64 2, .int .i64 0, .int .i64 0, .int .i64 0, .string ⟨#[]⟩, .string ⟨#[]⟩, .string ⟨n1.toArray⟩, .int .i64 0, .int .i64 0, .slice none 0 0] 26 (0, 0))) := Asd.mk HE6.out
          have HZD : Asd (w6.drew.heap[w.heap.size]? = some (.cells #[.int .i64 0, .int .i64 0, .int .i64 0, .int .i64 0, .string ⟨#[]⟩, .string ⟨#[]⟩, .string ⟨#[]⟩, .int .i64 0, .int .i64 0, .slice none 0 0] 26 (0, 0))) := Asd.mk HZ6.out
          go_upto_region 18 with fail
          refine wp_region_held_drew (S := fun _ => True) (by kernel_rfl) trivial (fun hHeld => ?_)
          have xn : w6.drew.cell? ⟨b8, 6, none⟩ = some (.string ⟨n1.toArray⟩) := (blk_cell HED.out 6).trans rfl
          generalize w6.drew = wd at HRD HFD HED HZD xn ⊢
          refine wpAnyH_take (i := 0) (oi := ({ dst := some 101, op := Op.fieldAddr 26 (Operand.tmp 8) 4, type := 0, pos := "expr.go:246", after := #[], guard := none } : Oper)) (v := ?vs0) rfl (by kernel_rfl) (by kernel_rfl) (by kernel_rfl) (fun _ _ _ h => h) (Or.inl ⟨by rfl, ?hs0⟩) (by assumption) ?rs0
          case hs0 => (intro w hSw; (try dsimp only at hSw); go_simp; try (with_reducible rfl))
          try simp only [Act.put, List.setIfInBounds_toArray, List.set_cons_zero, List.set_cons_succ]
          refine wpAnyH_take (i := 2) (oi := ({ dst := some 103, op := Op.move (Operand.tmp 0), type := 91, pos := "expr.go:246", after := #[], guard := none } : Oper)) (v := ?vs2) rfl (by kernel_rfl) (by kernel_rfl) (by kernel_rfl) (fun _ _ _ h => h) (Or.inl ⟨by rfl, ?hs2⟩) (by assumption) ?rs2
          case hs2 => (intro w hSw; (try dsimp only at hSw); go_simp; try (with_reducible rfl))
          try simp only [Act.put, List.setIfInBounds_toArray, List.set_cons_zero, List.set_cons_succ]
          refine wpAnyH_ready (rs := [1, 3]) (by kernel_rfl) (by simp) ?_
          refine AllReadyH.cons (o := ({ dst := some 102, op := Op.load 9 (Operand.tmp 101), type := 9, pos := "expr.go:246", after := #[{ on := 0, ground := Ground.data }], guard := none } : Oper)) rfl ?aq (AllReadyH.cons (o := ({ dst := some 104, op := Op.call { callee := Callee.value (Operand.func 138), args := #[Operand.tmp 103], argTypes := #[91] }, type := 9, pos := "expr.go:246", after := #[{ on := 2, ground := Ground.data }], guard := none } : Oper)) rfl ?bq AllReadyH.nil)
          case aq =>
            intro K hK
            go_simp
            go_wp2_with fail
            refine hK.out _ _ (trivial) (fun hHeld => ?_)
            clear hK K
            try simp only [Act.put, List.setIfInBounds_toArray, List.set_cons_zero, List.set_cons_succ]
            refine wpAnyH_take (i := 4) (oi := ({ dst := some 105, op := Op.fieldAddr 26 (Operand.tmp 8) 3, type := 0, pos := "expr.go:246", after := #[{ on := 0, ground := Ground.phase }, { on := 1, ground := Ground.phase }, { on := 2, ground := Ground.textOnly Departure.lateStores }, { on := 3, ground := Ground.textOnly Departure.lateStoresUnsure }], guard := none } : Oper)) (v := ?vta4) rfl (by kernel_rfl) (by kernel_rfl) (by kernel_rfl) (fun _ _ _ h => h) (Or.inl ⟨by rfl, ?hta4⟩) (by assumption) ?rta4
            case hta4 => (intro w hSw; (try dsimp only at hSw); go_simp; try (with_reducible rfl))
            try simp only [Act.put, List.setIfInBounds_toArray, List.set_cons_zero, List.set_cons_succ]
            refine wpAnyH_ready (rs := [3]) (by kernel_rfl) (by simp) ?_
            refine AllReadyH.cons (o := ({ dst := some 104, op := Op.call { callee := Callee.value (Operand.func 138), args := #[Operand.tmp 103], argTypes := #[91] }, type := 9, pos := "expr.go:246", after := #[{ on := 2, ground := Ground.data }], guard := none } : Oper)) rfl (fun K hK => ?_) AllReadyH.nil
            go_simp
            refine (name_calls R A m c l (j + 1) d wd HNE.out HRD.out).mono ?_
            rintro e w7 ⟨hf7, hm⟩
            have HF7 := Asd.mk (frR_trans HFD.out hf7)
            have HZ7 := Asd.mk (blk_fr HZD.out hf7 (by show ¬ w.heap.size = R; have := HRW.out; omega))
            have HE7 := Asd.mk (blk_fr HED.out hf7 (by show ¬ b8 = R; have := HRW.out; have := HSE.out; omega))
            clear hf7
            cases hn : nameT nmOk l (j + 1) with
            | error er =>
              rw [hn] at hm
              have HE : Asd (wordR nmOk l sub s i = .error er) := Asd.mk (by rw [HW.out]; unfold colP; rw [HN.out]; simp only; rw [if_pos HT.out, hn])
              obtain ⟨N, rfl, hN⟩ := hm
              refine ⟨rfl, ?_⟩
              rw [HE.out]
              exact got_error HF7.out ⟨N, rfl, hN⟩
            | ok y =>
            obtain ⟨n2, q⟩ := y
            rw [hn] at hm
            have HE : Asd (wordR nmOk l sub s i = .ok (colE n1 n2, q)) := Asd.mk (by rw [HW.out]; unfold colP; rw [HN.out]; simp only; rw [if_pos HT.out, hn])
            obtain ⟨rfl, hr7⟩ := hm
            have HR7 := Asd.mk hr7
            clear hn hr7
            have xn7 := (blk_cell HE7.out 6).trans rfl
            go_wp2_with fail
            refine hK.out _ _ (trivial) (fun hHeld => ?_)
            clear hK K
            try simp only [Act.put, List.setIfInBounds_toArray, List.set_cons_zero, List.set_cons_succ]
            have z5 := blk_frozen HE7.out 5
            have y5 := (blk_cell HE7.out 5).trans rfl
            refine wpAnyH_ready (rs := [5]) (by kernel_rfl) (by simp) ?_
            refine AllReadyH.cons (o := ({ dst := none, op := Op.store 9 (Operand.tmp 105) (Operand.tmp 102), type := 0, pos := "expr.go:246", after := #[{ on := 4, ground := Ground.data }, { on := 1, ground := Ground.data }, { on := 3, ground := Ground.chain }, { on := 0, ground := Ground.phase }, { on := 1, ground := Ground.phase }, { on := 2, ground := Ground.textOnly Departure.lateStores }, { on := 3, ground := Ground.textOnly Departure.lateStoresUnsure }], guard := none } : Oper)) rfl (fun K hK => ?_) AllReadyH.nil
            go_simp
            go_wp2_with fail
            refine hK.out _ _ (trivial) (fun hHeld => ?_)
            clear hK K
            try simp only [Act.put, List.setIfInBounds_toArray, List.set_cons_zero, List.set_cons_succ]
            refine wpAnyH_take (i := 6) (oi := ({ dst := some 106, op := Op.fieldAddr 26 (Operand.tmp 8) 4, type := 0, pos := "expr.go:246", after := #[{ on := 0, ground := Ground.phase }, { on := 1, ground := Ground.phase }, { on := 2, ground := Ground.phase }, { on := 3, ground := Ground.phase }, { on := 4, ground := Ground.phase }, { on := 5, ground := Ground.phase }], guard := none } : Oper)) (v := ?vta6) rfl (by kernel_rfl) (by kernel_rfl) (by kernel_rfl) (fun _ _ _ h => h) (Or.inl ⟨by rfl, ?hta6⟩) (by assumption) ?rta6
            case hta6 => (intro w hSw; (try dsimp only at hSw); go_simp; try (with_reducible rfl))
            try simp only [Act.put, List.setIfInBounds_toArray, List.set_cons_zero, List.set_cons_succ]
            have hst5 := Fr.setCell (S := fun k => k = b8) (Fr.refl _ w7) (p := ⟨b8, 5, none⟩) rfl (.string ⟨n1.toArray⟩)
            have HE8 : Asd ((w7.setCell ⟨b8, 5, none⟩ (.string ⟨n1.toArray⟩)).heap[b8]? = some (.cells #[.int .i64 2, .int .i64 0, .int .i64 0, .int .i64 0, .string ⟨#[]⟩, .string ⟨n1.toArray⟩, .string ⟨n1.toArray⟩, .int .i64 0, .int .i64 0, .slice none 0 0] 26 (0, 0))) := Asd.mk ((blk_set HE7.out 5 _).trans rfl)
            have z6 := blk_frozen HE8.out 6
            have y6 := (blk_cell HE8.out 6).trans rfl
            refine wpAnyH_ready (rs := [7]) (by kernel_rfl) (by simp) ?_
            refine AllReadyH.cons (o := ({ dst := none, op := Op.store 9 (Operand.tmp 106) (Operand.tmp 104), type := 0, pos := "expr.go:246", after := #[{ on := 6, ground := Ground.data }, { on := 3, ground := Ground.data }, { on := 5, ground := Ground.chain }, { on := 0, ground := Ground.phase }, { on := 1, ground := Ground.phase }, { on := 2, ground := Ground.phase }, { on := 3, ground := Ground.phase }, { on := 4, ground := Ground.phase }, { on := 5, ground := Ground.phase }], guard := none } : Oper)) rfl (fun K hK => ?_) AllReadyH.nil
            go_simp
            go_wp2_with fail
            refine hK.out _ _ (trivial) (fun hHeld => ?_)
            clear hK K
            try simp only [Act.put, List.setIfInBounds_toArray, List.set_cons_zero, List.set_cons_succ]
            have hst6 := Fr.setCell (S := fun k => k = b8) (Fr.refl _ (w7.setCell ⟨b8, 5, none⟩ (.string ⟨n1.toArray⟩))) (p := ⟨b8, 6, none⟩) rfl (.string ⟨n2.toArray⟩)
            have hst := hst5.trans hst6 (U := fun k => k = b8) (fun _ h _ => h) (fun _ h _ => h)
            have HE9 : Asd (((w7.setCell ⟨b8, 5, none⟩ (.string ⟨n1.toArray⟩)).setCell ⟨b8, 6, none⟩ (.string ⟨n2.toArray⟩)).heap[b8]? = some (.cells #[.int .i64 2, .int .i64 0, .int .i64 0, .int .i64 0, .string ⟨#[]⟩, .string ⟨n1.toArray⟩, .string ⟨n2.toArray⟩, .int .i64 0, .int .i64 0, .slice none 0 0] 26 (0, 0))) := Asd.mk ((blk_set HE8.out 6 _).trans rfl)
            have HF9 := Asd.mk (fr_new HF7.out hst (fun k hk => .inr (by have h1 : k = b8 := hk; have := HSE.out; omega)))
            have HZ9 := Asd.mk (blk_fr HZ7.out hst (by show ¬ w.heap.size = b8; have := HSE.out; omega))
            have HR9 := Asd.mk (HR7.out.var (x := colE [] n1) (y := colE n1 n2) hst (by have := HRW.out; have := HSE.out; omega) (by have := HRW.out; have := HSE.out; omega) HE7.out HE9.out)
            clear hst hst5 hst6
            refine wpAnyH_done (by kernel_rfl) ?_ _
            generalize (w7.setCell ⟨b8, 5, none⟩ (.string ⟨n1.toArray⟩)).setCell ⟨b8, 6, none⟩ (.string ⟨n2.toArray⟩) = w9 at HE9 HF9 HZ9 HR9 ⊢
            have x0 := (blk_cell HE9.out 0).trans rfl
            have x1 := (blk_cell HE9.out 1).trans rfl
            have x2 := (blk_cell HE9.out 2).trans rfl
            have x3 := (blk_cell HE9.out 3).trans rfl
            have x4 := (blk_cell HE9.out 4).trans rfl
            have x5 := (blk_cell HE9.out 5).trans rfl
            have x6 := (blk_cell HE9.out 6).trans rfl
            have x7 := (blk_cell HE9.out 7).trans rfl
            have x8 := (blk_cell HE9.out 8).trans rfl
            have x9 := (blk_cell HE9.out 9).trans rfl
            have y0 := (blk_cell HZ9.out 0).trans rfl
            have y1 := (blk_cell HZ9.out 1).trans rfl
            have y2 := (blk_cell HZ9.out 2).trans rfl
            have y3 := (blk_cell HZ9.out 3).trans rfl
            have y4 := (blk_cell HZ9.out 4).trans rfl
            have y5 := (blk_cell HZ9.out 5).trans rfl
            have y6 := (blk_cell HZ9.out 6).trans rfl
            have y7 := (blk_cell HZ9.out 7).trans rfl
            have y8 := (blk_cell HZ9.out 8).trans rfl
            have y9 := (blk_cell HZ9.out 9).trans rfl
            have z0 := blk_frozen HZ9.out 0
            have z1 := blk_frozen HZ9.out 1
            have z2 := blk_frozen HZ9.out 2
            have z3 := blk_frozen HZ9.out 3
            have z4 := blk_frozen HZ9.out 4
            have z5 := blk_frozen HZ9.out 5
            have z6 := blk_frozen HZ9.out 6
            have z7 := blk_frozen HZ9.out 7
            have z8 := blk_frozen HZ9.out 8
            have z9 := blk_frozen HZ9.out 9
            go_wp2
            refine bodyPost_ret (results_cell_row rfl _ _ w.heap.size 26 _ (0, 0) _ rfl (put10_blk HZ9.out _ _ _ _ _ _ _ _ _ _) Tryz.underlying26 rfl (by kernel_rfl)) rfl ?_
            rw [HE.out]
            exact fin_got (x := colE n1 n2) HH.out HF9.out (Nat.le_refl _) HR9.out (.nil _ _)
          case bq =>
            intro K hK
            go_simp
            refine (name_calls R A m c l (j + 1) d wd HNE.out HRD.out).mono ?_
            rintro e w7 ⟨hf7, hm⟩
            have HF7 := Asd.mk (frR_trans HFD.out hf7)
            have HZ7 := Asd.mk (blk_fr HZD.out hf7 (by show ¬ w.heap.size = R; have := HRW.out; omega))
            have HE7 := Asd.mk (blk_fr HED.out hf7 (by show ¬ b8 = R; have := HRW.out; have := HSE.out; omega))
            clear hf7
            cases hn : nameT nmOk l (j + 1) with
            | error er =>
              rw [hn] at hm
              have HE : Asd (wordR nmOk l sub s i = .error er) := Asd.mk (by rw [HW.out]; unfold colP; rw [HN.out]; simp only; rw [if_pos HT.out, hn])
              obtain ⟨N, rfl, hN⟩ := hm
              refine ⟨rfl, ?_⟩
              rw [HE.out]
              exact got_error HF7.out ⟨N, rfl, hN⟩
            | ok y =>
            obtain ⟨n2, q⟩ := y
            rw [hn] at hm
            have HE : Asd (wordR nmOk l sub s i = .ok (colE n1 n2, q)) := Asd.mk (by rw [HW.out]; unfold colP; rw [HN.out]; simp only; rw [if_pos HT.out, hn])
            obtain ⟨rfl, hr7⟩ := hm
            have HR7 := Asd.mk hr7
            clear hn hr7
            have xn7 := (blk_cell HE7.out 6).trans rfl
            go_wp2_with fail
            refine hK.out _ _ (trivial) (fun hHeld => ?_)
            clear hK K
            try simp only [Act.put, List.setIfInBounds_toArray, List.set_cons_zero, List.set_cons_succ]
            refine wpAnyH_ready (rs := [1]) (by kernel_rfl) (by simp) ?_
            refine AllReadyH.cons (o := ({ dst := some 102, op := Op.load 9 (Operand.tmp 101), type := 9, pos := "expr.go:246", after := #[{ on := 0, ground := Ground.data }], guard := none } : Oper)) rfl (fun K hK => ?_) AllReadyH.nil
            go_simp
            go_wp2_with fail
            refine hK.out _ _ (trivial) (fun hHeld => ?_)
            clear hK K
            try simp only [Act.put, List.setIfInBounds_toArray, List.set_cons_zero, List.set_cons_succ]
            refine wpAnyH_take (i := 4) (oi := ({ dst := some 105, op := Op.fieldAddr 26 (Operand.tmp 8) 3, type := 0, pos := "expr.go:246", after := #[{ on := 0, ground := Ground.phase }, { on := 1, ground := Ground.phase }, { on := 2, ground := Ground.textOnly Departure.lateStores }, { on := 3, ground := Ground.textOnly Departure.lateStoresUnsure }], guard := none } : Oper)) (v := ?vtb4) rfl (by kernel_rfl) (by kernel_rfl) (by kernel_rfl) (fun _ _ _ h => h) (Or.inl ⟨by rfl, ?htb4⟩) (by assumption) ?rtb4
            case htb4 => (intro w hSw; (try dsimp only at hSw); go_simp; try (with_reducible rfl))
            try simp only [Act.put, List.setIfInBounds_toArray, List.set_cons_zero, List.set_cons_succ]
            have z5 := blk_frozen HE7.out 5
            have y5 := (blk_cell HE7.out 5).trans rfl
            refine wpAnyH_ready (rs := [5]) (by kernel_rfl) (by simp) ?_
            refine AllReadyH.cons (o := ({ dst := none, op := Op.store 9 (Operand.tmp 105) (Operand.tmp 102), type := 0, pos := "expr.go:246", after := #[{ on := 4, ground := Ground.data }, { on := 1, ground := Ground.data }, { on := 3, ground := Ground.chain }, { on := 0, ground := Ground.phase }, { on := 1, ground := Ground.phase }, { on := 2, ground := Ground.textOnly Departure.lateStores }, { on := 3, ground := Ground.textOnly Departure.lateStoresUnsure }], guard := none } : Oper)) rfl (fun K hK => ?_) AllReadyH.nil
            go_simp
            go_wp2_with fail
            refine hK.out _ _ (trivial) (fun hHeld => ?_)
            clear hK K
            try simp only [Act.put, List.setIfInBounds_toArray, List.set_cons_zero, List.set_cons_succ]
            refine wpAnyH_take (i := 6) (oi := ({ dst := some 106, op := Op.fieldAddr 26 (Operand.tmp 8) 4, type := 0, pos := "expr.go:246", after := #[{ on := 0, ground := Ground.phase }, { on := 1, ground := Ground.phase }, { on := 2, ground := Ground.phase }, { on := 3, ground := Ground.phase }, { on := 4, ground := Ground.phase }, { on := 5, ground := Ground.phase }], guard := none } : Oper)) (v := ?vtb6) rfl (by kernel_rfl) (by kernel_rfl) (by kernel_rfl) (fun _ _ _ h => h) (Or.inl ⟨by rfl, ?htb6⟩) (by assumption) ?rtb6
            case htb6 => (intro w hSw; (try dsimp only at hSw); go_simp; try (with_reducible rfl))
            try simp only [Act.put, List.setIfInBounds_toArray, List.set_cons_zero, List.set_cons_succ]
            have hst5 := Fr.setCell (S := fun k => k = b8) (Fr.refl _ w7) (p := ⟨b8, 5, none⟩) rfl (.string ⟨n1.toArray⟩)
            have HE8 : Asd ((w7.setCell ⟨b8, 5, none⟩ (.string ⟨n1.toArray⟩)).heap[b8]? = some (.cells #[.int .i64 2, .int .i64 0, .int .i64 0, .int .i64 0, .string ⟨#[]⟩, .string ⟨n1.toArray⟩, .string ⟨n1.toArray⟩, .int .i64 0, .int .i64 0, .slice none 0 0] 26 (0, 0))) := Asd.mk ((blk_set HE7.out 5 _).trans rfl)
            have z6 := blk_frozen HE8.out 6
            have y6 := (blk_cell HE8.out 6).trans rfl
            refine wpAnyH_ready (rs := [7]) (by kernel_rfl) (by simp) ?_
            refine AllReadyH.cons (o := ({ dst := none, op := Op.store 9 (Operand.tmp 106) (Operand.tmp 104), type := 0, pos := "expr.go:246", after := #[{ on := 6, ground := Ground.data }, { on := 3, ground := Ground.data }, { on := 5, ground := Ground.chain }, { on := 0, ground := Ground.phase }, { on := 1, ground := Ground.phase }, { on := 2, ground := Ground.phase }, { on := 3, ground := Ground.phase }, { on := 4, ground := Ground.phase }, { on := 5, ground := Ground.phase }], guard := none } : Oper)) rfl (fun K hK => ?_) AllReadyH.nil
            go_simp
            go_wp2_with fail
            refine hK.out _ _ (trivial) (fun hHeld => ?_)
            clear hK K
            try simp only [Act.put, List.setIfInBounds_toArray, List.set_cons_zero, List.set_cons_succ]
            have hst6 := Fr.setCell (S := fun k => k = b8) (Fr.refl _ (w7.setCell ⟨b8, 5, none⟩ (.string ⟨n1.toArray⟩))) (p := ⟨b8, 6, none⟩) rfl (.string ⟨n2.toArray⟩)
            have hst := hst5.trans hst6 (U := fun k => k = b8) (fun _ h _ => h) (fun _ h _ => h)
            have HE9 : Asd (((w7.setCell ⟨b8, 5, none⟩ (.string ⟨n1.toArray⟩)).setCell ⟨b8, 6, none⟩ (.string ⟨n2.toArray⟩)).heap[b8]? = some (.cells #[.int .i64 2, .int .i64 0, .int .i64 0, .int .i64 0, .string ⟨#[]⟩, .string ⟨n1.toArray⟩, .string ⟨n2.toArray⟩, .int .i64 0, .int .i64 0, .slice none 0 0] 26 (0, 0))) := Asd.mk ((blk_set HE8.out 6 _).trans rfl)
            have HF9 := Asd.mk (fr_new HF7.out hst (fun k hk => .inr (by have h1 : k = b8 := hk; have := HSE.out; omega)))
            have HZ9 := Asd.mk (blk_fr HZ7.out hst (by show ¬ w.heap.size = b8; have := HSE.out; omega))
            have HR9 := Asd.mk (HR7.out.var (x := colE [] n1) (y := colE n1 n2) hst (by have := HRW.out; have := HSE.out; omega) (by have := HRW.out; have := HSE.out; omega) HE7.out HE9.out)
            clear hst hst5 hst6
            refine wpAnyH_done (by kernel_rfl) ?_ _
            generalize (w7.setCell ⟨b8, 5, none⟩ (.string ⟨n1.toArray⟩)).setCell ⟨b8, 6, none⟩ (.string ⟨n2.toArray⟩) = w9 at HE9 HF9 HZ9 HR9 ⊢
            have x0 := (blk_cell HE9.out 0).trans rfl
            have x1 := (blk_cell HE9.out 1).trans rfl
            have x2 := (blk_cell HE9.out 2).trans rfl
            have x3 := (blk_cell HE9.out 3).trans rfl
            have x4 := (blk_cell HE9.out 4).trans rfl
            have x5 := (blk_cell HE9.out 5).trans rfl
            have x6 := (blk_cell HE9.out 6).trans rfl
            have x7 := (blk_cell HE9.out 7).trans rfl
            have x8 := (blk_cell HE9.out 8).trans rfl
            have x9 := (blk_cell HE9.out 9).trans rfl
            have y0 := (blk_cell HZ9.out 0).trans rfl
            have y1 := (blk_cell HZ9.out 1).trans rfl
            have y2 := (blk_cell HZ9.out 2).trans rfl
            have y3 := (blk_cell HZ9.out 3).trans rfl
            have y4 := (blk_cell HZ9.out 4).trans rfl
            have y5 := (blk_cell HZ9.out 5).trans rfl
            have y6 := (blk_cell HZ9.out 6).trans rfl
            have y7 := (blk_cell HZ9.out 7).trans rfl
            have y8 := (blk_cell HZ9.out 8).trans rfl
            have y9 := (blk_cell HZ9.out 9).trans rfl
            have z0 := blk_frozen HZ9.out 0
            have z1 := blk_frozen HZ9.out 1
            have z2 := blk_frozen HZ9.out 2
            have z3 := blk_frozen HZ9.out 3
            have z4 := blk_frozen HZ9.out 4
            have z5 := blk_frozen HZ9.out 5
            have z6 := blk_frozen HZ9.out 6
            have z7 := blk_frozen HZ9.out 7
            have z8 := blk_frozen HZ9.out 8
            have z9 := blk_frozen HZ9.out 9
            go_wp2
            refine bodyPost_ret (results_cell_row rfl _ _ w.heap.size 26 _ (0, 0) _ rfl (put10_blk HZ9.out _ _ _ _ _ _ _ _ _ _) Tryz.underlying26 rfl (by kernel_rfl)) rfl ?_
            rw [HE.out]
            exact fin_got (x := colE n1 n2) HH.out HF9.out (Nat.le_refl _) HR9.out (.nil _ _)
/-- What a word reads. -/
theorem word_calls (R : Nat) (A : Option Addr) (m c : Nat) (l : Toks) (sub : Option PF) (i d : Nat) (s : List UInt8) (w : World) (hnear : Near l) (hi : i < l.length)
    (hcall : ∀ (w : World) (j : Nat) (f : Int × Int × Nat), 1 ≤ f.2.2 ∧ f.2.2 ≤ 3 → isT l j 5 [40] = true → RdW w R A m c l j d → Calls Tryz.prog 137 #[.pointer (some ⟨R, 0, none⟩), .agg #[.int .i64 f.1, .int .i64 f.2.1, .int .i64 (f.2.2 : Nat)]] w (Got R A m c l d w (callP l sub f j))) (h : RdW w R A m c l i d) :
    Calls Tryz.prog 120 #[.pointer (some ⟨R, 0, none⟩), .string ⟨s.toArray⟩] w (Got R A m c l d w (wordP nmOk l sub s i)) := by
  by_cases h1 : s = [110, 117, 108, 108]
  · subst h1; exact word_null R A m c l i d w hi h
  · by_cases h2 : s = [116, 114, 117, 101]
    · subst h2; exact word_true R A m c l i d w hi h
    · by_cases h3 : s = [102, 97, 108, 115, 101]
      · subst h3; exact word_false R A m c l i d w hi h
      · have e : wordP nmOk l sub s i = wordR nmOk l sub s i := by unfold wordP wordR; rw [if_neg h1, if_neg h2, if_neg h3]; rfl
        rw [e]
        exact word_rest R A m c l sub i d s w hnear hi h1 h2 h3 hcall h
end Go.Proofs.YtbeeaikilcnpgaaGreatDoor.Exp
