/- node.read's closures: number, key. -/
import Derived.Test.YtnohhmopiflboaaNode23
set_option linter.unusedVariables false
set_option linter.unusedSimpArgs false
namespace Go.Proofs.Ytnohhmopiflboaa.Nod
open Go.RowKit Go.Proofs.Ytnohhmopiflboaa.Base Go.Proofs.Ytnohhmopiflboaa.Byt Go.Proofs.Ytnohhmopiflboaa.Rd Go.Proofs.Ytnohhmopiflboaa.App

/-- A byte, and another one shifted behind it. -/
theorem bits_two (a b : Nat) (ha : a < 2 ^ 8) (hb : b < 2 ^ 8) : bits BinOp.or IntKind.i64 (IntKind.i64.wrap (a : Int)) (IntKind.i64.wrap (IntKind.i64.wrap (b : Int) * 256)) = (a : Int) + 256 * (b : Int) := by
  have h1 : IntKind.i64.wrap (a : Int) = (a : Int) := by rw [IntKind.wrap_i64]; omega
  have h2 : IntKind.i64.wrap (b : Int) = (b : Int) := by rw [IntKind.wrap_i64]; omega
  have h3 : IntKind.i64.wrap ((b : Int) * 256) = ((b * 256 : Nat) : Int) := by rw [IntKind.wrap_i64]; omega
  rw [h1, h2, h3]
  have h4 : a ||| (b * 256) = a + 256 * b := by
    have := Nat.shiftLeft_add_eq_or_of_lt (i := 8) (b := a) ha b
    rw [Nat.shiftLeft_eq] at this
    rw [Nat.or_comm, ← this]
    omega
  have e1 : (BitVec.ofInt 64 (a : Int)).toNat = a := by rw [BitVec.toNat_ofInt]; omega
  have e2 : (BitVec.ofInt 64 ((b * 256 : Nat) : Int)).toNat = b * 256 := by rw [BitVec.toNat_ofInt]; omega
  have e3 : (BitVec.ofInt 64 (a : Int) ||| BitVec.ofInt 64 ((b * 256 : Nat) : Int)).toNat = a + 256 * b := by rw [BitVec.toNat_or, e1, e2, h4]
  show IntKind.i64.wrap (((BitVec.ofInt 64 (a : Int) ||| BitVec.ofInt 64 ((b * 256 : Nat) : Int)).toNat : Nat) : Int) = _
  rw [e3, IntKind.wrap_i64]
  omega

/-- The variable 'take' holds the closure over the box at g. -/
def FuncAt (w : World) (ft g : Nat) : Prop := w.heap[ft]? = some (.cells #[.func (.func 77) #[] #[.pointer (some ⟨g, 0, none⟩)]] 44 (0, 0))
def num2 (ys : PB) : Int := ((ys.getD 0 0).toNat : Int) + 256 * ((ys.getD 1 0).toNat : Int)
def numP (r : PB) : Option (Int × PB) := (takeP 2 r).map fun p => (num2 p.1, p.2)
def keyP (r : PB) : Option (PB × PB) := (takeP 1 r).bind fun p => takeP (p.1.getD 0 0).toNat p.2

def Numbered (w : World) (g gb : Nat) (xs : PB) (e : Ending) (w' : World) : Prop := Fr (fun k => k = g) w w' ∧ match numP xs with
  | none => e = .panicked [{ v := bad, recovered := false }]
  | some (n, r) => e = .returned (.int .i64 n) ∧ Rest w' g gb r
def Keyed (w : World) (g gb : Nat) (xs : PB) (e : Ending) (w' : World) : Prop := Fr (fun k => k = g) w w' ∧ match keyP xs with
  | none => e = .panicked [{ v := bad, recovered := false }]
  | some (ys, r) => (∃ A' c', e = .returned (.slice A' ys.length c') ∧ OwnM w' w.heap.size A' ys.length c' ys) ∧ Rest w' g gb r

set_option maxRecDepth 100000 in
set_option maxHeartbeats 1600000 in
theorem number_calls (ft g gb : Nat) (xs : PB) (w : World) (hf : FuncAt w ft g) (h : Rest w g gb xs) :
    Calls Try.prog 78 #[.pointer (some ⟨ft, 0, none⟩)] w (Numbered w g gb xs) := by
  have p0 := (blk_cell hf 0).trans rfl
  have HR := Asd.mk h
  clear h hf
  go_enter Try.func78, Try.ntmps78
  go_wp2_with fail
  refine (take_calls g gb 2 xs w (by omega) HR.out).mono ?_
  rintro e w' ⟨hfr, hm⟩
  have HFR := Asd.mk hfr
  cases ht : takeP 2 xs with
  | none =>
    rw [ht] at hm
    subst hm
    have HN : Asd (numP xs = none) := Asd.mk (by simp [numP, ht])
    clear hfr ht
    refine ⟨rfl, HFR.out, ?_⟩
    rw [HN.out]
  | some p =>
    obtain ⟨ys, r⟩ := p
    rw [ht] at hm
    obtain ⟨⟨A', c', rfl, ho⟩, hr⟩ := hm
    have HN : Asd (numP xs = some (num2 ys, r)) := Asd.mk (by simp [numP, ht])
    have HR' := Asd.mk hr
    obtain ⟨b, cur, rfl, hbb, hh, hc0⟩ := own_cell ho 0 (by omega)
    obtain ⟨b', cur', e', _, hh', hc1⟩ := own_cell ho 1 (by omega)
    cases e'
    rw [hh] at hh'
    injection hh' with hh'
    injection hh' with hh'
    subst hh'
    have q0 := (blk_cell hh 0).trans hc0
    have q1 := (blk_cell hh 1).trans hc1
    have HYS : Asd (num2 ys = ((ys.getD 0 0).toNat : Int) + 256 * ((ys.getD 1 0).toNat : Int)) := Asd.mk rfl
    generalize hy0 : ys.getD 0 0 = y0 at q0 HYS
    generalize hy1 : ys.getD 1 0 = y1 at q1 HYS
    simp only [bcell] at q0 q1
    have b0 := y0.toNat_lt
    have b1 := y1.toNat_lt
    clear hfr ht ho hr hbb hh hc0 hc1 hy0 hy1 p0
    go_upto_region 2 with fail
    go_region_held3 (fun w' => w'.cell? ⟨b, 0, none⟩ = some (.int .u8 (y0.toNat : Int)) ∧ w'.cell? ⟨b, 1, none⟩ = some (.int .u8 (y1.toNat : Int)))
      (first
        | exact ⟨q0, q1⟩
        | fail)
      (fail)
    go_wp2
    go_ret
    refine ⟨HFR.out.drew, ?_⟩
    rw [HN.out]
    refine ⟨ret_eq ?_, ⟨HR'.out.out⟩⟩
    rw [HYS.out, ← bits_two _ _ b0 b1]
    rfl

theorem FuncAt.fr {w w' : World} {ft g : Nat} (h : FuncAt w ft g) (hf : Fr (fun k => k = g) w w') (hne : ft ≠ g) : FuncAt w' ft g := blk_fr h hf hne

end Go.Proofs.Ytnohhmopiflboaa.Nod
