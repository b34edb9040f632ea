/- What the rows of the lexer list: two sentinels and a type's handle. -/
import Derived.Test.YtcefmhofidoloaaGreatDoorLaid
import Derived.Test.YtcefmhofidoloaaGreatDoorSeen
import Derived.Stop.LaidErr
import Derived.LaidHandle
import Derived.LaidLaws
set_option linter.unusedVariables false
namespace Go.Proofs.YtcefmhofidoloaaGreatDoor.Laid
open Go.ChangeShapes Go.WideShapes Go.ChangeAt Go.RowKit

theorem star : "*" ++ "errors.errorString" = "*errors.errorString" := by decide
theorem rowErr (u : TypeId) (h : Tryz.prog.typeName? 3 u = some "*errors.errorString") : u = 284 :=
  typeName_ptr_named (nm := "errors.errorString") (by rw [star]; kernel_rfl) (by kernel_rfl) (by decide) u (by rw [star]; exact h)
theorem sent_of {l : List (String × DataW Unit)} {W : World} (h : laidMetH Tryz.prog l W) {n : String} {text : List UInt8} {g : Nat} (hl : l.filter (fun x => x.1 == n) = [(n, .iface "*errors.errorString" (.ptr (.agg [.lit (.string text)])))])
    (hg : Tryz.prog.globalNamed n = some g) (hty : (Tryz.prog.globals[g]?).map (·.type) = some 42) : ∃ t p, W.cell? ⟨g, 0, none⟩ = some (.iface t p) := by
  have h2 := h.filter (fun x => x.1 == n)
  rw [hl] at h2
  rw [MakeChecks.laidMetH_plain _ _ _ (by rfl)] at h2
  obtain ⟨a, s, hv, _⟩ := laid_sentinel h2 hg hty Tryz.underlying42 rowErr Tryz.underlying284 Tryz.underlying286 rfl rfl Tryz.underlying9 (by kernel_rfl) (by kernel_rfl)
  exact ⟨_, _, by simpa using World.var?_cell hg hv 0⟩
theorem rt : (Tryz.prog.cutTypes.find? (·.1 == "internal/reflectlite.rtype")).map (·.2) = some 211 := by kernel_rfl
theorem oneRow : ((List.range Tryz.prog.types.size).filter fun t => Tryz.prog.rowNamed t [101, 114, 114, 111, 114]) = [42] := by kernel_rfl
theorem ety_of {l : List (String × DataW Unit)} {W : World} (h : laidMetH Tryz.prog l W) (hl : ("errors.errorType", DataW.iface "internal/reflectlite.rtype" (.agg [.ptr (.lit (.string [101, 114, 114, 111, 114]))])) ∈ l) (het : Tryz.prog.globalNamed "errors.errorType" = some 0) : Lex.EtyW W := by
  have h' := (laidMetH_iff.1 h).2
  obtain ⟨name, u, ty, e1, e2, e3, e4, e5⟩ := h' _ (List.mem_filter.2 ⟨hl, by rfl⟩)
  have en : name = [101, 114, 114, 111, 114] := (Option.some.inj e1).symm
  subst en
  obtain rfl := Option.some.inj (rt.symm.trans e2)
  have hm : ty ∈ (List.range Tryz.prog.types.size).filter fun t => Tryz.prog.rowNamed t [101, 114, 114, 111, 114] := List.mem_filter.2 ⟨List.mem_range.2 e3, e4⟩
  rw [oneRow] at hm
  obtain rfl := List.mem_singleton.1 hm
  have hh : typeHandle Tryz.prog 42 = .pointer (some ⟨9, 42, none⟩) := by kernel_rfl
  rw [hh] at e5
  show W.cell? ⟨0, 0, none⟩ = _
  simpa using World.var?_cell het e5 0
theorem lexW_of {l : List (String × DataW Unit)} {W : World} (hs : W.ShapedOpen Tryz.prog) (h : laidMetH Tryz.prog l W) {t3 t4 : List UInt8}
    (h3 : l.filter (fun x => x.1 == "strconv.ErrSyntax") = [("strconv.ErrSyntax", .iface "*errors.errorString" (.ptr (.agg [.lit (.string t3)])))])
    (h4 : l.filter (fun x => x.1 == "strconv.ErrRange") = [("strconv.ErrRange", .iface "*errors.errorString" (.ptr (.agg [.lit (.string t4)])))]) : Lex.LexW W :=
  ⟨hs, sent_of h h3 (by kernel_rfl) (by kernel_rfl), sent_of h h4 (by kernel_rfl) (by kernel_rfl)⟩

/-- A world in which all that is listed lies. -/
noncomputable def errWorld (w : World) : World :=
  let N := w.heap.size
  { w with heap := ((((w.heap.modify 0 fun
      | .cells _ t fr => .cells #[.iface 211 (.agg #[.pointer (some ⟨9, 42, none⟩)])] t fr
      | o => o).modify 3 fun
      | .cells _ t fr => .cells #[.iface 284 (.pointer (some ⟨N, 0, none⟩))] t fr
      | o => o).modify 4 fun
      | .cells _ t fr => .cells #[.iface 284 (.pointer (some ⟨N + 1, 0, none⟩))] t fr
      | o => o).push (.cells #[.string ⟨#[105, 110, 118, 97, 108, 105, 100, 32, 115, 121, 110, 116, 97, 120]⟩] 286)).push (.cells #[.string ⟨#[118, 97, 108, 117, 101, 32, 111, 117, 116, 32, 111, 102, 32, 114, 97, 110, 103, 101]⟩] 286) }
end Go.Proofs.YtcefmhofidoloaaGreatDoor.Laid
