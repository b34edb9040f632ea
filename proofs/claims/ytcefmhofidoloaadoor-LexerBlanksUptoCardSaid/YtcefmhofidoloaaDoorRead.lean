/- How data that came in is read: one relation a type, built up over slices and structs; what is read is still read where nothing old has turned. Any program. -/
import Derived.Test.YtcefmhofidoloaaDoorBase
import Derived.Deep.Strs
import Derived.SizedLaws
set_option linter.unusedVariables false
namespace Go.Proofs.YtcefmhofidoloaaDoor.Rd
open Go.RowKit Go.Proofs.YtcefmhofidoloaaDoor.Base Go.Deep Go.ChangeShapes Go.WideShapes

/-- A reading of cells. -/
abbrev Rel (α : Type) := World → List Value → α → Prop

/-- Whatever reads as data of type t reads by r. -/
def Opens {α : Type} (P : Program) (t : TypeId) (r : Rel α) : Prop :=
  ∀ (H : Type) (enc : TypeId × Value → H) (W : World) (fuel : Nat) (cs : List Value) (d : DataW H) (p : List MemPlace),
    DataW.trod enc P W 0 (fun _ => true) true fuel t cs = some (d, p) → (∀ n ∈ d.weights P t, n ≤ reachBytes) → ∃ x, r W cs x

/-- The reading outlives what turns nothing old. -/
def Lasts {α : Type} (r : Rel α) : Prop := ∀ (W W' : World) (cs : List Value) (x : α), Below W.heap.size W W' → r W cs x → r W' cs x

def rInt (k : IntKind) : Rel Int := fun _ cs x => cs = [.int k x] ∧ (Lit.int k x).wf = true
def rBool : Rel Bool := fun _ cs x => cs = [.bool x]
def rStr : Rel ByteArray := fun _ cs s => cs = [.string s] ∧ s.size ≤ reachBytes

/-- The slice at A, n elements of sz cells each, reads as xs. -/
def IsSl {α : Type} (r : Rel α) (sz : Nat) (W : World) (A : Option Addr) (n : Nat) (xs : List α) : Prop :=
  xs.length = n ∧ (0 < n → ∃ b o, A = some ⟨b, o, none⟩ ∧ b < W.heap.size ∧ ∀ j (h : j < xs.length), ∃ es, es.length = sz ∧ (∀ i, i < sz → W.cell? ⟨b, o + (j * sz + i), none⟩ = es[i]?) ∧ r W es xs[j])
def rSl {α : Type} (r : Rel α) (sz bytes : Nat) : Rel (List α) := fun W cs xs =>
  ∃ A n c, cs = [.slice A n c] ∧ n * bytes ≤ reachBytes ∧ (A = none → c = 0) ∧ IsSl r sz W A n xs

theorem lasts_int (k : IntKind) : Lasts (rInt k) := fun _ _ _ _ _ h => h
theorem lasts_bool : Lasts rBool := fun _ _ _ _ _ h => h
theorem lasts_str : Lasts rStr := fun _ _ _ _ _ h => h
theorem IsSl.below {α : Type} {r : Rel α} (hr : Lasts r) {sz : Nat} {W W' : World} {A : Option Addr} {n : Nat} {xs : List α} (h : IsSl r sz W A n xs) (hb : Below W.heap.size W W') : IsSl r sz W' A n xs := by
  refine ⟨h.1, fun hn => ?_⟩
  obtain ⟨b, o, rfl, hlt, hc⟩ := h.2 hn
  refine ⟨b, o, rfl, Nat.lt_of_lt_of_le hlt hb.size, fun j hj => ?_⟩
  obtain ⟨es, h1, h2, h3⟩ := hc j hj
  exact ⟨es, h1, fun i hi => (hb.cell hlt).trans (h2 i hi), hr _ _ _ _ hb h3⟩
theorem lasts_sl {α : Type} {r : Rel α} (hr : Lasts r) (sz bytes : Nat) : Lasts (rSl r sz bytes) := fun W W' cs xs hb ⟨A, n, c, h1, h2, h3, h4⟩ => ⟨A, n, c, h1, h2, h3, h4.below hr hb⟩

section
variable {P : Program}
theorem opens_int {t : TypeId} {k : IntKind} (ht : P.underlying t = some (.int k)) : Opens P t (rInt k) := by
  intro H enc W fuel cs d p h _
  obtain ⟨n, rfl, _, hw⟩ := DataW.trod_int ht h
  exact ⟨n, rfl, hw⟩
theorem opens_bool {t : TypeId} (ht : P.underlying t = some .bool) : Opens P t rBool := by
  intro H enc W fuel cs d p h _
  obtain ⟨b, rfl, _⟩ := DataW.trod_bool ht h
  exact ⟨b, rfl⟩
theorem opens_str {t : TypeId} (ht : P.underlying t = some .string) : Opens P t rStr := by
  intro H enc W fuel cs d p h hw
  obtain ⟨s, rfl, hx, _⟩ := DataW.trod_string ht h
  obtain ⟨rfl, _⟩ := Prod.mk.inj hx
  refine ⟨s, rfl, ?_⟩
  have := hw s.data.toList.length (by simp [DataW.weights])
  simpa using this

theorem weightsAll_mem {H : Type} {e : TypeId} : ∀ {ds : List (DataW H)} {j : Nat} {d : DataW H}, ds[j]? = some d → ∀ n ∈ d.weights P e, n ∈ DataW.weightsAll P e ds
  | [], _, _, h, _, _ => by simp at h
  | d0 :: ds, 0, d, h, n, hn => by
    simp only [List.getElem?_cons_zero, Option.some.injEq] at h
    subst h
    simp only [DataW.weightsAll, List.mem_append]
    exact Or.inl hn
  | d0 :: ds, j + 1, d, h, n, hn => by
    simp only [List.getElem?_cons_succ] at h
    simp only [DataW.weightsAll, List.mem_append]
    exact Or.inr (weightsAll_mem h n hn)

theorem add_off (b o n : Nat) : ((⟨b, o, none⟩ : Addr).add n) = ⟨b, o + n, none⟩ := by unfold Addr.add; split <;> simp_all
theorem no_spot {W : World} {a : Addr} {v : Value} (h : W.cell? a = some v) : a.spot = none := by
  cases hs : a.spot with
  | none => rfl
  | some q =>
    simp only [World.cell?, hs] at h
    split at h
    · simp at h
    · cases h

theorem list_of {α : Type} (n : Nat) (p : Nat → α → Prop) (h : ∀ i, i < n → ∃ x, p i x) : ∃ xs : List α, xs.length = n ∧ ∀ j (hj : j < xs.length), p j xs[j] := by
  induction n with
  | zero => exact ⟨[], rfl, fun j hj => absurd hj (by simp)⟩
  | succ n ih =>
    obtain ⟨xs, h1, h2⟩ := ih (fun i hi => h i (by omega))
    obtain ⟨x, hx⟩ := h n (by omega)
    refine ⟨xs ++ [x], by simp [h1], fun j hj => ?_⟩
    by_cases hjn : j < xs.length
    · rw [List.getElem_append_left hjn]; exact h2 j hjn
    · have : j = xs.length := by simp at hj; omega
      subst this
      simp only [List.getElem_concat_length]
      rw [h1]; exact hx

theorem opens_sl {α : Type} {t e : TypeId} {r : Rel α} {sz bytes : Nat} (ht : P.underlying t = some (.slice e)) (hc : P.cellsOf e = sz) (hpos : 0 < sz) (hb : P.bytesOf e = bytes) (he : Opens P e r) : Opens P t (rSl r sz bytes) := by
  intro H enc W fuel cs d p h hw
  rcases open_slice ht h with ⟨rfl, _⟩ | ⟨a, len, cap, m, n, D, Pl, rfl, _, hl, hm, hmm, hx, hel⟩
  · exact ⟨[], none, 0, 0, rfl, by simp, fun _ => rfl, rfl, fun h => by omega⟩
  · obtain ⟨rfl, _⟩ := Prod.mk.inj hx
    simp only [if_true] at hmm
    have hw0 := hw ((len + (m - len)) * bytes) (by simp [DataW.weights, ht, hb])
    have hlen : len * bytes ≤ reachBytes := Nat.le_trans (Nat.mul_le_mul_right _ (Nat.le_add_right _ _)) hw0
    rw [hc] at hel
    obtain ⟨xs, hxl, hxs⟩ := list_of len (fun i (x : α) => ∃ cs', W.cells? 0 (a.add (i * sz)) sz = some cs' ∧ r W cs' x) (fun i hi => by
      obtain ⟨cs', h1, h2⟩ := hel i (by omega)
      obtain ⟨x, hx⟩ := he H enc W n cs' (D i) (Pl i) h2 (fun k hk => hw k (by
        simp only [DataW.weights, ht]
        exact List.mem_cons_of_mem _ (List.mem_append_left _ (weightsAll_mem (j := i) (d := D i) (by simp [hi]) k hk))))
      exact ⟨x, cs', h1, hx⟩)
    refine ⟨xs, some a, len, cap, rfl, hlen, by simp, hxl, fun hn => ?_⟩
    have h0 : ∃ v, W.cell? a = some v := by
      obtain ⟨cs', h1, _⟩ := hxs 0 (by omega)
      obtain ⟨_, hlen', hcell⟩ := World.cells?_some h1
      have := hcell 0 hpos
      simp only [Nat.zero_mul] at this
      obtain ⟨v, hv⟩ : ∃ v, cs'[0]? = some v := ⟨cs'[0], by simp [show 0 < cs'.length by omega]⟩
      refine ⟨v, ?_⟩
      rw [hv] at this
      simpa [Addr.add] using this
    obtain ⟨v0, hv0⟩ := h0
    obtain ⟨ab, ao, asp⟩ := a
    obtain rfl : asp = none := no_spot hv0
    refine ⟨ab, ao, rfl, World.block_lt_of_cell? W _ hv0, fun j hj => ?_⟩
    obtain ⟨cs', h1, h2⟩ := hxs j hj
    obtain ⟨_, hlen', hcell⟩ := World.cells?_some h1
    refine ⟨cs', hlen', fun i hi => ?_, h2⟩
    have := hcell i hi
    rw [add_off, add_off] at this
    rw [← this]
    simp [Nat.add_assoc]

/-! ### Structs of fields of one cell each -/
def rS2 {α β : Type} (r0 : Rel α) (r1 : Rel β) : Rel (α × β) := fun W cs x => ∃ c0 c1, cs = [c0, c1] ∧ r0 W [c0] x.1 ∧ r1 W [c1] x.2
def rS3 {α β γ : Type} (r0 : Rel α) (r1 : Rel β) (r2 : Rel γ) : Rel (α × β × γ) := fun W cs x => ∃ c0 c1 c2, cs = [c0, c1, c2] ∧ r0 W [c0] x.1 ∧ r1 W [c1] x.2.1 ∧ r2 W [c2] x.2.2
def rS4 {α β γ δ : Type} (r0 : Rel α) (r1 : Rel β) (r2 : Rel γ) (r3 : Rel δ) : Rel (α × β × γ × δ) := fun W cs x => ∃ c0 c1 c2 c3, cs = [c0, c1, c2, c3] ∧ r0 W [c0] x.1 ∧ r1 W [c1] x.2.1 ∧ r2 W [c2] x.2.2.1 ∧ r3 W [c3] x.2.2.2
theorem lasts_s2 {α β : Type} {r0 : Rel α} {r1 : Rel β} (h0 : Lasts r0) (h1 : Lasts r1) : Lasts (rS2 r0 r1) :=
  fun W W' cs x hb ⟨c0, c1, e, a0, a1⟩ => ⟨c0, c1, e, h0 _ _ _ _ hb a0, h1 _ _ _ _ hb a1⟩
theorem lasts_s3 {α β γ : Type} {r0 : Rel α} {r1 : Rel β} {r2 : Rel γ} (h0 : Lasts r0) (h1 : Lasts r1) (h2 : Lasts r2) : Lasts (rS3 r0 r1 r2) :=
  fun W W' cs x hb ⟨c0, c1, c2, e, a0, a1, a2⟩ => ⟨c0, c1, c2, e, h0 _ _ _ _ hb a0, h1 _ _ _ _ hb a1, h2 _ _ _ _ hb a2⟩
theorem lasts_s4 {α β γ δ : Type} {r0 : Rel α} {r1 : Rel β} {r2 : Rel γ} {r3 : Rel δ} (h0 : Lasts r0) (h1 : Lasts r1) (h2 : Lasts r2) (h3 : Lasts r3) : Lasts (rS4 r0 r1 r2 r3) :=
  fun W W' cs x hb ⟨c0, c1, c2, c3, e, a0, a1, a2, a3⟩ => ⟨c0, c1, c2, c3, e, h0 _ _ _ _ hb a0, h1 _ _ _ _ hb a1, h2 _ _ _ _ hb a2, h3 _ _ _ _ hb a3⟩

/-- A struct's field that is one cell. -/
def OneAt (P : Program) (f : Field) (i : Nat) : Prop := f.offset = i ∧ P.cellsOf f.type = 1

theorem opens_s2 {α β : Type} {t : TypeId} {f0 f1 : Field} {r0 : Rel α} {r1 : Rel β} (ht : P.underlying t = some (.struct #[f0, f1])) (hc : P.cellsOf t = 2) (a0 : OneAt P f0 0) (a1 : OneAt P f1 1)
    (h0 : Opens P f0.type r0) (h1 : Opens P f1.type r1) : Opens P t (rS2 r0 r1) := by
  intro H enc W fuel cs d p h hw
  obtain ⟨xs, n, _, hx, hl, hlen, hf⟩ := DataW.trod_struct ht h
  rw [hc] at hl
  match cs, hl, xs, hlen with
  | [c0, c1], _, [y0, y1], _ =>
    obtain ⟨rfl, _⟩ := Prod.mk.inj hx
    have e0 := hf 0 f0 rfl
    have e1 := hf 1 f1 rfl
    rw [a0.1, a0.2] at e0
    rw [a1.1, a1.2] at e1
    have w0 : ∀ k ∈ (y0.1).weights P f0.type, k ≤ reachBytes := fun k hk => hw k (by simp only [DataW.weights, ht]; exact DataW.weights_mem_each (j := 0) rfl rfl k hk)
    have w1 : ∀ k ∈ (y1.1).weights P f1.type, k ≤ reachBytes := fun k hk => hw k (by simp only [DataW.weights, ht]; exact DataW.weights_mem_each (j := 1) rfl rfl k hk)
    obtain ⟨x0, q0⟩ := h0 H enc W n [c0] y0.1 y0.2 (by simpa using e0) w0
    obtain ⟨x1, q1⟩ := h1 H enc W n [c1] y1.1 y1.2 (by simpa using e1) w1
    exact ⟨(x0, x1), c0, c1, rfl, q0, q1⟩

theorem opens_s3 {α β γ : Type} {t : TypeId} {f0 f1 f2 : Field} {r0 : Rel α} {r1 : Rel β} {r2 : Rel γ} (ht : P.underlying t = some (.struct #[f0, f1, f2])) (hc : P.cellsOf t = 3) (a0 : OneAt P f0 0) (a1 : OneAt P f1 1) (a2 : OneAt P f2 2)
    (h0 : Opens P f0.type r0) (h1 : Opens P f1.type r1) (h2 : Opens P f2.type r2) : Opens P t (rS3 r0 r1 r2) := by
  intro H enc W fuel cs d p h hw
  obtain ⟨xs, n, _, hx, hl, hlen, hf⟩ := DataW.trod_struct ht h
  rw [hc] at hl
  match cs, hl, xs, hlen with
  | [c0, c1, c2], _, [y0, y1, y2], _ =>
    obtain ⟨rfl, _⟩ := Prod.mk.inj hx
    have e0 := hf 0 f0 rfl
    have e1 := hf 1 f1 rfl
    have e2 := hf 2 f2 rfl
    rw [a0.1, a0.2] at e0
    rw [a1.1, a1.2] at e1
    rw [a2.1, a2.2] at e2
    have w0 : ∀ k ∈ (y0.1).weights P f0.type, k ≤ reachBytes := fun k hk => hw k (by simp only [DataW.weights, ht]; exact DataW.weights_mem_each (j := 0) rfl rfl k hk)
    have w1 : ∀ k ∈ (y1.1).weights P f1.type, k ≤ reachBytes := fun k hk => hw k (by simp only [DataW.weights, ht]; exact DataW.weights_mem_each (j := 1) rfl rfl k hk)
    have w2 : ∀ k ∈ (y2.1).weights P f2.type, k ≤ reachBytes := fun k hk => hw k (by simp only [DataW.weights, ht]; exact DataW.weights_mem_each (j := 2) rfl rfl k hk)
    obtain ⟨x0, q0⟩ := h0 H enc W n [c0] y0.1 y0.2 (by simpa using e0) w0
    obtain ⟨x1, q1⟩ := h1 H enc W n [c1] y1.1 y1.2 (by simpa using e1) w1
    obtain ⟨x2, q2⟩ := h2 H enc W n [c2] y2.1 y2.2 (by simpa using e2) w2
    exact ⟨(x0, x1, x2), c0, c1, c2, rfl, q0, q1, q2⟩

theorem opens_s4 {α β γ δ : Type} {t : TypeId} {f0 f1 f2 f3 : Field} {r0 : Rel α} {r1 : Rel β} {r2 : Rel γ} {r3 : Rel δ} (ht : P.underlying t = some (.struct #[f0, f1, f2, f3])) (hc : P.cellsOf t = 4) (a0 : OneAt P f0 0) (a1 : OneAt P f1 1) (a2 : OneAt P f2 2) (a3 : OneAt P f3 3)
    (h0 : Opens P f0.type r0) (h1 : Opens P f1.type r1) (h2 : Opens P f2.type r2) (h3 : Opens P f3.type r3) : Opens P t (rS4 r0 r1 r2 r3) := by
  intro H enc W fuel cs d p h hw
  obtain ⟨xs, n, _, hx, hl, hlen, hf⟩ := DataW.trod_struct ht h
  rw [hc] at hl
  match cs, hl, xs, hlen with
  | [c0, c1, c2, c3], _, [y0, y1, y2, y3], _ =>
    obtain ⟨rfl, _⟩ := Prod.mk.inj hx
    have e0 := hf 0 f0 rfl
    have e1 := hf 1 f1 rfl
    have e2 := hf 2 f2 rfl
    have e3 := hf 3 f3 rfl
    rw [a0.1, a0.2] at e0
    rw [a1.1, a1.2] at e1
    rw [a2.1, a2.2] at e2
    rw [a3.1, a3.2] at e3
    have w0 : ∀ k ∈ (y0.1).weights P f0.type, k ≤ reachBytes := fun k hk => hw k (by simp only [DataW.weights, ht]; exact DataW.weights_mem_each (j := 0) rfl rfl k hk)
    have w1 : ∀ k ∈ (y1.1).weights P f1.type, k ≤ reachBytes := fun k hk => hw k (by simp only [DataW.weights, ht]; exact DataW.weights_mem_each (j := 1) rfl rfl k hk)
    have w2 : ∀ k ∈ (y2.1).weights P f2.type, k ≤ reachBytes := fun k hk => hw k (by simp only [DataW.weights, ht]; exact DataW.weights_mem_each (j := 2) rfl rfl k hk)
    have w3 : ∀ k ∈ (y3.1).weights P f3.type, k ≤ reachBytes := fun k hk => hw k (by simp only [DataW.weights, ht]; exact DataW.weights_mem_each (j := 3) rfl rfl k hk)
    obtain ⟨x0, q0⟩ := h0 H enc W n [c0] y0.1 y0.2 (by simpa using e0) w0
    obtain ⟨x1, q1⟩ := h1 H enc W n [c1] y1.1 y1.2 (by simpa using e1) w1
    obtain ⟨x2, q2⟩ := h2 H enc W n [c2] y2.1 y2.2 (by simpa using e2) w2
    obtain ⟨x3, q3⟩ := h3 H enc W n [c3] y3.1 y3.2 (by simpa using e3) w3
    exact ⟨(x0, x1, x2, x3), c0, c1, c2, c3, rfl, q0, q1, q2, q3⟩
end
end Go.Proofs.YtcefmhofidoloaaDoor.Rd
