/- append of whatever slice, nil or not, onto a row of the call's own; what turns no block of a type. Any program. -/
import Derived.Test.YtcefmhofidoloaaGreatDoorBase
import Derived.Deep.AppendLies
import Derived.Laws.AppendOwn
import Derived.Laws.OwnMore
set_option linter.unusedVariables false
namespace Go.Proofs.YtcefmhofidoloaaGreatDoor.App
open Go.RowKit Go.Proofs.YtcefmhofidoloaaGreatDoor.Base

/-- A slice's type, its element's type, and what the latter is. -/
structure RowT (P : Program) (t e : TypeId) (size bytes : Nat) : Prop where
  ht : P.underlying t = some (.slice e)
  hi : ∃ i z, P.info? e = some i ∧ i.zero = some z ∧ i.size = size ∧ i.bytes = bytes ∧ z.cells.size = size
  pos : 0 < size

/-- What the slice at A, m long, gives to an append. -/
structure Feeds (w : World) (A : Option Addr) (m c size : Nat) (news : List Value) : Prop where
  len : news.length = m * size
  got : ∀ a, A = some a → ∀ j u, news[j]? = some u → w.cell? (a.add j) = some u
  zero : A = none → m = 0 ∧ c = 0
  one : ∀ u ∈ news, u.oneCell' = true

theorem Feeds.drew {w : World} {A : Option Addr} {m c size : Nat} {news : List Value} (h : Feeds w A m c size news) : Feeds w.drew A m c size news := ⟨h.len, h.got, h.zero, h.one⟩
theorem Feeds.of_block {w : World} {B : Nat} {cs : Array Value} {t : TypeId} {fr : Nat × Nat} (hb : w.heap[B]? = some (.cells cs t fr)) {m c size : Nat} (hl : cs.toList.length = m * size) (h1 : ∀ u ∈ cs.toList, u.oneCell' = true) : Feeds w (some ⟨B, 0, none⟩) m c size cs.toList :=
  ⟨hl, fun a ha => by cases ha; exact World.news_of_block hb, (fun h => by cases h), h1⟩
theorem Feeds.below {w w' : World} {A : Option Addr} {m c size : Nat} {news : List Value} (h : Feeds w A m c size news) (hb : Below w.heap.size w w') : Feeds w' A m c size news :=
  ⟨h.len, fun a ha j u hu => (hb.cell (by have h1 := World.block_lt_of_cell? w _ (h.got a ha j u hu); exact h1)).trans (h.got a ha j u hu), h.zero, h.one⟩

theorem own_form {w : World} {B : Nat} {e : TypeId} {s : Nat} {v : Value} {n : Nat} {xs : List Value} (h : w.ownsRow B e s v n xs) : ∃ A c, v = .slice A n c := by
  rcases h.2 with ⟨rfl, rfl⟩ | ⟨g, cap, cur, rfl, _⟩
  · exact ⟨_, _, rfl⟩
  · exact ⟨_, _, rfl⟩

theorem run_src {P : Program} (w : World) {t ty e : TypeId} {size bytes : Nat} (ht : RowT P t e size bytes) {base : Nat}
    {v : Value} {n : Nat} {xs : List Value} (hown : w.ownsRow base e size v n xs) {A : Option Addr} {m c : Nat} {news : List Value} (hs : Feeds w A m c size news)
    (h63 : n + m ≤ maxLen) (hbytes : (n + m) * bytes ≤ 140737488355328) (hbase : base ≤ w.heap.size) :
    ∃ A' c' w', (Builtin.append_ #[t, t] ty #[v, .slice A m c]).run P w = .ok (.slice A' (n + m) c') w' ∧ w'.ownsRow base e size (.slice A' (n + m) c') (n + m) (xs ++ news) ∧ w.grownBy w' v.ownBlock := by
  obtain ⟨i, z, hi, hz, hsz, hby, hzs⟩ := ht.hi
  cases A with
  | none =>
    obtain ⟨rfl, rfl⟩ := hs.zero rfl
    have hn : news = [] := List.length_eq_zero_iff.1 (by have := hs.len; omega)
    subst hn
    obtain ⟨A', c', rfl⟩ := own_form hown
    refine ⟨A', c', w, ?_, by simpa using hown, ⟨rfl, rfl, rfl, Nat.le_refl _, fun _ _ _ => rfl⟩⟩
    exact run_append_owned_none (P := P) (w := w) base t ty e i size ht.ht hi _ n xs hown
  | some a =>
    obtain ⟨v', w', hr, h2, h3, _⟩ := run_append_own (P := P) w base t ty e i z size bytes ht.ht hi hz hsz hby hzs ht.pos v n xs hown a m c news hs.len (hs.got a rfl) hs.one h63 hbytes hbase
    obtain ⟨A', c', rfl⟩ := own_form h2
    exact ⟨A', c', w', hr, h2, h3⟩

theorem wp_src {P : Program} {w : World} {o : Oper} {a : Act} {K : Act → World → Prop} {Q : Exit → Act → World → Prop} (s x : Operand) (t : TypeId)
    (ho : o.op = .call { callee := .builtin .append, args := #[s, x], argTypes := #[t, t] })
    {e : TypeId} {size bytes : Nat} (ht : RowT P t e size bytes) {base : Nat} (v : Value) {n : Nat} {xs : List Value} (hv : a.eval s = v) (hown : w.ownsRow base e size v n xs)
    (A : Option Addr) (m c : Nat) {news : List Value} (hx : a.eval x = .slice A m c) (hs : Feeds w A m c size news)
    (h63 : n + m ≤ maxLen) (hbytes : (n + m) * bytes ≤ 140737488355328) (hbase : base ≤ w.heap.size)
    (h : ∀ A' c' w', w'.ownsRow base e size (.slice A' (n + m) c') (n + m) (xs ++ news) → w.grownBy w' v.ownBlock → K (a.put o.dst (.slice A' (n + m) c')) w') : o.wp P a w K Q := by
  obtain ⟨A', c', w', hr, h2, h3⟩ := run_src (P := P) w (ty := o.type) ht hown hs h63 hbytes hbase
  unfold Oper.wp execOp
  simp only [ho, resolve, invoke, builtin, Sem.run_bind, Sem.run_pure, Result.andThen_ok, List.map_toArray, List.map_cons, List.map_nil, hv, hx, hr]
  exact h A' c' w' h2 h3

theorem wpList_src {P : Program} {w : World} {ops : Array Oper} {rest : List Oper} {o : Oper} {a : Act} {Q : Exit → Act → World → Prop} (hgd : o.guard = none) (s x : Operand) (t : TypeId)
    (ho : o.op = .call { callee := .builtin .append, args := #[s, x], argTypes := #[t, t] })
    {e : TypeId} {size bytes : Nat} (ht : RowT P t e size bytes) {base : Nat} (v : Value) {n : Nat} {xs : List Value} (hv : a.eval s = v) (hown : w.ownsRow base e size v n xs)
    (A : Option Addr) (m c : Nat) {news : List Value} (hx : a.eval x = .slice A m c) (hs : Feeds w A m c size news)
    (h63 : n + m ≤ maxLen) (hbytes : (n + m) * bytes ≤ 140737488355328) (hbase : base ≤ w.heap.size)
    (h : ∀ A' c' w', w'.ownsRow base e size (.slice A' (n + m) c') (n + m) (xs ++ news) → w.grownBy w' v.ownBlock → wpList P ops Q rest (a.put o.dst (.slice A' (n + m) c')) w') : wpList P ops Q (o :: rest) a w :=
  wpList_plain hgd fun _ hK => wp_src s x t ho ht v hv hown A m c hx hs h63 hbytes hbase fun A' c' w' h2 h3 => hK _ _ (h A' c' w' h2 h3)

theorem step_src {P : Program} {w : World} {ops : Array Oper} {o : Oper} {a : Act} {K : Act → World → Prop} {Q : Exit → Act → World → Prop} {E : Prop} (hgd : o.guard = none) (s x : Operand) (t : TypeId)
    (ho : o.op = .call { callee := .builtin .append, args := #[s, x], argTypes := #[t, t] })
    {e : TypeId} {size bytes : Nat} (ht : RowT P t e size bytes) {base : Nat} (v : Value) {n : Nat} {xs : List Value} (hv : a.eval s = v) (hown : w.ownsRow base e size v n xs)
    (A : Option Addr) (m c : Nat) {news : List Value} (hx : a.eval x = .slice A m c) (hs : Feeds w A m c size news)
    (h63 : n + m ≤ maxLen) (hbytes : (n + m) * bytes ≤ 140737488355328) (hbase : base ≤ w.heap.size)
    (h : ∀ A' c' w', w'.ownsRow base e size (.slice A' (n + m) c') (n + m) (xs ++ news) → w.grownBy w' v.ownBlock → K (a.put o.dst (.slice A' (n + m) c')) w') :
    if Region.wanted o (yielded ops a.tmps) = true then Oper.wp P o a w K Q else E := by
  have hw : Region.wanted o (yielded ops a.tmps) = true := by simp [Region.wanted, hgd]
  rw [if_pos hw]
  exact wp_src s x t ho ht v hv hown A m c hx hs h63 hbytes hbase h

/-- The same, onto an empty row that was just made. -/
theorem step_src0 {P : Program} {w : World} {ops : Array Oper} {o : Oper} {a : Act} {K : Act → World → Prop} {Q : Exit → Act → World → Prop} {E : Prop} (hgd : o.guard = none) (s x : Operand) (t : TypeId)
    (ho : o.op = .call { callee := .builtin .append, args := #[s, x], argTypes := #[t, t] })
    {e : TypeId} {size bytes : Nat} (ht : RowT P t e size bytes) (base : Nat) {b : Nat} (hv : a.eval s = .slice (some ⟨b, 0, none⟩) 0 0) (hown : w.ownsRow base e size (.slice (some ⟨b, 0, none⟩) 0 0) 0 [])
    (A : Option Addr) (m c : Nat) {news : List Value} (hx : a.eval x = .slice A m c) (hs : Feeds w A m c size news)
    (h63 : m ≤ maxLen) (hbytes : m * bytes ≤ 140737488355328) (hbase : base ≤ w.heap.size)
    (h : ∀ A' c' w', w'.ownsRow base e size (.slice A' m c') m news → w.grownBy w' (some b) → K (a.put o.dst (.slice A' m c')) w') :
    if Region.wanted o (yielded ops a.tmps) = true then Oper.wp P o a w K Q else E :=
  step_src hgd s x t ho ht _ hv hown A m c hx hs (by omega) (by simpa using hbytes) hbase (fun A' c' w' h1 h2 => by
    simp only [Nat.zero_add, List.nil_append] at h1 ⊢
    exact h A' c' w' h1 h2)
/-- No block of type e has turned. -/
def KeepT (e : TypeId) (w w' : World) : Prop := ∀ (g : Nat) (cs : Array Value) (fr : Nat × Nat), w.heap[g]? = some (Obj.cells cs e fr) → w'.heap[g]? = some (Obj.cells cs e fr)
theorem KeepT.refl (e : TypeId) (w : World) : KeepT e w w := fun _ _ _ h => h
theorem KeepT.trans {e : TypeId} {a b c : World} (h : KeepT e a b) (k : KeepT e b c) : KeepT e a c := fun g cs fr hg => k g cs fr (h g cs fr hg)
theorem KeepT.drew {e : TypeId} {a b : World} (h : KeepT e a b) : KeepT e a b.drew := h
theorem KeepT.drewN {e : TypeId} {a b : World} (h : KeepT e a b) (n : Nat) : KeepT e a (b.drewN n) := h
theorem KeepT.alloc {e : TypeId} {a b : World} (h : KeepT e a b) (o : Obj) : KeepT e a (b.alloc o) := fun g cs fr hg => blk_alloc (h g cs fr hg) o
theorem KeepT.below {e : TypeId} {a b c : World} (h : KeepT e a b) (hb : Below b.heap.size b c) : KeepT e a c := fun g cs fr hg => (hb.block g (blk_lt (h g cs fr hg))).trans (h g cs fr hg)
theorem KeepT.fr {e : TypeId} {a b c : World} (h : KeepT e a b) (hb : Fr (fun _ => False) b c) : KeepT e a c := fun g cs fr hg => (hb.block g (blk_lt (h g cs fr hg)) (fun h => h)).trans (h g cs fr hg)
theorem own_typ {W : World} {B : Nat} {e : TypeId} {s : Nat} {v : Value} {n : Nat} {xs : List Value} (h : W.ownsRow B e s v n xs) {g : Nat} {cs : Array Value} {t : TypeId} {fr : Nat × Nat} (hb : W.heap[g]? = some (.cells cs t fr)) (hne : e ≠ t) : some g ≠ v.ownBlock := by
  rcases h.2 with ⟨rfl, _⟩ | ⟨g', cap, cur, rfl, _, hh, _⟩
  · simp [Value.ownBlock]
  · intro hk
    simp [Value.ownBlock] at hk
    subst hk
    rw [hh] at hb
    injection hb with hb
    injection hb with _ ht
    exact hne ht
theorem KeepT.grown {e e' : TypeId} {a b c : World} (h : KeepT e a b) {B s : Nat} {v : Value} {n : Nat} {xs : List Value} (ho : b.ownsRow B e' s v n xs) (hg : b.grownBy c v.ownBlock) (hne : e' ≠ e) : KeepT e a c :=
  fun g cs fr hh => (hg.block g (blk_lt (h g cs fr hh)) (own_typ ho (h g cs fr hh) hne)).trans (h g cs fr hh)
theorem KeepT.setCell {e t : TypeId} {a b : World} (h : KeepT e a b) {p : Addr} {cs : Array Value} {fr : Nat × Nat} (hp : b.heap[p.block]? = some (.cells cs t fr)) (hne : t ≠ e) (u : Value) : KeepT e a (b.setCell p u) := fun g ds fs hg => by
  have h1 := h g ds fs hg
  refine blk_far h1 (fun he => ?_) u
  subst he
  rw [hp] at h1
  injection h1 with h1
  injection h1 with _ h2
  exact hne h2
theorem KeepT.own {e : TypeId} {w w' : World} (hk : KeepT e w w') {B s : Nat} {v : Value} {n : Nat} {xs : List Value} (h : w.ownsRow B e s v n xs) : w'.ownsRow B e s v n xs := by
  refine ⟨h.1, ?_⟩
  rcases h.2 with h0 | ⟨g, cap, cur, hv, hb, hh, rest⟩
  · exact .inl h0
  · exact .inr ⟨g, cap, cur, hv, hb, hk g cur (0, 0) hh, rest⟩

/-- What grows a row of the call's own turns nothing below the call. -/
theorem below_grown {W W' : World} {B : Nat} {e : TypeId} {s : Nat} {v : Value} {n : Nat} {xs : List Value} {w : World} (hb : Below B w W) (hg : W.grownBy W' v.ownBlock) (h : W.ownsRow B e s v n xs) (hB : B ≤ w.heap.size) : Below B w W' :=
  hb.trans ⟨hg.os, hg.tape, hg.output, hg.size, fun j hj => hg.block j (by have := hb.size; omega) (fun hk => by have := h.lt j hk.symm; omega)⟩
theorem blk_grown {W W' : World} {g : Nat} {cs : Array Value} {t : TypeId} {fr : Nat × Nat} (h : W.heap[g]? = some (.cells cs t fr)) {B : Nat} {e : TypeId} {s : Nat} {v : Value} {n : Nat} {xs : List Value} (ho : W.ownsRow B e s v n xs) (hg : W.grownBy W' v.ownBlock) (hne : e ≠ t) : W'.heap[g]? = some (.cells cs t fr) :=
  (hg.block g (blk_lt h) (own_typ ho h hne)).trans h
theorem below_alloc {a w : World} (h : Below a.heap.size a w) (o : Obj) : Below a.heap.size a (w.alloc o) := h.alloc h.size o
theorem below_step {a b c : World} (h : Below a.heap.size a b) (k : Below b.heap.size b c) : Below a.heap.size a c := h.trans (k.mono h.size)
theorem below_fr {a b c : World} (h : Below a.heap.size a b) (k : Fr (fun _ => False) b c) : Below a.heap.size a c := below_step h (k.below (fun _ h => h.elim))
theorem below_set {a w : World} (h : Below a.heap.size a w) {p : Addr} (hp : a.heap.size ≤ p.block) (u : Value) : Below a.heap.size a (w.setCell p u) := h.setCell hp u
theorem below_own {a b c : World} (h : Below a.heap.size a b) {B : Nat} {e : TypeId} {s : Nat} {v : Value} {n : Nat} {xs : List Value} (ho : b.ownsRow B e s v n xs) (hg : b.grownBy c v.ownBlock) (hB : a.heap.size ≤ B) : Below a.heap.size a c :=
  h.grown hg h.size (fun k hk => by have := ho.lt k hk; omega)
theorem below_grew {a b c : World} (h : Below a.heap.size a b) {row : Option Nat} (hg : b.grownBy c row) (hr : ∀ k, row = some k → a.heap.size ≤ k) : Below a.heap.size a c := h.grown hg h.size hr
theorem below_grown_at {a b c : World} (h : Below a.heap.size a b) {g : Nat} (hg : b.grownBy c (some g)) (hr : a.heap.size ≤ g) : Below a.heap.size a c :=
  h.grown hg h.size (fun k hk => by have hk' : g = k := Option.some.inj hk; omega)
theorem own_base {w : World} {B B' : Nat} {e : TypeId} {s : Nat} {v : Value} {n : Nat} {xs : List Value} (h : w.ownsRow B e s v n xs) (hB : B' ≤ B) : w.ownsRow B' e s v n xs := by
  refine ⟨h.1, ?_⟩
  rcases h.2 with h0 | ⟨g, cap, cur, hv, hb, rest⟩
  · exact .inl h0
  · exact .inr ⟨g, cap, cur, hv, by omega, rest⟩
/-- An empty row of the call's own. -/
theorem own_empty {w : World} {B b : Nat} {e : TypeId} {s : Nat} (h : w.heap[b]? = some (.cells #[] e (0, 0))) (hB : B ≤ b) : w.ownsRow B e s (.slice (some ⟨b, 0, none⟩) 0 0) 0 [] :=
  ⟨by simp, .inr ⟨b, 0, #[], rfl, hB, h, Nat.le_refl _, by decide, by simp, by simp⟩⟩
theorem own_empty_new {w : World} {B b : Nat} {e : TypeId} {s : Nat} (hb : w.heap.size = b) (hB : B ≤ b) : (w.alloc (.cells #[] e)).ownsRow B e s (.slice (some ⟨b, 0, none⟩) 0 0) 0 [] := by
  subst hb
  exact own_empty (blk_new w _) hB
end Go.Proofs.YtcefmhofidoloaaGreatDoor.App
