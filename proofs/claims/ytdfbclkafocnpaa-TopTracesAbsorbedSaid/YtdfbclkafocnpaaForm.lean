/- A slice of ints, a formula's nodes, a list of states as they lie in memory, whoever made them. No program. -/
import Derived.Test.YtdfbclkafocnpaaBuild
namespace Go.Proofs.Ytdfbclkafocnpaa
open Go.RowKit

/-- The cells from an address on, below block B (nothing is asked where there are none). -/
def CellsAt (w : World) (B : Nat) (A : Option Addr) (xs : List Value) : Prop :=
  ∀ j u, xs[j]? = some u → ∃ b off, A = some ⟨b, off, none⟩ ∧ b < B ∧ w.cell? ⟨b, off + j, none⟩ = some u

section
variable {w w' : World} {B B' : Nat} {A : Option Addr} {xs : List Value}
theorem CellsAt.below (h : CellsAt w B A xs) (hb : Below B' w w') (hB : B ≤ B') : CellsAt w' B A xs := fun j u hu => by
  obtain ⟨b, off, e, hl, hc⟩ := h j u hu
  exact ⟨b, off, e, hl, (hb.cell (p := ⟨b, off + j, none⟩) (Nat.lt_of_lt_of_le hl hB)).trans hc⟩
theorem CellsAt.mono (h : CellsAt w B A xs) (hB : B ≤ B') : CellsAt w B' A xs := fun j u hu => by
  obtain ⟨b, off, e, hl, hc⟩ := h j u hu
  exact ⟨b, off, e, Nat.lt_of_lt_of_le hl hB, hc⟩
theorem CellsAt.of_own {base : Nat} {e : TypeId} {size n c : Nat} (h : w.ownsRow base e size (.slice A n c) n xs) (hB : w.heap.size ≤ B) : CellsAt w B A xs := fun j u hu => by
  rcases h.2 with ⟨hv, hn⟩ | ⟨g, cap, cur, hv, _, hg, _⟩
  · subst hn
    have : xs = [] := List.eq_nil_of_length_eq_zero (by have := h.1; omega)
    subst this
    simp at hu
  · have hA : A = some ⟨g, 0, none⟩ := by injection hv
    subst hA
    have := h.cells (g := g) rfl j u hu
    refine ⟨g, 0, rfl, Nat.lt_of_lt_of_le (Array.getElem?_eq_some_iff.1 hg).1 hB, ?_⟩
    unfold Addr.add at this
    split at this
    · rename_i h0; subst h0; exact this
    · simpa using this
end

/-- A slice of ints. -/
def IntsAt (w : World) (B : Nat) (v : Value) (l : List Int) : Prop :=
  ∃ A c, v = .slice A l.length c ∧ l.length ≤ c ∧ c ≤ maxLen ∧ CellsAt w B A (l.map (Value.int .i64))

/-- The cells of nodes with their slices of children. -/
def flatN : List (Nd × Value) → List Value
  | [] => []
  | (n, v) :: r => .int .i64 n.kind :: v :: .int .i64 n.fact :: flatN r

theorem flatN_length : ∀ l : List (Nd × Value), (flatN l).length = l.length * 3
  | [] => rfl
  | (n, v) :: r => by simp only [flatN, List.length_cons, flatN_length r]; omega
theorem flatN_at : ∀ (l : List (Nd × Value)) (i : Nat) (n : Nd) (v : Value), l[i]? = some (n, v) →
    (flatN l)[i * 3]? = some (.int .i64 n.kind) ∧ (flatN l)[i * 3 + 1]? = some v ∧ (flatN l)[i * 3 + 2]? = some (.int .i64 n.fact)
  | [], i, n, v, h => by simp at h
  | (m, u) :: r, 0, n, v, h => by
    simp only [List.getElem?_cons_zero, Option.some.injEq, Prod.mk.injEq] at h
    obtain ⟨rfl, rfl⟩ := h
    simp [flatN]
  | (m, u) :: r, i + 1, n, v, h => by
    have := flatN_at r i n v (by simpa using h)
    simp only [flatN, show (i + 1) * 3 = i * 3 + 3 from by omega, show i * 3 + 3 + 1 = i * 3 + 1 + 3 from by omega, show i * 3 + 3 + 2 = i * 3 + 2 + 3 from by omega, List.getElem?_cons_succ]
    exact this
theorem flatN_append : ∀ l m : List (Nd × Value), flatN (l ++ m) = flatN l ++ flatN m
  | [], m => rfl
  | (n, v) :: r, m => by simp only [List.cons_append, flatN, flatN_append r m]

/-- A formula's nodes. -/
def NodesAt (w : World) (B : Nat) (v : Value) (ns : List Nd) : Prop :=
  ∃ (A : Option Addr) (c : Nat) (vs : List Value), v = .slice A ns.length c ∧ ns.length ≤ c ∧ c ≤ maxLen ∧ vs.length = ns.length ∧ CellsAt w B A (flatN (ns.zip vs)) ∧
    ∀ (i : Nat) (n : Nd) (u : Value), ns[i]? = some n → vs[i]? = some u → IntsAt w B u n.kids

/-- A list of states. -/
def StatesAt (w : World) (B : Nat) (v : Value) (ss : States) : Prop :=
  ∃ (A : Option Addr) (c : Nat) (vs : List Value), v = .slice A ss.length c ∧ ss.length ≤ c ∧ c ≤ maxLen ∧ vs.length = ss.length ∧ CellsAt w B A vs ∧
    ∀ (i : Nat) (s : List Int) (u : Value), ss[i]? = some s → vs[i]? = some u → IntsAt w B u s

section
variable {w w' : World} {B B' : Nat} {v : Value}
theorem IntsAt.below {l : List Int} (h : IntsAt w B v l) (hb : Below B' w w') (hB : B ≤ B') : IntsAt w' B v l := by
  obtain ⟨A, c, h1, h2, h3, h4⟩ := h
  exact ⟨A, c, h1, h2, h3, h4.below hb hB⟩
theorem IntsAt.mono {l : List Int} (h : IntsAt w B v l) (hB : B ≤ B') : IntsAt w B' v l := by
  obtain ⟨A, c, h1, h2, h3, h4⟩ := h
  exact ⟨A, c, h1, h2, h3, h4.mono hB⟩
theorem NodesAt.below {ns : List Nd} (h : NodesAt w B v ns) (hb : Below B' w w') (hB : B ≤ B') : NodesAt w' B v ns := by
  obtain ⟨A, c, vs, h1, h2, h3, h4, h5, h6⟩ := h
  exact ⟨A, c, vs, h1, h2, h3, h4, h5.below hb hB, fun i n u hn hu => (h6 i n u hn hu).below hb hB⟩
theorem NodesAt.mono {ns : List Nd} (h : NodesAt w B v ns) (hB : B ≤ B') : NodesAt w B' v ns := by
  obtain ⟨A, c, vs, h1, h2, h3, h4, h5, h6⟩ := h
  exact ⟨A, c, vs, h1, h2, h3, h4, h5.mono hB, fun i n u hn hu => (h6 i n u hn hu).mono hB⟩
theorem StatesAt.below {ss : States} (h : StatesAt w B v ss) (hb : Below B' w w') (hB : B ≤ B') : StatesAt w' B v ss := by
  obtain ⟨A, c, vs, h1, h2, h3, h4, h5, h6⟩ := h
  exact ⟨A, c, vs, h1, h2, h3, h4, h5.below hb hB, fun i n u hn hu => (h6 i n u hn hu).below hb hB⟩
theorem StatesAt.mono {ss : States} (h : StatesAt w B v ss) (hB : B ≤ B') : StatesAt w B' v ss := by
  obtain ⟨A, c, vs, h1, h2, h3, h4, h5, h6⟩ := h
  exact ⟨A, c, vs, h1, h2, h3, h4, h5.mono hB, fun i n u hn hu => (h6 i n u hn hu).mono hB⟩

/-- What the walk wants of a formula: the value's form, and each node's three cells. -/
theorem NodesAt.form {ns : List Nd} (h : NodesAt w B v ns) : ∃ (A : Option Addr) (c : Nat), v = .slice A ns.length c ∧ ns.length ≤ c ∧ c ≤ maxLen ∧
    ∀ (i : Nat) (n : Nd), ns[i]? = some n → ∃ b off u, A = some ⟨b, off, none⟩ ∧ b < B ∧ w.cell? ⟨b, off + i * 3, none⟩ = some (.int .i64 n.kind) ∧
      w.cell? ⟨b, off + i * 3 + 1, none⟩ = some u ∧ w.cell? ⟨b, off + i * 3 + 2, none⟩ = some (.int .i64 n.fact) ∧ IntsAt w B u n.kids := by
  obtain ⟨A, c, vs, h1, h2, h3, h4, h5, h6⟩ := h
  refine ⟨A, c, h1, h2, h3, fun i n hn => ?_⟩
  have hl : i < vs.length := by rw [h4]; exact (List.getElem?_eq_some_iff.1 hn).1
  have hu : vs[i]? = some vs[i] := List.getElem?_eq_getElem hl
  have hz : (ns.zip vs)[i]? = some (n, vs[i]) := by rw [List.getElem?_zip_eq_some]; exact ⟨hn, hu⟩
  obtain ⟨f0, f1, f2⟩ := flatN_at _ _ _ _ hz
  obtain ⟨b, off, e, hb, hc⟩ := h5 _ _ f0
  obtain ⟨b1, off1, e1, _, hc1⟩ := h5 _ _ f1
  obtain ⟨b2, off2, e2, _, hc2⟩ := h5 _ _ f2
  rw [e] at e1 e2
  injection e1 with e1; injection e1 with e1 e1'
  injection e2 with e2; injection e2 with e2 e2'
  subst e1; subst e1'; subst e2; subst e2'
  exact ⟨b, off, vs[i], e, hb, hc, hc1, hc2, h6 i n _ hn hu⟩
theorem IntsAt.form {l : List Int} (h : IntsAt w B v l) : ∃ (A : Option Addr) (c : Nat), v = .slice A l.length c ∧ l.length ≤ c ∧ c ≤ maxLen ∧
    ∀ (i : Nat) (x : Int), l[i]? = some x → ∃ b off, A = some ⟨b, off, none⟩ ∧ b < B ∧ w.cell? ⟨b, off + i, none⟩ = some (.int .i64 x) := by
  obtain ⟨A, c, h1, h2, h3, h4⟩ := h
  exact ⟨A, c, h1, h2, h3, fun i x hx => h4 i _ (by rw [List.getElem?_map, hx]; rfl)⟩
theorem StatesAt.form {ss : States} (h : StatesAt w B v ss) : ∃ (A : Option Addr) (c : Nat), v = .slice A ss.length c ∧ ss.length ≤ c ∧ c ≤ maxLen ∧
    ∀ (i : Nat) (s : List Int), ss[i]? = some s → ∃ b off u, A = some ⟨b, off, none⟩ ∧ b < B ∧ w.cell? ⟨b, off + i, none⟩ = some u ∧ IntsAt w B u s := by
  obtain ⟨A, c, vs, h1, h2, h3, h4, h5, h6⟩ := h
  refine ⟨A, c, h1, h2, h3, fun i s hs => ?_⟩
  have hl : i < vs.length := by rw [h4]; exact (List.getElem?_eq_some_iff.1 hs).1
  have hu : vs[i]? = some vs[i] := List.getElem?_eq_getElem hl
  obtain ⟨b, off, e, hb, hc⟩ := h5 _ _ hu
  exact ⟨b, off, vs[i], e, hb, hc, h6 i s _ hs hu⟩
end
end Go.Proofs.Ytdfbclkafocnpaa
