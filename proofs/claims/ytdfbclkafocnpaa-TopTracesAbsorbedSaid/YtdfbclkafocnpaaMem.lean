/- Words for memory: a block that is known whole, a slice that reads as a list, a tree in memory with its blocks. No program. -/
import Derived.Test.YtdfbclkafocnpaaTr
import Derived.Below
import Derived.Laws.OwnMore
import Derived.Deep.AppendLies
import Derived.Deep.Draws
import Derived.Laws.Rows
import Derived.Lib.Hide
namespace Go.Proofs.Ytdfbclkafocnpaa
open Go.RowKit

theorem block_of_add (a : Addr) (n : Nat) : (a.add n).block = a.block := by unfold Addr.add; split <;> rfl
theorem add_of_add (a : Addr) (i j : Nat) : (a.add i).add j = a.add (i + j) := by
  unfold Addr.add
  by_cases hi : i = 0 <;> by_cases hj : j = 0 <;> simp [hi, hj, Nat.add_assoc]

/-- Block g is just these cells, none of them frozen. -/
def Blk (w : World) (g : Nat) (t : TypeId) (cs : Array Value) : Prop := w.heap[g]? = some (.cells cs t (0, 0))

section
variable {w w' : World} {g : Nat} {t : TypeId} {cs : Array Value}
theorem Blk.lt (h : Blk w g t cs) : g < w.heap.size := by
  rcases Nat.lt_or_ge g w.heap.size with hlt | hge
  · exact hlt
  · unfold Blk at h; rw [Array.getElem?_eq_none hge] at h; cases h
theorem Blk.cell (h : Blk w g t cs) (i : Nat) : w.cell? ⟨g, i, none⟩ = cs[i]? := cell_of_row w g i cs t (0, 0) h
theorem Blk.frozen (h : Blk w g t cs) (i : Nat) : w.frozen? ⟨g, i, none⟩ = false := by
  unfold Blk at h
  simp [World.frozen?, h]
theorem Blk.new (w : World) (t : TypeId) (cs : Array Value) : Blk (w.alloc (.cells cs t)) w.heap.size t cs := heap_alloc_new w _
theorem Blk.drew (h : Blk w g t cs) : Blk w.drew g t cs := h
theorem Blk.alloc (h : Blk w g t cs) (o : Obj) : Blk (w.alloc o) g t cs := (Below.heap_alloc w o g h.lt).trans h
theorem Blk.set_ (h : Blk w g t cs) (i : Nat) (u : Value) : Blk (w.setCell ⟨g, i, none⟩ u) g t (cs.setIfInBounds i u) := by
  unfold Blk at h ⊢
  simp [World.setCell, Array.getElem?_modify, h]
theorem Blk.far (h : Blk w g t cs) {p : Addr} (hp : g ≠ p.block) (u : Value) : Blk (w.setCell p u) g t cs := (Below.heap_setCell w p u g hp).trans h
theorem Blk.below {B : Nat} (h : Blk w g t cs) (hb : Below B w w') (hg : g < B) : Blk w' g t cs := (hb.block g hg).trans h
theorem Blk.grown {row : Option Nat} (h : Blk w g t cs) (hb : w.grownBy w' row) (hg : some g ≠ row) : Blk w' g t cs := (hb.block g h.lt hg).trans h
theorem Blk.ne_ {g' : Nat} {t' : TypeId} {cs' : Array Value} (h : Blk w g t cs) (h' : Blk w g' t' cs') (hne : t ≠ t') : g ≠ g' := by
  rintro rfl
  unfold Blk at h h'
  rw [h] at h'
  injection h' with h'
  injection h' with _ ht
  exact hne ht
theorem Blk.det {t' : TypeId} {cs' : Array Value} (h : Blk w g t cs) (h' : Blk w g t' cs') : cs = cs' := by
  unfold Blk at h h'
  rw [h] at h'
  injection h' with h'
  injection h'
end

/-! ### A slice that reads as a list of cells (nil let in) -/

/-- The slice value reads as these cells, size of them an element, and lies below block B. -/
def Reads (w : World) (B size : Nat) (A : Option Addr) (n : Nat) (xs : List Value) : Prop :=
  xs.length = n * size ∧ (0 < n → ∃ ad, A = some ad ∧ ad.block < B ∧ ∀ j u, xs[j]? = some u → w.cell? (ad.add j) = some u)

section
variable {w w' : World} {B B' size n : Nat} {A : Option Addr} {xs : List Value}
theorem Reads.keep (h : Reads w B size A n xs) (hk : ∀ p : Addr, p.block < B → w'.cell? p = w.cell? p) : Reads w' B size A n xs :=
  ⟨h.1, fun hn => by
    obtain ⟨ad, e, hb, hc⟩ := h.2 hn
    exact ⟨ad, e, hb, fun j u hu => (hk _ (by rw [block_of_add]; exact hb)).trans (hc j u hu)⟩⟩
theorem Reads.more (h : Reads w B size A n xs) (hB : B ≤ B') : Reads w B' size A n xs :=
  ⟨h.1, fun hn => by
    obtain ⟨ad, e, hb, hc⟩ := h.2 hn
    exact ⟨ad, e, by omega, hc⟩⟩
theorem Reads.below (h : Reads w B size A n xs) (hb : Below B w w') : Reads w' B size A n xs := h.keep fun _ hp => hb.cell hp
theorem Reads.of_own {base : Nat} {e : TypeId} {c : Nat} (h : w.ownsRow base e size (.slice A n c) n xs) : Reads w w.heap.size size A n xs := by
  refine ⟨h.1, fun hn => ?_⟩
  obtain ⟨g, cap, hv, _, hlt⟩ := h.form hn
  have hA : A = some ⟨g, 0, none⟩ := by injection hv
  subst hA
  exact ⟨_, rfl, hlt, h.cells (g := g) rfl⟩
end

/-! ### A row of one-cell elements of the call's own (or nil), with a bound above too -/

def Row (w : World) (E : TypeId) (lo hi : Nat) (v : Value) (xs : List Value) : Prop :=
  w.ownsRow lo E 1 v xs.length xs ∧ ∀ g, v.ownBlock = some g → g < hi

section
variable {w w' : World} {E : TypeId} {lo lo' hi hi' : Nat} {v : Value} {xs : List Value}
theorem Row.nil (w : World) (E : TypeId) (lo hi : Nat) : Row w E lo hi (.slice none 0 0) [] :=
  ⟨World.ownsRow_nil _ _ _ _, fun g h => by simp [Value.ownBlock] at h⟩
theorem Row.same (h : Row w E lo hi v xs) (hk : ∀ g, v.ownBlock = some g → w'.heap[g]? = w.heap[g]?) : Row w' E lo hi v xs := by
  refine ⟨⟨h.1.1, ?_⟩, h.2⟩
  rcases h.1.2 with hn | ⟨g, cap, cur, rfl, hb, hg, r⟩
  · exact .inl hn
  · exact .inr ⟨g, cap, cur, rfl, hb, (hk g rfl).trans hg, r⟩
theorem Row.below {B : Nat} (h : Row w E lo hi v xs) (hb : Below B w w') (hB : hi ≤ B) : Row w' E lo hi v xs :=
  h.same fun g hg => hb.block g (Nat.lt_of_lt_of_le (h.2 g hg) hB)
theorem Row.mono (h : Row w E lo hi v xs) (hl : lo' ≤ lo) (hh : hi ≤ hi') : Row w E lo' hi' v xs := by
  refine ⟨⟨h.1.1, ?_⟩, fun g hg => Nat.lt_of_lt_of_le (h.2 g hg) hh⟩
  rcases h.1.2 with hn | ⟨g, cap, cur, rfl, hb, r⟩
  · exact .inl hn
  · exact .inr ⟨g, cap, cur, rfl, Nat.le_trans hl hb, r⟩
theorem Row.of_own {n : Nat} (h : w.ownsRow lo E 1 v n xs) (hh : w.heap.size ≤ hi) : Row w E lo hi v xs := by
  have hn : n = xs.length := by have := h.1; omega
  subst hn
  exact ⟨h, fun g hg => Nat.lt_of_lt_of_le (h.lt g hg).2 hh⟩
theorem Row.det {xs' : List Value} {lo' hi' : Nat} (h : Row w E lo hi v xs) (h' : Row w E lo' hi' v xs') : xs = xs' := by
  obtain ⟨⟨h1, h2⟩, _⟩ := h
  obtain ⟨⟨g1, g2⟩, _⟩ := h'
  rcases h2 with ⟨e, hn⟩ | ⟨g, cap, cur, e, _, hc, _, _, _, ht⟩
  · rcases g2 with ⟨_, gn⟩ | ⟨g, cap, cur, e', _⟩
    · rw [List.eq_nil_of_length_eq_zero hn, List.eq_nil_of_length_eq_zero gn]
    · rw [e] at e'; cases e'
  · rcases g2 with ⟨e', gn⟩ | ⟨g', cap', cur', e', _, hc', _, _, _, ht'⟩
    · rw [e] at e'; cases e'
    · rw [e] at e'
      injection e' with ea el _
      injection ea with ea
      injection ea with ea
      subst ea
      rw [hc] at hc'
      injection hc' with hc'
      injection hc' with hcur
      subst hcur
      rw [← ht, ← ht', el]
theorem cell_later {a : Addr} {u : Value} (hb : Below w.heap.size w w') (c : w.cell? a = some u) : w'.cell? a = some u :=
  (hb.cell (World.block_lt_of_cell? w a c)).trans c
theorem frozen_later {a : Addr} {u : Bool} (hb : Below w.heap.size w w') (hl : a.block < w.heap.size) (c : w.frozen? a = u) : w'.frozen? a = u := (hb.frozen hl).trans c
theorem lt_later {b : Nat} (hb : Below w.heap.size w w') (hl : b < w.heap.size) : b < w'.heap.size := Nat.lt_of_lt_of_le hl hb.size
theorem ne_later {b : Nat} (hb : Below w.heap.size w w') (hl : b < w.heap.size) : ¬ b = w'.heap.size := by have := hb.size; omega

/-- What only makes new blocks keeps a row. -/
theorem own_below {n size : Nat} (h : w.ownsRow lo E size v n xs) (hb : Below w.heap.size w w') : w'.ownsRow lo E size v n xs := by
  refine ⟨h.1, ?_⟩
  rcases h.2 with hn | ⟨g, cap, cur, rfl, hl, hg, r⟩
  · exact .inl hn
  · exact .inr ⟨g, cap, cur, rfl, hl, (hb.block g (Array.getElem?_eq_some_iff.1 hg).1).trans hg, r⟩
/-- What the walk wants of a row: the value's form and its cells. -/
theorem Row.form (h : Row w E lo hi v xs) : ∃ (A : Option Addr) (cap : Nat), v = .slice A xs.length cap ∧ xs.length ≤ cap ∧ cap ≤ maxLen ∧
    (∀ j u, xs[j]? = some u → ∃ g, A = some ⟨g, 0, none⟩ ∧ lo ≤ g ∧ g < hi ∧ g < w.heap.size ∧ w.cell? ⟨g, j, none⟩ = some u ∧ w.frozen? ⟨g, j, none⟩ = false) := by
  rcases h.1.2 with ⟨rfl, hn⟩ | ⟨g, cap, cur, rfl, hb, hg, hc, hm, hs, ht⟩
  · have : xs = [] := List.eq_nil_of_length_eq_zero hn
    subst this
    exact ⟨none, 0, rfl, Nat.le_refl _, by unfold maxLen; omega, fun j u hu => by simp at hu⟩
  · refine ⟨some ⟨g, 0, none⟩, cap, rfl, hc, hm, fun j u hu => ⟨g, rfl, hb, h.2 g rfl, ?_, ?_, ?_⟩⟩
    · exact (Array.getElem?_eq_some_iff.1 hg).1
    · have := h.1.cells (g := g) rfl j u hu
      unfold Addr.add at this
      split at this
      · rename_i h0; subst h0; exact this
      · simpa using this
    · exact Blk.frozen (cs := cur) hg j
end
end Go.Proofs.Ytdfbclkafocnpaa
