/- A tree of nodes in memory, with its blocks; it is kept by what leaves its blocks alone; a node of it is put in the place of another. No program. -/
import Derived.Test.YtdfbclkafocnpaaMem
namespace Go.Proofs.Ytdfbclkafocnpaa
open Go.RowKit

/-- A tree with the block of each node and the value of each node's slice of children. -/
inductive LT where
  | n0 (b : Nat) (k f : Int) (v : Value) : LT
  | n1 (b : Nat) (k f : Int) (v : Value) (a : LT) : LT
  | n2 (b : Nat) (k f : Int) (v : Value) (a c : LT) : LT

namespace LT
def blk : LT → Nat
  | n0 b .. => b
  | n1 b .. => b
  | n2 b .. => b
def ptr (L : LT) : Value := .pointer (some ⟨L.blk, 0, none⟩)
def kidsV : LT → Value
  | n0 _ _ _ v => v
  | n1 _ _ _ v _ => v
  | n2 _ _ _ v _ _ => v
def tr : LT → Tr
  | n0 _ k f _ => .n0 k f
  | n1 _ k f _ a => .n1 k f a.tr
  | n2 _ k f _ a c => .n2 k f a.tr c.tr
def kids : LT → List LT
  | n0 .. => []
  | n1 _ _ _ _ a => [a]
  | n2 _ _ _ _ a c => [a, c]
/-- The tree and all within it, the root first. -/
def sub : LT → List LT
  | n0 b k f v => [n0 b k f v]
  | n1 b k f v a => n1 b k f v a :: a.sub
  | n2 b k f v a c => n2 b k f v a c :: (a.sub ++ c.sub)
def mk (b : Nat) (k f : Int) (v : Value) : List LT → LT
  | [] => n0 b k f v
  | [a] => n1 b k f v a
  | a :: c :: _ => n2 b k f v a c

/-- A node's block and its row of children. -/
def Node (w : World) (S E : TypeId) (lo hi b : Nat) (k f : Int) (v : Value) (ps : List Value) : Prop :=
  lo ≤ b ∧ b < hi ∧ Blk w b S #[.int .i64 k, .int .i64 f, v] ∧ Row w E lo hi v ps

/-- The tree lies in memory: nodes of type S, rows of children of type E, its blocks from lo on and below hi. -/
def In (w : World) (S E : TypeId) (lo hi : Nat) : LT → Prop
  | n0 b k f v => Node w S E lo hi b k f v []
  | n1 b k f v a => Node w S E lo hi b k f v [a.ptr] ∧ a.In w S E lo hi
  | n2 b k f v a c => Node w S E lo hi b k f v [a.ptr, c.ptr] ∧ a.In w S E lo hi ∧ c.In w S E lo hi

theorem tr_kids (L : LT) : L.tr.kids = L.kids.map tr := by cases L <;> rfl
theorem mk_blk (b : Nat) (k f : Int) (v : Value) (cs : List LT) : (mk b k f v cs).blk = b := by
  match cs with
  | [] => rfl
  | [_] => rfl
  | _ :: _ :: _ => rfl
theorem mk_tr (b : Nat) (k f : Int) (v : Value) (cs : List LT) : (mk b k f v cs).tr = Tr.mk k f (cs.map tr) := by
  match cs with
  | [] => rfl
  | [_] => rfl
  | _ :: _ :: _ => rfl
theorem tr_mk (L : LT) : Tr.mk L.tr.kind L.tr.fact (L.kids.map tr) = L.tr := by rw [← tr_kids, Tr.mk_kids]
theorem kids_le (L : LT) : L.kids.length ≤ 2 := by cases L <;> simp [kids]

section
variable {w w' : World} {S E : TypeId} {lo lo' hi hi' : Nat}

theorem Node.same {b : Nat} {k f : Int} {v : Value} {ps : List Value} (h : Node w S E lo hi b k f v ps) (hk : ∀ g o, w.heap[g]? = some o → (g = b ∨ v.ownBlock = some g) → w'.heap[g]? = some o) : Node w' S E lo hi b k f v ps := by
  obtain ⟨h1, h2, h3, h4⟩ := h
  refine ⟨h1, h2, hk _ _ h3 (.inl rfl), h4.same fun g hg => ?_⟩
  have hl := (h4.1.lt g hg).2
  have e : w.heap[g]? = some w.heap[g] := Array.getElem?_eq_getElem hl
  rw [e]
  exact hk g _ e (.inr hg)

theorem Node.below {B b : Nat} {k f : Int} {v : Value} {ps : List Value} (h : Node w S E lo hi b k f v ps) (hb : Below B w w') (hB : hi ≤ B) : Node w' S E lo hi b k f v ps :=
  ⟨h.1, h.2.1, h.2.2.1.below hb (Nat.lt_of_lt_of_le h.2.1 hB), h.2.2.2.below hb hB⟩
theorem Node.mono {b : Nat} {k f : Int} {v : Value} {ps : List Value} (h : Node w S E lo hi b k f v ps) (hl : lo' ≤ lo) (hh : hi ≤ hi') : Node w S E lo' hi' b k f v ps :=
  ⟨Nat.le_trans hl h.1, Nat.lt_of_lt_of_le h.2.1 hh, h.2.2.1, h.2.2.2.mono hl hh⟩

theorem In.below {L : LT} {B : Nat} (h : L.In w S E lo hi) (hb : Below B w w') (hB : hi ≤ B) : L.In w' S E lo hi := by
  induction L with
  | n0 => exact Node.below h hb hB
  | n1 _ _ _ _ _ ih => exact ⟨Node.below h.1 hb hB, ih h.2⟩
  | n2 _ _ _ _ _ _ ih ih' => exact ⟨Node.below h.1 hb hB, ih h.2.1, ih' h.2.2⟩
theorem In.mono {L : LT} (h : L.In w S E lo hi) (hl : lo' ≤ lo) (hh : hi ≤ hi') : L.In w S E lo' hi' := by
  induction L with
  | n0 => exact Node.mono h hl hh
  | n1 _ _ _ _ _ ih => exact ⟨Node.mono h.1 hl hh, ih h.2⟩
  | n2 _ _ _ _ _ _ ih ih' => exact ⟨Node.mono h.1 hl hh, ih h.2.1, ih' h.2.2⟩

/-- Whatever leaves the blocks from lo on and below hi alone keeps the tree. -/
theorem In.keep {L : LT} (h : L.In w S E lo hi) (hk : ∀ g, lo ≤ g → g < hi → w'.heap[g]? = w.heap[g]?) : L.In w' S E lo hi := by
  have key : ∀ {b : Nat} {k f : Int} {v : Value} {ps : List Value}, Node w S E lo hi b k f v ps → Node w' S E lo hi b k f v ps := fun hn =>
    ⟨hn.1, hn.2.1, (hk _ hn.1 hn.2.1).trans hn.2.2.1, hn.2.2.2.same fun g hg => hk g (hn.2.2.2.1.lt g hg).1 (hn.2.2.2.2 g hg)⟩
  induction L with
  | n0 => exact key h
  | n1 _ _ _ _ _ ih => exact ⟨key h.1, ih h.2⟩
  | n2 _ _ _ _ _ _ ih ih' => exact ⟨key h.1, ih h.2.1, ih' h.2.2⟩

theorem In.drew {L : LT} (h : L.In w S E lo hi) : L.In w.drew S E lo hi := h.keep fun _ _ _ => rfl

/-- The root of a tree in memory. -/
theorem In.node {L : LT} (h : L.In w S E lo hi) : Node w S E lo hi L.blk L.tr.kind L.tr.fact L.kidsV (L.kids.map ptr) := by
  cases L with
  | n0 => exact h
  | n1 => exact h.1
  | n2 => exact h.1
theorem In.kid {L a : LT} (h : L.In w S E lo hi) (ha : a ∈ L.kids) : a.In w S E lo hi := by
  cases L with
  | n0 => simp [kids] at ha
  | n1 => simp [kids] at ha; subst ha; exact h.2
  | n2 => simp [kids] at ha; rcases ha with rfl | rfl; exact h.2.1; exact h.2.2
theorem In.mk {b : Nat} {k f : Int} {v : Value} {cs : List LT} (hn : Node w S E lo hi b k f v (cs.map ptr)) (hc : ∀ a ∈ cs, a.In w S E lo hi) (hl : cs.length ≤ 2) : (LT.mk b k f v cs).In w S E lo hi := by
  match cs, hl with
  | [], _ => exact hn
  | [a], _ => exact ⟨hn, hc a (by simp)⟩
  | [a, c], _ => exact ⟨hn, hc a (by simp), hc c (by simp)⟩
  | _ :: _ :: _ :: _, hl => exact absurd hl (by simp)
theorem In.sub {L a : LT} (h : L.In w S E lo hi) (ha : a ∈ L.sub) : a.In w S E lo hi := by
  induction L with
  | n0 => simp [LT.sub] at ha; subst ha; exact h
  | n1 _ _ _ _ _ ih =>
    simp only [LT.sub, List.mem_cons] at ha
    rcases ha with rfl | ha
    · exact h
    · exact ih h.2 ha
  | n2 _ _ _ _ _ _ ih ih' =>
    simp only [LT.sub, List.mem_cons, List.mem_append] at ha
    rcases ha with rfl | ha | ha
    · exact h
    · exact ih h.2.1 ha
    · exact ih' h.2.2 ha

/-- What lies in a block settles the tree. -/
theorem In.det {L M : LT} {lo₁ hi₁ : Nat} (h : L.In w S E lo hi) (g : M.In w S E lo₁ hi₁) (hb : L.blk = M.blk) : L.tr = M.tr := by
  induction L generalizing M with
  | n0 b k f v =>
    have hn := h
    have gn := g.node
    rw [← hb] at gn
    have hv := hn.2.2.1.det gn.2.2.1
    simp at hv
    obtain ⟨h1, h2, h3⟩ := hv
    have hr := hn.2.2.2
    rw [h3] at hr
    have := hr.det gn.2.2.2
    cases M <;> simp [kids] at this
    simp_all [tr, Tr.kind, Tr.fact]
  | n1 b k f v a ih =>
    have hn := h.1
    have gn := g.node
    rw [← hb] at gn
    have hv := hn.2.2.1.det gn.2.2.1
    simp at hv
    obtain ⟨h1, h2, h3⟩ := hv
    have hr := hn.2.2.2
    rw [h3] at hr
    have hd := hr.det gn.2.2.2
    cases M <;> simp [kids] at hd
    rename_i a'
    have e : a.blk = a'.blk := by simpa [ptr] using hd
    have := ih h.2 g.2 e
    simp_all [tr, Tr.kind, Tr.fact]
  | n2 b k f v a c ih ih' =>
    have hn := h.1
    have gn := g.node
    rw [← hb] at gn
    have hv := hn.2.2.1.det gn.2.2.1
    simp at hv
    obtain ⟨h1, h2, h3⟩ := hv
    have hr := hn.2.2.2
    rw [h3] at hr
    have hd := hr.det gn.2.2.2
    cases M <;> simp [kids] at hd
    rename_i a' c'
    have e : a.blk = a'.blk := by simpa [ptr] using hd.1
    have e' : c.blk = c'.blk := by simpa [ptr] using hd.2
    have := ih h.2.1 g.2.1 e
    have := ih' h.2.2 g.2.2 e'
    simp_all [tr, Tr.kind, Tr.fact]

/-- The node in block x is X. -/
def subst (L : LT) (x : Nat) (X : LT) : LT :=
  match L with
  | n0 b k f v => if b = x then X else n0 b k f v
  | n1 b k f v a => if b = x then X else n1 b k f v (a.subst x X)
  | n2 b k f v a c => if b = x then X else n2 b k f v (a.subst x X) (c.subst x X)

theorem subst_blk {x : Nat} {X : LT} (hX : X.blk = x) (L : LT) : (L.subst x X).blk = L.blk := by
  cases L <;> simp only [subst] <;> split <;> rename_i h <;> first | (rw [hX]; exact h.symm) | rfl

/-- A world that differs at block x alone, where X lies. -/
theorem In.subst {L X : LT} (h : L.In w S E lo hi) {x : Nat} {cs : Array Value} (hx : Blk w x S cs) (hSE : S ≠ E) (hX : X.blk = x) (hin : X.In w' S E lo' hi') (hl : lo' ≤ lo) (hh : hi ≤ hi')
    (hw : ∀ g o, g ≠ x → w.heap[g]? = some o → w'.heap[g]? = some o) : (L.subst x X).In w' S E lo' hi' := by
  have key : ∀ {b : Nat} {k f : Int} {v : Value} {ps : List Value}, Node w S E lo hi b k f v ps → b ≠ x → Node w' S E lo' hi' b k f v ps := fun hn hne =>
    (hn.same fun g o hg hor => by
      refine hw g o ?_ hg
      rcases hor with rfl | hv
      · exact hne
      · rintro rfl
        rcases hn.2.2.2.1.2 with ⟨rfl, _⟩ | ⟨g', cap, cur, rfl, _, hc, _⟩
        · simp [Value.ownBlock] at hv
        · have : g' = g := by simpa [Value.ownBlock] using hv
          subst this
          exact Blk.ne_ (t := E) hc hx (Ne.symm hSE) rfl).mono hl hh
  induction L with
  | n0 b k f v =>
    simp only [LT.subst]
    split
    · exact hin
    · exact key h ‹_›
  | n1 b k f v a ih =>
    simp only [LT.subst]
    split
    · exact hin
    · refine ⟨?_, ih h.2⟩
      have := key h.1 ‹_›
      simpa only [ptr, subst_blk hX] using this
  | n2 b k f v a c ih ih' =>
    simp only [LT.subst]
    split
    · exact hin
    · refine ⟨?_, ih h.2.1, ih' h.2.2⟩
      have := key h.1 ‹_›
      simpa only [ptr, subst_blk hX] using this

/-- A formula in which one within it is written otherwise says the same. -/
theorem same_subst {L X M : LT} (h : L.In w S E lo hi) {lo₁ hi₁ : Nat} (hM : M.In w S E lo₁ hi₁) (hS : Same X.tr M.tr) : Same (L.subst M.blk X).tr L.tr := by
  induction L with
  | n0 b k f v =>
    simp only [LT.subst]
    split
    · rename_i e; rw [In.det h hM e]; exact hS
    · exact Same.refl _
  | n1 b k f v a ih =>
    simp only [LT.subst]
    split
    · rename_i e; rw [In.det h hM e]; exact hS
    · exact Same.n1 _ _ _ (ih h.2)
  | n2 b k f v a c ih ih' =>
    simp only [LT.subst]
    split
    · rename_i e; rw [In.det h hM e]; exact hS
    · exact Same.n2 _ _ _ (ih h.2.1) (ih' h.2.2)

theorem ok_subst {L X : LT} {x : Nat} {facts : Int} (h : L.tr.ok facts) (hX : X.tr.ok facts) : (L.subst x X).tr.ok facts := by
  induction L with
  | n0 b k f v => simp only [LT.subst]; split; exact hX; exact h
  | n1 b k f v a ih => simp only [LT.subst]; split; exact hX; exact ⟨h.1, ih h.2⟩
  | n2 b k f v a c ih ih' => simp only [LT.subst]; split; exact hX; exact ⟨h.1, ih h.2.1, ih' h.2.2⟩
theorem ok_sub {L a : LT} {facts : Int} (h : L.tr.ok facts) (ha : a ∈ L.sub) : a.tr.ok facts := by
  induction L with
  | n0 => simp [LT.sub] at ha; subst ha; exact h
  | n1 _ _ _ _ _ ih =>
    simp only [LT.sub, List.mem_cons] at ha
    rcases ha with rfl | ha
    · exact h
    · exact ih h.2 ha
  | n2 _ _ _ _ _ _ ih ih' =>
    simp only [LT.sub, List.mem_cons, List.mem_append] at ha
    rcases ha with rfl | ha | ha
    · exact h
    · exact ih h.2.1 ha
    · exact ih' h.2.2 ha
theorem kid_size {L a : LT} (h : a ∈ L.kids) : a.tr.size < L.tr.size := by
  cases L with
  | n0 => simp [kids] at h
  | n1 => simp [kids] at h; subst h; simp [tr, Tr.size]
  | n2 => simp [kids] at h; rcases h with rfl | rfl <;> simp [tr, Tr.size] <;> omega
theorem sub_length (L : LT) : L.sub.length = L.tr.size := by
  induction L with
  | n0 => rfl
  | n1 _ _ _ _ _ ih => simp [LT.sub, tr, Tr.size, ih]
  | n2 _ _ _ _ _ _ ih ih' => simp [LT.sub, tr, Tr.size, ih, ih']
end
end LT

theorem alloc_ge {a : Nat} {w w' : World} {B : Nat} (h : a ≤ w.heap.size) (hb : Below B w w') (o : Obj) : a ≤ (w'.alloc o).heap.size := by
  have := hb.size
  rw [World.size_alloc]
  omega

/-- The call returned a pointer to a new tree with these contents; what lay in memory is as it was. -/
def RetTree (S E : TypeId) (lo : Nat) (T : Tr) (w : World) (e : Ending) (w' : World) : Prop :=
  ∃ L : LT, e = .returned (.pointer (some ⟨L.blk, 0, none⟩)) ∧ L.tr = T ∧ L.In w' S E lo w'.heap.size ∧ Below w.heap.size w w'
end Go.Proofs.Ytdfbclkafocnpaa
