/- A node of a tree that is being built: its children are appended one after another. No program. -/
import Derived.Test.YtdfbclkafocnpaaLoc
import Derived.OwnWalk
namespace Go.Proofs.Ytdfbclkafocnpaa
open Go.RowKit

/-- A child's blocks lie behind the node's block, and its parent's row is none of them. -/
def KidIn (S E : TypeId) (b : Nat) (v : Value) (w : World) (c : LT) : Prop :=
  ∃ lo hi, c.In w S E lo hi ∧ b < lo ∧ hi ≤ w.heap.size ∧ ∀ g, v.ownBlock = some g → g < lo ∨ hi ≤ g

/-- Block b is a node of which some children are there. -/
def Building (S E : TypeId) (w0 : World) (b : Nat) (k f : Int) (done : List Tr) (v : Value) (w : World) : Prop :=
  ∃ cs : List LT, cs.map LT.tr = done ∧ Blk w b S #[.int .i64 k, .int .i64 f, v] ∧ Row w E w0.heap.size w.heap.size v (cs.map LT.ptr) ∧
    (∀ c ∈ cs, KidIn S E b v w c) ∧ Below w0.heap.size w0 w ∧ w0.heap.size ≤ b

section
variable {S E : TypeId} {w0 w w' : World} {b : Nat} {k f : Int} {done : List Tr} {v : Value}

theorem Building.start (hb : Below w0.heap.size w0 w) : Building S E w0 w.heap.size k f [] (.slice none 0 0) (w.alloc (.cells #[.int .i64 k, .int .i64 f, .slice none 0 0] S)) :=
  ⟨[], rfl, Blk.new _ _ _, Row.nil _ _ _ _, by simp, hb.alloc hb.size _, hb.size⟩

theorem Building.drew (h : Building S E w0 b k f done v w) : Building S E w0 b k f done v w.drew := by
  obtain ⟨cs, h1, h2, h3, h4, h5, h6⟩ := h
  refine ⟨cs, h1, h2, h3, fun c hc => ?_, h5.drew, h6⟩
  obtain ⟨lo, hi, g1, g2, g3, g4⟩ := h4 c hc
  exact ⟨lo, hi, g1.keep fun _ _ _ => rfl, g2, g3, g4⟩

theorem Building.cell2 (h : Building S E w0 b k f done v w) : w.cell? ⟨b, 2, none⟩ = some v := by
  obtain ⟨cs, _, h2, _⟩ := h
  exact h2.cell 2
theorem Building.free2 (h : Building S E w0 b k f done v w) : w.frozen? ⟨b, 2, none⟩ = false := by
  obtain ⟨cs, _, h2, _⟩ := h
  exact h2.frozen 2
theorem Building.lt (h : Building S E w0 b k f done v w) : b < w.heap.size := by
  obtain ⟨cs, _, h2, _⟩ := h
  exact h2.lt
theorem Building.below (h : Building S E w0 b k f done v w) : Below w0.heap.size w0 w := by
  obtain ⟨cs, _, _, _, _, h, _⟩ := h
  exact h
theorem Building.own (h : Building S E w0 b k f done v w) : ∃ ps : List Value, w.ownsRow w0.heap.size E 1 v done.length ps := by
  obtain ⟨cs, h1, _, h3, _⟩ := h
  refine ⟨cs.map LT.ptr, ?_⟩
  have := h3.1
  rwa [List.length_map, ← List.length_map (f := LT.tr), h1] at this

theorem Building.row_ne (h : Building S E w0 b k f done v w) (hSE : S ≠ E) : v.ownBlock ≠ some b := by
  obtain ⟨cs, _, h2, h3, _⟩ := h
  intro e
  rcases h3.1.2 with ⟨rfl, _⟩ | ⟨g', cap, cur, rfl, _, hh, _⟩
  · simp [Value.ownBlock] at e
  · have : g' = b := by simpa [Value.ownBlock] using e
    subst this
    exact Blk.ne_ (t := E) hh h2 (Ne.symm hSE) rfl

/-- A cell that is not in the row is kept by the append behind a call. -/
theorem keep_cell {w w1 w3 : World} {o : Obj} {a : Addr} {u : Value} {row : Option Nat} (hbl : a.block < w.heap.size) (hb1 : Below w.heap.size w w1) (c : w.cell? a = some u) (hne : row ≠ some a.block) (hg : (w1.alloc o).grownBy w3 row) :
    w3.cell? a = some u := by
  have h1 : w1.cell? a = some u := (hb1.cell hbl).trans c
  exact hg.cell ((World.cell?_alloc_lt w1 o a (Nat.lt_of_lt_of_le hbl hb1.size)).trans h1) (Ne.symm hne)
theorem keep_frozen {w w1 w3 : World} {o : Obj} {a : Addr} {u : Bool} {row : Option Nat} (hbl : a.block < w.heap.size) (hb1 : Below w.heap.size w w1) (c : w.frozen? a = u) (hne : row ≠ some a.block) (hg : (w1.alloc o).grownBy w3 row) :
    w3.frozen? a = u := by
  have h1 : w1.frozen? a = u := (hb1.frozen hbl).trans c
  rw [World.frozen?_of_block (w := w1) ?_]
  · exact h1
  · rw [hg.block _ (by rw [World.size_alloc]; have := hb1.size; omega) (Ne.symm hne), Below.heap_alloc _ _ _ (Nat.lt_of_lt_of_le hbl hb1.size)]

/-- What only makes new blocks keeps it. -/
theorem Building.keep (h : Building S E w0 b k f done v w) (hb : Below w.heap.size w w') : Building S E w0 b k f done v w' := by
  obtain ⟨cs, h1, h2, h3, h4, h5, h6⟩ := h
  refine ⟨cs, h1, h2.below hb h2.lt, (h3.below hb (Nat.le_refl _)).mono (Nat.le_refl _) hb.size, fun c hc => ?_, h5.trans (hb.mono h5.size), h6⟩
  obtain ⟨lo, hi, g1, g2, g3, g4⟩ := h4 c hc
  exact ⟨lo, hi, g1.below hb g3, g2, Nat.le_trans g3 hb.size, g4⟩

/-- One child more: appended to the row, and the row stored. -/
theorem Building.step {L : LT} {w1 w3 : World} {n gg cap : Nat} {ps : List Value} (h : Building S E w0 b k f done v w) (hSE : S ≠ E) (hL : L.In w1 S E w.heap.size w1.heap.size) (hb : Below w.heap.size w w1)
    (hps : w.ownsRow w0.heap.size E 1 v n ps)
    (hown : w3.ownsRow w0.heap.size E 1 (.slice (some ⟨gg, 0, none⟩) (n + 1) cap) (n + 1) (ps ++ [L.ptr])) (hg : (w1.alloc (.cells #[L.ptr] E)).grownBy w3 v.ownBlock) (hat : v.ownBlock = some gg ∨ gg = w1.heap.size + 1) :
    Building S E w0 b k f (done ++ [L.tr]) (.slice (some ⟨gg, 0, none⟩) (n + 1) cap) (w3.setCell ⟨b, 2, none⟩ (.slice (some ⟨gg, 0, none⟩) (n + 1) cap)) := by
  have hbw := h.lt
  have hvlt := hps.lt
  obtain ⟨cs, h1, h2, h3, h4, h5, h6⟩ := h.keep hb
  have hps' : ps = cs.map LT.ptr := by
    have r1 := (Row.of_own hps (Nat.le_refl _)).below hb (Nat.le_refl _)
    exact r1.det h3
  subst hps'
  have hs1 := hb.size
  have hs3 := hg.size
  simp only [World.size_alloc] at hs3
  have hbv : v.ownBlock ≠ some b := by
    intro e
    rcases h3.1.2 with ⟨rfl, _⟩ | ⟨g', cap, cur, rfl, _, hh, _⟩
    · simp [Value.ownBlock] at e
    · have : g' = b := by simpa [Value.ownBlock] using e
      subst this
      exact Blk.ne_ (t := E) hh h2 (Ne.symm hSE) rfl
  have hbg : b ≠ gg := by
    rintro rfl
    rcases hat with e | e
    · exact hbv e
    · omega
  -- a block that is neither the row nor the node
  have hk : ∀ g, g < w1.heap.size → some g ≠ v.ownBlock → g ≠ b → (w3.setCell ⟨b, 2, none⟩ (.slice (some ⟨gg, 0, none⟩) (n + 1) cap)).heap[g]? = w1.heap[g]? := by
    intro g hl hne hgb
    rw [Below.heap_setCell _ _ _ _ hgb, hg.block g (by simp; omega) hne, Below.heap_alloc _ _ _ hl]
  refine ⟨cs ++ [L], by rw [List.map_append, h1]; rfl, ?_, ?_, ?_, ?_, h6⟩
  · have : Blk w3 b S #[.int .i64 k, .int .i64 f, v] := (hg.block b (by simp; omega) (Ne.symm hbv)).trans ((Below.heap_alloc _ _ _ (by omega)).trans h2)
    exact this.set_ 2 _
  · have r1 : Row w3 E w0.heap.size w3.heap.size (.slice (some ⟨gg, 0, none⟩) (n + 1) cap) (cs.map LT.ptr ++ [L.ptr]) := Row.of_own hown (Nat.le_refl _)
    rw [List.map_append]
    refine (r1.same fun g hgv => ?_).mono (Nat.le_refl _) (by simp [World.setCell])
    have : gg = g := by simpa [Value.ownBlock] using hgv
    subst this
    exact Below.heap_setCell _ _ _ _ (Ne.symm hbg)
  · intro c hc
    rw [List.mem_append, List.mem_singleton] at hc
    rcases hc with hc | rfl
    · obtain ⟨lo, hi, g1, g2, g3, g4⟩ := h4 c hc
      refine ⟨lo, hi, g1.keep fun g hl hh => hk g (by omega) (fun e => ?_) (by omega), g2, by simp [World.setCell]; omega, fun g hgv => ?_⟩
      · have := g4 g e.symm; omega
      · have : gg = g := by simpa [Value.ownBlock] using hgv
        subst this
        rcases hat with e | e
        · exact g4 _ e
        · exact .inr (by omega)
    · refine ⟨w.heap.size, w1.heap.size, hL.keep fun g hl hh => hk g hh (fun e => ?_) (by omega), hbw, by simp [World.setCell]; omega, fun g hgv => ?_⟩
      · have := (hvlt g e.symm).2; omega
      · have : gg = g := by simpa [Value.ownBlock] using hgv
        subst this
        rcases hat with e | e
        · exact .inl (hvlt _ e).2
        · exact .inr (by omega)
  · refine Below.setCell ?_ (by exact h6) _
    exact ((h5.alloc h5.size _).grown hg (by simp; have := h5.size; omega) fun g e => (hvlt g e).1)

/-- All children are there: a tree. -/
theorem Building.built (h : Building S E w0 b k f done v w) (hl : done.length ≤ 2) : RetTree S E w0.heap.size (Tr.mk k f done) w0 (.returned (.pointer (some ⟨b, 0, none⟩))) w := by
  obtain ⟨cs, h1, h2, h3, h4, h5, h6⟩ := h
  refine ⟨LT.mk b k f v cs, by rw [LT.mk_blk], by rw [LT.mk_tr, h1], ?_, h5⟩
  refine LT.In.mk ⟨h6, h2.lt, h2, h3⟩ (fun c hc => ?_) (by rw [← h1] at hl; simpa using hl)
  obtain ⟨lo, hi, g1, g2, g3, _⟩ := h4 c hc
  exact g1.mono (by omega) g3
end
end Go.Proofs.Ytdfbclkafocnpaa
