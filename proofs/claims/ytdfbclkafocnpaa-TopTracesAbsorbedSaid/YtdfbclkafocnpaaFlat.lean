/- A row of nodes that is being written: what is kept, and what a node more makes of it. No program. -/
import Derived.Test.YtdfbclkafocnpaaForm
namespace Go.Proofs.Ytdfbclkafocnpaa
open Go.RowKit

/-- The nodes of trees one behind the other, and the numbers of their roots. -/
def encL (b : Nat) : List Tr → List Nd
  | [] => []
  | a :: r => enc b a ++ encL (b + a.size) r
def idxL (b : Nat) : List Tr → List Int
  | [] => []
  | a :: r => (b + a.size - 1 : Int) :: idxL (b + a.size) r
def sizeL : List Tr → Nat
  | [] => 0
  | a :: r => a.size + sizeL r

theorem encL_length (b : Nat) : ∀ l : List Tr, (encL b l).length = sizeL l
  | [] => rfl
  | a :: r => by simp only [encL, List.length_append, enc_length, encL_length _ r, sizeL]
theorem encL_snoc (a : Tr) : ∀ (b : Nat) (l : List Tr), encL b (l ++ [a]) = encL b l ++ enc (b + sizeL l) a
  | b, [] => by simp [encL, sizeL]
  | b, c :: r => by simp only [List.cons_append, encL, encL_snoc a _ r, sizeL, List.append_assoc, Nat.add_assoc]
theorem idxL_snoc (a : Tr) : ∀ (b : Nat) (l : List Tr), idxL b (l ++ [a]) = idxL b l ++ [((b + sizeL l + a.size : Nat) - 1 : Int)]
  | b, [] => by simp [idxL, sizeL]
  | b, c :: r => by simp only [List.cons_append, idxL, idxL_snoc a _ r, sizeL, Nat.add_assoc]
theorem idxL_length (b : Nat) : ∀ l : List Tr, (idxL b l).length = l.length
  | [] => rfl
  | a :: r => by simp only [idxL, List.length_cons, idxL_length _ r]
theorem sizeL_snoc (a : Tr) : ∀ l : List Tr, sizeL (l ++ [a]) = sizeL l + a.size
  | [] => by simp [sizeL]
  | c :: r => by simp only [List.cons_append, sizeL, sizeL_snoc a r]; omega
theorem size_kids (T : Tr) : T.size = sizeL T.kids + 1 := by cases T <;> simp [Tr.size, Tr.kids, sizeL]
theorem enc_kids (b : Nat) (T : Tr) : enc b T = encL b T.kids ++ [⟨T.kind, idxL b T.kids, T.fact⟩] := by
  cases T <;> simp [enc, encL, idxL, Tr.kids, Tr.kind, Tr.fact]
theorem sizeL_take (T : Tr) (k : Nat) : sizeL (T.kids.take k) < T.size := by
  cases T with
  | n0 => simp [Tr.kids, sizeL, Tr.size]
  | n1 f k' a => match k with
    | 0 => simp [sizeL, Tr.size]
    | k + 1 => simp [Tr.kids, sizeL, Tr.size]
  | n2 f k' a b => match k with
    | 0 => simp [sizeL, Tr.size]
    | 1 => simp only [Tr.kids, List.take_succ_cons, List.take_zero, sizeL, Tr.size]; omega
    | k + 2 => simp only [Tr.kids, List.take_succ_cons, List.take_nil, sizeL, Tr.size]; omega

/-- A row of nodes of the call's own, each with its own row of children. -/
def RowN (w : World) (lo : Nat) (v : Value) (ps : List (Nd × Value)) : Prop :=
  w.ownsRow lo 50 3 v ps.length (flatN ps) ∧ ∀ p ∈ ps, w.ownsRow lo 3 1 p.2 p.1.kids.length (p.1.kids.map (Value.int .i64))

/-- From w on nothing has turned but block F (if any) and the row of v; v' is that row, or a new one. -/
structure Kept (F : Option Nat) (w : World) (v : Value) (w' : World) (v' : Value) : Prop where
  os : w'.os = w.os
  tape : w'.tape = w.tape
  output : w'.output = w.output
  size : w.heap.size ≤ w'.heap.size
  block : ∀ g, g < w.heap.size → F ≠ some g → v.ownBlock ≠ some g → w'.heap[g]? = w.heap[g]?
  row : v'.ownBlock = v.ownBlock ∨ ∃ g, v'.ownBlock = some g ∧ w.heap.size ≤ g

section
variable {F : Option Nat} {w w' w'' : World} {v v' v'' : Value} {lo : Nat} {ps : List (Nd × Value)}
theorem Kept.refl (F : Option Nat) (w : World) (v : Value) : Kept F w v w v := ⟨rfl, rfl, rfl, Nat.le_refl _, fun _ _ _ _ => rfl, .inl rfl⟩
theorem Kept.trans (h : Kept F w v w' v') (k : Kept F w' v' w'' v'') : Kept F w v w'' v'' := by
  refine ⟨k.os.trans h.os, k.tape.trans h.tape, k.output.trans h.output, Nat.le_trans h.size k.size, fun g hg hF hv => ?_, ?_⟩
  · rw [k.block g (Nat.lt_of_lt_of_le hg h.size) hF (fun e => ?_), h.block g hg hF hv]
    rcases h.row with r | ⟨g', r, hl⟩
    · exact hv (r ▸ e)
    · rw [r] at e; injection e with e; omega
  · rcases k.row with r | ⟨g', r, hl⟩
    · rcases h.row with r' | ⟨g', r', hl'⟩
      · exact .inl (r.trans r')
      · exact .inr ⟨g', r.trans r', hl'⟩
    · exact .inr ⟨g', r, Nat.le_trans h.size hl⟩
theorem Kept.of_below (h : Below w.heap.size w w') : Kept F w v w' v :=
  ⟨h.os, h.tape, h.output, h.size, fun g hg _ _ => h.block g hg, .inl rfl⟩
theorem Kept.drew (h : Kept F w v w' v') : Kept F w v w'.drew v' := ⟨h.os, h.tape, h.output, h.size, h.block, h.row⟩
theorem Kept.below {B : Nat} (h : Kept F w v w' v') (hF : ∀ f, F = some f → B ≤ f) (hv : ∀ g, v.ownBlock = some g → B ≤ g) (hB : B ≤ w.heap.size) : Below B w w' :=
  ⟨h.os, h.tape, h.output, h.size, fun k hk => h.block k (by omega) (fun e => by have := hF k e; omega) (fun e => by have := hv k e; omega)⟩

/-- A row whose elements are of another type than the nodes and than what lies in block F. -/
theorem Kept.own {E : TypeId} {base size n : Nat} {u : Value} {xs : List Value} {cF : Array Value} {tF : TypeId} (h : Kept F w v w' v') (hu : w.ownsRow base E size u n xs) (hF : ∀ f, F = some f → Blk w f tF cF) (hEF : E ≠ tF)
    (hv : v.ownBlock = none ∨ ∀ g, u.ownBlock = some g → v.ownBlock ≠ some g) : w'.ownsRow base E size u n xs := by
  refine ⟨hu.1, ?_⟩
  rcases hu.2 with hn | ⟨g, cap, cur, rfl, hl, hg, r⟩
  · exact .inl hn
  · have hv' : v.ownBlock ≠ some g := by
      rcases hv with hv | hv
      · rw [hv]; simp
      · exact hv g rfl
    exact .inr ⟨g, cap, cur, rfl, hl, (h.block g (Array.getElem?_eq_some_iff.1 hg).1 (fun e => Blk.ne_ (t := E) hg (hF g e) hEF rfl) hv').trans hg, r⟩

/-- Two rows of other types lie in other blocks. -/
theorem own_ne {E E' : TypeId} {base base' size size' n n' : Nat} {u u' : Value} {xs xs' : List Value} (h : w.ownsRow base E size u n xs) (h' : w.ownsRow base' E' size' u' n' xs') (hne : E ≠ E') : ∀ g, u.ownBlock = some g → u'.ownBlock ≠ some g := by
  intro g hg hg'
  rcases h.2 with ⟨rfl, _⟩ | ⟨g1, cap, cur, rfl, _, hh, _⟩
  · simp [Value.ownBlock] at hg
  · rcases h'.2 with ⟨rfl, _⟩ | ⟨g2, cap', cur', rfl, _, hh', _⟩
    · simp [Value.ownBlock] at hg'
    · have e1 : g1 = g := by simpa [Value.ownBlock] using hg
      have e2 : g2 = g := by simpa [Value.ownBlock] using hg'
      subst e1; subst e2
      exact Blk.ne_ (t := E) (t' := E') hh hh' hne rfl
theorem own_ne_blk {E t : TypeId} {base size n g : Nat} {u : Value} {xs : List Value} {cs : Array Value} (h : w.ownsRow base E size u n xs) (hg : Blk w g t cs) (hne : E ≠ t) : u.ownBlock ≠ some g := by
  rcases h.2 with ⟨rfl, _⟩ | ⟨g', cap, cur, rfl, _, hh, _⟩
  · simp [Value.ownBlock]
  · intro he
    have : g' = g := by simpa [Value.ownBlock] using he
    subst this
    exact Blk.ne_ (t := E) hh hg hne rfl
theorem own_far {E : TypeId} {base size n : Nat} {u : Value} {xs : List Value} (h : w.ownsRow base E size u n xs) (hk : ∀ g, u.ownBlock = some g → w'.heap[g]? = w.heap[g]?) : w'.ownsRow base E size u n xs := by
  refine ⟨h.1, ?_⟩
  rcases h.2 with hn | ⟨g, cap, cur, rfl, hl, hg, r⟩
  · exact .inl hn
  · exact .inr ⟨g, cap, cur, rfl, hl, (hk g rfl).trans hg, r⟩

/-- A row of nodes is kept by what leaves its blocks alone. -/
theorem RowN.far (h : RowN w lo v ps) (hk : ∀ g, (v.ownBlock = some g ∨ ∃ p ∈ ps, p.2.ownBlock = some g) → w'.heap[g]? = w.heap[g]?) : RowN w' lo v ps :=
  ⟨own_far h.1 fun g hg => hk g (.inl hg), fun p hp => own_far (h.2 p hp) fun g hg => hk g (.inr ⟨p, hp, hg⟩)⟩
theorem RowN.nodesAt (h : RowN w lo v ps) {B : Nat} (hB : w.heap.size ≤ B) : NodesAt w B v (ps.map (·.1)) := by
  have hz : (ps.map (·.1)).zip (ps.map (·.2)) = ps := by
    rw [List.zip_map']
    simp
  rcases h.1.2 with ⟨rfl, hn⟩ | ⟨g, cap, cur, rfl, hb, hg, hc, hm, hs, ht⟩
  · have hp : ps = [] := List.eq_nil_of_length_eq_zero hn
    subst hp
    exact ⟨none, 0, [], rfl, Nat.le_refl _, by unfold maxLen; omega, rfl, fun j u hu => by simp [flatN] at hu, fun i n u hn => by simp at hn⟩
  · refine ⟨some ⟨g, 0, none⟩, cap, ps.map (·.2), by rw [List.length_map], by rw [List.length_map]; exact hc, hm, by simp, ?_, fun i n u hn hu => ?_⟩
    · rw [hz]; exact CellsAt.of_own h.1 hB
    · rw [List.getElem?_map] at hn hu
      cases hp : ps[i]? with
      | none => rw [hp] at hn; simp at hn
      | some p =>
        rw [hp] at hn hu
        simp only [Option.map_some, Option.some.injEq] at hn hu
        subst hn; subst hu
        have ho := h.2 p (List.mem_of_getElem? hp)
        rcases ho.2 with ⟨e, hn⟩ | ⟨g', cap', cur', e, hb', hg', hc', hm', hs', ht'⟩
        · rw [e]
          have hkk : p.1.kids = [] := List.eq_nil_of_length_eq_zero hn
          exact ⟨none, 0, by rw [hkk]; rfl, by rw [hkk]; exact Nat.le_refl _, by unfold maxLen; omega, fun j u hu => by rw [hkk] at hu; simp at hu⟩
        · rw [e] at ho ⊢
          exact ⟨_, _, rfl, hc', hm', CellsAt.of_own ho hB⟩
end

/-! ### A node that is being written -/

/-- Some children of the node in block N are written, and the numbers idx of some of them stand in its row ck. -/
structure Putting (F : Option Nat) (w0 : World) (v0 : Value) (lo N : Nat) (k f : Int) (ps news : List (Nd × Value)) (done : List Tr) (idx : List Int) (vk ck : Value) (w : World) : Prop where
  row : RowN w lo vk (ps ++ news)
  nds : news.map (·.1) = encL ps.length done
  fresh : ∀ p ∈ news, ∀ g, p.2.ownBlock = some g → w0.heap.size ≤ g
  node : Blk w N 50 #[.int .i64 k, ck, .int .i64 f]
  kids : w.ownsRow lo 3 1 ck idx.length (idx.map (Value.int .i64))
  apart : ∀ g, ck.ownBlock = some g → w0.heap.size ≤ g ∧ ∀ p ∈ ps ++ news, p.2.ownBlock ≠ some g
  kept : Kept F w0 v0 w vk
  ne : vk.ownBlock ≠ some N
  hN : w0.heap.size ≤ N
  hF : ∀ b, F = some b → b < w0.heap.size ∧ Blk w b 24 #[vk]
  hlo : lo ≤ w0.heap.size

/-- The tree's nodes are written behind those that were there. -/
structure PutDone (F : Option Nat) (w0 : World) (v0 : Value) (lo : Nat) (ps news : List (Nd × Value)) (T : Tr) (v' : Value) (w' : World) : Prop where
  row : RowN w' lo v' (ps ++ news)
  nds : news.map (·.1) = enc ps.length T
  fresh : ∀ p ∈ news, ∀ g, p.2.ownBlock = some g → w0.heap.size ≤ g
  kept : Kept F w0 v0 w' v'
  hF : ∀ b, F = some b → Blk w' b 24 #[v']

section
variable {F : Option Nat} {w0 w w1 w3 : World} {v0 vk ck v1 : Value} {lo N : Nat} {k f : Int} {ps news news1 : List (Nd × Value)} {done : List Tr} {idx : List Int} {T : Tr}

theorem Putting.drew (h : Putting F w0 v0 lo N k f ps news done idx vk ck w) : Putting F w0 v0 lo N k f ps news done idx vk ck w.drew :=
  ⟨h.row.far fun _ _ => rfl, h.nds, h.fresh, h.node, h.kids, h.apart, h.kept.drew, h.ne, h.hN, h.hF, h.hlo⟩

theorem Putting.start (hr : RowN w lo v0 ps) (hlo : lo ≤ w.heap.size) (hF : ∀ b, F = some b → Blk w b 24 #[v0]) :
    Putting F w v0 lo w.heap.size k f ps [] [] [] v0 (.slice none 0 0) (w.alloc (.cells #[.int .i64 k, .slice none 0 0, .int .i64 f] 50)) := by
  have hb : Below w.heap.size w (w.alloc (.cells #[.int .i64 k, .slice none 0 0, .int .i64 f] 50)) := (Below.refl _ _).alloc (Nat.le_refl _) _
  refine ⟨?_, rfl, by simp, Blk.new _ _ _, World.ownsRow_nil _ _ _ _, by simp [Value.ownBlock], Kept.of_below hb, fun e => ?_, Nat.le_refl _, fun b e => ?_, hlo⟩
  · rw [List.append_nil]
    refine hr.far fun g hg => ?_
    have hl : g < w.heap.size := by
      rcases hg with hg | ⟨p, hp, hg⟩
      · exact (hr.1.lt g hg).2
      · exact ((hr.2 p hp).lt g hg).2
    exact hb.block g hl
  · exact absurd (hr.1.lt _ e).2 (Nat.lt_irrefl _)
  · have := hF b e
    exact ⟨this.lt, this.below hb this.lt⟩

/-- Behind the call that writes one child more. -/
theorem Putting.call (h : Putting F w0 v0 lo N k f ps news done idx vk ck w) (d : PutDone F w vk lo (ps ++ news) news1 T v1 w1) :
    Putting F w0 v0 lo N k f ps (news ++ news1) (done ++ [T]) idx v1 ck w1 := by
  have hs := h.kept.size
  have hNl := h.node.lt
  have hsz := d.kept.size
  have hck : ck.ownBlock = none ∨ ∀ g, ck.ownBlock = some g → vk.ownBlock ≠ some g := .inr (own_ne h.kids h.row.1 (by decide))
  refine ⟨by rw [← List.append_assoc]; exact d.row, ?_, ?_, ?_, ?_, ?_, h.kept.trans d.kept, ?_, h.hN, fun b e => ⟨(h.hF b e).1, d.hF b e⟩, h.hlo⟩
  · have hl : news.length = sizeL done := by rw [← List.length_map (f := (·.1)), h.nds, encL_length]
    rw [List.map_append, h.nds, d.nds, encL_snoc, List.length_append, hl]
  · intro p hp g hg
    rcases List.mem_append.1 hp with hp | hp
    · exact h.fresh p hp g hg
    · exact Nat.le_trans hs (d.fresh p hp g hg)
  · refine (d.kept.block N hNl (fun e => ?_) h.ne).trans h.node
    have := (h.hF N e).1
    have := h.hN
    omega
  · exact d.kept.own h.kids (fun b e => (h.hF b e).2) (by decide) (.inr (own_ne h.kids h.row.1 (by decide)))
  · intro g hg
    refine ⟨(h.apart g hg).1, fun p hp => ?_⟩
    rw [← List.append_assoc] at hp
    rcases List.mem_append.1 hp with hp | hp
    · exact (h.apart g hg).2 p hp
    · intro e
      have h1 := d.fresh p hp g e
      have h2 := (h.kids.lt g hg).2
      omega
  · rcases d.kept.row with r | ⟨g, r, hl⟩
    · rw [r]; exact h.ne
    · rw [r]; intro e; injection e with e; omega

/-- Behind the append of a child's number, and the store of the row. -/
theorem Putting.step {i : Int} {gg cap : Nat} (h : Putting F w0 v0 lo N k f ps news done idx vk ck w1)
    (hown : w3.ownsRow lo 3 1 (.slice (some ⟨gg, 0, none⟩) (idx.length + 1) cap) (idx.length + 1) (idx.map (Value.int .i64) ++ [.int .i64 i]))
    (hg : (w1.alloc (.cells #[.int .i64 i] 3)).grownBy w3 ck.ownBlock) (hat : ck.ownBlock = some gg ∨ gg = w1.heap.size + 1) :
    Putting F w0 v0 lo N k f ps news done (idx ++ [i]) vk (.slice (some ⟨gg, 0, none⟩) (idx.length + 1) cap) (w3.setCell ⟨N, 1, none⟩ (.slice (some ⟨gg, 0, none⟩) (idx.length + 1) cap)) := by
  have hs := h.kept.size
  have hNl := h.node.lt
  have hs3 := hg.size
  simp only [World.size_alloc] at hs3
  have hNck : ck.ownBlock ≠ some N := own_ne_blk h.kids h.node (by decide)
  have hNg : N ≠ gg := by
    rintro rfl
    rcases hat with e | e
    · exact hNck e
    · omega
  have hk : ∀ g, g < w1.heap.size → ck.ownBlock ≠ some g → g ≠ N → (w3.setCell ⟨N, 1, none⟩ (.slice (some ⟨gg, 0, none⟩) (idx.length + 1) cap)).heap[g]? = w1.heap[g]? := by
    intro g hl hne hgb
    rw [Below.heap_setCell _ _ _ _ hgb, hg.block g (by simp; omega) (Ne.symm hne), Below.heap_alloc _ _ _ hl]
  have hckv := own_ne h.kids h.row.1 (by decide)
  refine ⟨?_, h.nds, h.fresh, ?_, ?_, ?_, ?_, h.ne, h.hN, ?_, h.hlo⟩
  · refine h.row.far fun g hgg => ?_
    rcases hgg with hgv | ⟨p, hp, hgp⟩
    · exact hk g (h.row.1.lt g hgv).2 (fun e => hckv g e hgv) (fun e => h.ne (e ▸ hgv))
    · refine hk g ((h.row.2 p hp).lt g hgp).2 (fun e => (h.apart g e).2 p hp hgp) (fun e => ?_)
      exact own_ne_blk (h.row.2 p hp) h.node (by decide) (e ▸ hgp)
  · have : Blk w3 N 50 #[.int .i64 k, ck, .int .i64 f] := (hg.block N (by simp; omega) (Ne.symm hNck)).trans ((Below.heap_alloc _ _ _ hNl).trans h.node)
    exact this.set_ 1 _
  · rw [List.length_append, List.map_append]
    refine own_far hown fun g hgv => ?_
    have : gg = g := by simpa [Value.ownBlock] using hgv
    subst this
    exact Below.heap_setCell _ _ _ _ (Ne.symm hNg)
  · intro g hgv
    have : gg = g := by simpa [Value.ownBlock] using hgv
    subst this
    rcases hat with e | e
    · exact h.apart _ e
    · refine ⟨by omega, fun p hp e' => ?_⟩
      have := ((h.row.2 p hp).lt _ e').2
      omega
  · refine ⟨hg.os.trans h.kept.os, hg.tape.trans h.kept.tape, hg.output.trans h.kept.output, by simp [World.setCell]; omega, fun g hl hF hv => ?_, h.kept.row⟩
    rw [hk g (by omega) (fun e => by have := (h.apart g e).1; omega) (by have := h.hN; omega)]
    exact h.kept.block g hl hF hv
  · intro b e
    obtain ⟨h1, h2⟩ := h.hF b e
    refine ⟨h1, (hk b (by omega) (fun e' => ?_) (by have := h.hN; omega)).trans h2⟩
    have := (h.apart b e').1
    omega

/-- The node itself is appended (and the row stored in block F, if any). -/
theorem Putting.last {gg cap : Nat} {w4 : World} (h : Putting F w0 v0 lo N k f ps news T.kids (idxL ps.length T.kids) vk ck w1) (hk : T.kind = k) (hf : T.fact = f)
    (hown : w3.ownsRow lo 50 3 (.slice (some ⟨gg, 0, none⟩) ((ps ++ news).length + 1) cap) ((ps ++ news).length + 1) (flatN (ps ++ news) ++ [.int .i64 k, ck, .int .i64 f]))
    (hg : (w1.alloc (.cells #[.int .i64 k, ck, .int .i64 f] 50)).grownBy w3 vk.ownBlock) (hat : vk.ownBlock = some gg ∨ gg = w1.heap.size + 1)
    (hos : w4.os = w3.os) (htape : w4.tape = w3.tape) (hout : w4.output = w3.output) (hsz : w4.heap.size = w3.heap.size) (hblk : ∀ g, F ≠ some g → w4.heap[g]? = w3.heap[g]?)
    (hF4 : ∀ b, F = some b → Blk w4 b 24 #[.slice (some ⟨gg, 0, none⟩) ((ps ++ news).length + 1) cap]) :
    PutDone F w0 v0 lo ps (news ++ [(⟨k, idxL ps.length T.kids, f⟩, ck)]) T (.slice (some ⟨gg, 0, none⟩) ((ps ++ news).length + 1) cap) w4 := by
  subst hk
  subst hf
  have hs := h.kept.size
  have hs3 := hg.size
  simp only [World.size_alloc] at hs3
  -- F's block is none of the rows
  have hFne : ∀ {E : TypeId} {base size n : Nat} {u : Value} {xs : List Value}, w1.ownsRow base E size u n xs → E ≠ 24 → ∀ g, u.ownBlock = some g → F ≠ some g := by
    intro E base size n u xs hu hE g hgu e
    exact own_ne_blk hu (h.hF g e).2 hE hgu
  have hggF : F ≠ some gg := by
    intro e
    obtain ⟨h1, h2⟩ := h.hF gg e
    rcases hat with e' | e'
    · exact own_ne_blk h.row.1 h2 (by decide) e'
    · omega
  have hold : ∀ g, g < w1.heap.size → vk.ownBlock ≠ some g → F ≠ some g → w4.heap[g]? = w1.heap[g]? := by
    intro g hl hne hF
    rw [hblk g hF, hg.block g (by simp; omega) (Ne.symm hne), Below.heap_alloc _ _ _ hl]
  have hkid : ∀ (q : Nd × Value), w1.ownsRow lo 3 1 q.2 q.1.kids.length (q.1.kids.map (Value.int .i64)) → w4.ownsRow lo 3 1 q.2 q.1.kids.length (q.1.kids.map (Value.int .i64)) := fun q hq =>
    own_far hq fun g hgu => hold g (hq.lt g hgu).2 (own_ne hq h.row.1 (by decide) g hgu) (hFne hq (by decide) g hgu)
  refine ⟨⟨?_, ?_⟩, ?_, ?_, ?_, hF4⟩
  · have e1 : (ps ++ (news ++ [((⟨T.kind, idxL ps.length T.kids, T.fact⟩ : Nd), ck)])).length = (ps ++ news).length + 1 := by rw [← List.append_assoc, List.length_append]; rfl
    have e2 : flatN (ps ++ (news ++ [((⟨T.kind, idxL ps.length T.kids, T.fact⟩ : Nd), ck)])) = flatN (ps ++ news) ++ [.int .i64 T.kind, ck, .int .i64 T.fact] := by rw [← List.append_assoc, flatN_append]; rfl
    rw [e1, e2]
    refine own_far hown fun g hgu => hblk g ?_
    have : gg = g := by simpa [Value.ownBlock] using hgu
    subst this
    exact hggF
  · intro p hp
    rw [← List.append_assoc] at hp
    rcases List.mem_append.1 hp with hp | hp
    · exact hkid p (h.row.2 p hp)
    · simp only [List.mem_singleton] at hp
      subst hp
      exact hkid (⟨T.kind, idxL ps.length T.kids, T.fact⟩, ck) h.kids
  · rw [List.map_append, h.nds, enc_kids]
    rfl
  · intro p hp g hgu
    rcases List.mem_append.1 hp with hp | hp
    · exact h.fresh p hp g hgu
    · simp only [List.mem_singleton] at hp
      subst hp
      exact (h.apart g hgu).1
  · refine ⟨hos.trans (hg.os.trans h.kept.os), htape.trans (hg.tape.trans h.kept.tape), hout.trans (hg.output.trans h.kept.output), by omega, fun g hl hF hv => ?_, ?_⟩
    · by_cases hvk : vk.ownBlock = some g
      · rcases h.kept.row with r | ⟨g', r, hl'⟩
        · exact absurd (r ▸ hvk) hv
        · rw [r] at hvk; injection hvk with hvk; omega
      · rw [hold g (by omega) hvk hF]
        exact h.kept.block g hl hF hv
    · rcases hat with e | e
      · rcases h.kept.row with r | ⟨g', r, hl'⟩
        · exact .inl (by rw [← r, e]; rfl)
        · exact .inr ⟨gg, rfl, by rw [r] at e; injection e with e; omega⟩
      · exact .inr ⟨gg, rfl, by omega⟩
end
end Go.Proofs.Ytdfbclkafocnpaa
