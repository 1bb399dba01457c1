/- Holds returns a slice whose first element says whether the formula is true for the list of states: for every right formula and every list of at most twenty states. -/
import Derived.Test.YtdfbclkafocnpaaSet
namespace Go.Proofs.Ytdfbclkafocnpaa
open Go.RowKit

theorem child_no (k at_ n : Int) (b5 b6 b8 : Nat) (w : World) (h5 : w.cell? ⟨b5, 0, none⟩ = some (.int .i64 n)) (h : ¬ at_ < n) :
    Calls Try.prog 52 #[.int .i64 k, .int .i64 at_, .pointer (some ⟨b5, 0, none⟩), .pointer (some ⟨b6, 0, none⟩), .pointer (some ⟨b8, 0, none⟩)] w fun e w' => e = .returned (.bool false) ∧ ∃ q, w' = w.drewN q := by
  have hd : decide (at_ < n) = false := by simpa using h
  go_enter Try.func52, Try.ntmps52
  go_wp2_with fail
  go_quiet (fail)
  go_wp2_with fail
  go_ret
  exact ⟨rfl, _, rfl⟩

theorem child_yes (v : Bool) (k at_ j n m len c cap cap' offA b5 b6 b8 bA TB g : Nat) (w : World) (h5 : w.cell? ⟨b5, 0, none⟩ = some (.int .i64 (n : Int))) (h6 : w.cell? ⟨b6, 0, none⟩ = some (.slice (some ⟨TB, 0, none⟩) m cap))
    (h8 : w.cell? ⟨b8, 1, none⟩ = some (.slice (some ⟨bA, offA, none⟩) len c)) (hA : w.cell? ⟨bA, offA + k, none⟩ = some (.int .i64 (j : Int))) (hT : w.cell? ⟨TB, j, none⟩ = some (.slice (some ⟨g, 0, none⟩) n cap')) (hg : w.cell? ⟨g, at_, none⟩ = some (.bool v))
    (hk : k < len) (hj : j < m) (ha : at_ < n) :
    Calls Try.prog 52 #[.int .i64 (k : Int), .int .i64 (at_ : Int), .pointer (some ⟨b5, 0, none⟩), .pointer (some ⟨b6, 0, none⟩), .pointer (some ⟨b8, 0, none⟩)] w fun e w' => e = .returned (.bool v) ∧ ∃ q, w' = w.drewN q := by
  have hd : decide ((at_ : Int) < (n : Int)) = true := by simp; omega
  have hk0 : (0 : Int) ≤ (k : Int) := Int.natCast_nonneg _
  have hk1 : (k : Int) < (len : Int) := by omega
  have hj0 : (0 : Int) ≤ (j : Int) := Int.natCast_nonneg _
  have hj1 : (j : Int) < (m : Int) := by omega
  have ha0 : (0 : Int) ≤ (at_ : Int) := Int.natCast_nonneg _
  have ha1 : (at_ : Int) < (n : Int) := by omega
  go_enter Try.func52, Try.ntmps52
  go_wp2_with fail
  go_quiet (fail)
  go_wp2_with fail
  go_ret
  exact ⟨rfl, _, rfl⟩

theorem Try.info59 : (Try.prog.info? 59).map (fun i => (i.zero, i.size, i.bytes)) = some (some (.slice none 0 0), 1, 24) := by kernel_rfl
theorem Try.info4 : (Try.prog.info? 4).map (fun i => (i.zero, i.size, i.bytes)) = some (some (.bool false), 1, 1) := by kernel_rfl

theorem blk_of_own {w : World} {base g n : Nat} {E : TypeId} {xs : List Value} (h : w.ownsRow base E 1 (.slice (some ⟨g, 0, none⟩) n n) n xs) : Blk w g E xs.toArray := by
  rcases h.2 with ⟨e, _⟩ | ⟨g', cap, cur, e, _, hg, _, _, hs, ht⟩
  · cases e
  · injection e with e1 e2 e3
    injection e1 with e1
    injection e1 with e1
    subst e1; subst e3
    have : xs.toArray = cur := by
      rw [← ht, List.take_of_length_le (by rw [Array.length_toList]; omega)]
    rw [this]
    exact hg

/-- The row of a formula's truth, from the last state on for the last c states. -/
def rowC (T : Tr) (ss : States) (c : Nat) : List Value := (List.range ss.length).map fun t => .bool (if ss.length - c ≤ t then sem T (ss.drop t) else false)

/-- The state of the loop over the nodes: the rows of the first i are there. -/
structure OSt (ns : List Nd) (ss : States) (tr : Nat → Tr) (w : World) (b5 b6 TB i : Nat) (tv : List Value) (wr : World) : Prop where
  nb : Blk wr b5 3 #[.int .i64 (ss.length : Int)]
  tb : Blk wr b6 72 #[.slice (some ⟨TB, 0, none⟩) ns.length ns.length]
  tab : Blk wr TB 59 tv.toArray
  tlen : tv.length = ns.length
  rows : ∀ j, j < i → ∃ g, tv[j]? = some (.slice (some ⟨g, 0, none⟩) ss.length ss.length) ∧ Blk wr g 4 (rowC (tr j) ss ss.length).toArray
  below : Below w.heap.size w wr

def ORel (ns : List Nd) (ss : States) (tr : Nat → Tr) (w : World) (b5 b6 TB : Nat) (i : Value) (wr : World) : Prop :=
  ∃ (k : Nat) (tv : List Value), i = .int .i64 k ∧ k ≤ ns.length ∧ OSt ns ss tr w b5 b6 TB k tv wr

/-- What Holds returns: a slice whose first cell says whether the formula is true. -/
def HoldsPost (T : Tr) (ss : States) (w : World) (e : Ending) (w' : World) : Prop :=
  ∃ g : Nat, e = .returned (.slice (some ⟨g, 0, none⟩) ss.length ss.length) ∧ w'.cell? ⟨g, 0, none⟩ = some (.bool (sem T ss)) ∧ Below w.heap.size w w'


theorem subAt_det {ns : List Nd} {S T : Tr} : ∀ {i : Nat}, SubAt ns i S → SubAt ns i T → S = T := by
  induction S generalizing T with
  | n0 k f =>
    intro i h g
    cases T with
    | n0 k' f' =>
      have h : ns[i]? = _ := h
      have g : ns[i]? = _ := g
      rw [h] at g
      simp at g
      rw [g.1, g.2]
    | n1 k' f' a' =>
      obtain ⟨ia, g1, _⟩ := g
      have h : ns[i]? = _ := h
      rw [h] at g1
      simp at g1
    | n2 k' f' a' b' =>
      obtain ⟨ia, ib, g1, _⟩ := g
      have h : ns[i]? = _ := h
      rw [h] at g1
      simp at g1
  | n1 k f a ih =>
    intro i h g
    obtain ⟨ia, h1, h2, h3⟩ := h
    cases T with
    | n0 k' f' =>
      have g : ns[i]? = _ := g
      rw [h1] at g
      simp at g
    | n1 k' f' a' =>
      obtain ⟨ia', g1, g2, g3⟩ := g
      rw [h1] at g1
      simp at g1
      obtain ⟨e1, e2, e3⟩ := g1
      have e2 : ia = ia' := by omega
      subst e2
      rw [ih h3 g3, e1, e3]
    | n2 k' f' a' b' =>
      obtain ⟨ia', ib', g1, _⟩ := g
      rw [h1] at g1
      simp at g1
  | n2 k f a c ih ih' =>
    intro i h g
    obtain ⟨ia, ic, h1, h2, h2', h3, h4⟩ := h
    cases T with
    | n0 k' f' =>
      have g : ns[i]? = _ := g
      rw [h1] at g
      simp at g
    | n1 k' f' a' =>
      obtain ⟨ia', g1, _⟩ := g
      rw [h1] at g1
      simp at g1
    | n2 k' f' a' c' =>
      obtain ⟨ia', ic', g1, g2, g2', g3, g4⟩ := g
      rw [h1] at g1
      simp at g1
      obtain ⟨e1, ⟨e2, e2'⟩, e3⟩ := g1
      have e2 : ia = ia' := by omega
      have e2' : ic = ic' := by omega
      subst e2; subst e2'
      rw [ih h3 g3, ih' h4 g4, e1, e3]

theorem rowC_length (T : Tr) (ss : States) (c : Nat) : (rowC T ss c).length = ss.length := by simp [rowC]
theorem rowC_at (T : Tr) (ss : States) (c t : Nat) (h : t < ss.length) : (rowC T ss c)[t]? = some (.bool (if ss.length - c ≤ t then sem T (ss.drop t) else false)) := by
  simp [rowC, h]
theorem rowC_done (T : Tr) (ss : States) (c t : Nat) (h : t < ss.length) (hc : ss.length - c ≤ t) : (rowC T ss c)[t]? = some (.bool (sem T (ss.drop t))) := by
  rw [rowC_at T ss c t h, if_pos hc]
theorem rowC_set (T : Tr) (ss : States) (c a : Nat) (h : a + c + 1 = ss.length) : (rowC T ss c).set a (.bool (sem T (ss.drop a))) = rowC T ss (c + 1) := by
  apply List.ext_getElem?
  intro t
  by_cases ht : t < ss.length
  · rw [rowC_at T ss (c + 1) t ht, List.getElem?_set]
    by_cases e : a = t
    · subst e
      rw [if_pos rfl, if_pos (by rw [rowC_length]; exact ht), if_pos (by omega)]
    · rw [if_neg e, rowC_at T ss c t ht]
      by_cases h1 : ss.length - c ≤ t
      · rw [if_pos h1, if_pos (by omega)]
      · rw [if_neg h1, if_neg (by omega)]
  · rw [List.getElem?_eq_none (by rw [List.length_set, rowC_length]; omega), List.getElem?_eq_none (by rw [rowC_length]; omega)]

/-- The state of the loop over the states: the truth of node i from the last c states on is there. -/
structure ISt (ns : List Nd) (ss : States) (tr : Nat → Tr) (w : World) (b5 b6 TB i : Nat) (tv : List Value) (b8 RG : Nat) (u : Value) (c : Nat) (wr : World) : Prop where
  o : OSt ns ss tr w b5 b6 TB i tv wr
  nd : Blk wr b8 50 #[.int .i64 (tr i).kind, u, .int .i64 (tr i).fact]
  row : Blk wr RG 4 (rowC (tr i) ss c).toArray
  far : ∀ j, j < i → ∀ g, tv[j]? = some (.slice (some ⟨g, 0, none⟩) ss.length ss.length) → g ≠ RG
  hRG : w.heap.size ≤ RG

def IRel (ns : List Nd) (ss : States) (tr : Nat → Tr) (w : World) (b5 b6 TB i : Nat) (tv : List Value) (b8 RG : Nat) (u : Value) (x : Value) (wr : World) : Prop :=
  ∃ c : Nat, x = .int .i64 ((ss.length : Int) - 1 - c) ∧ c ≤ ss.length ∧ ISt ns ss tr w b5 b6 TB i tv b8 RG u c wr

theorem ISt.drewN {ns : List Nd} {ss : States} {tr : Nat → Tr} {w wr : World} {b5 b6 TB i b8 RG c : Nat} {tv : List Value} {u : Value} (h : ISt ns ss tr w b5 b6 TB i tv b8 RG u c wr) (q : Nat) : ISt ns ss tr w b5 b6 TB i tv b8 RG u c (wr.drewN q) := by
  obtain ⟨⟨h1, h2, h3, h4, h5, h6⟩, h7, h8, h9, h10⟩ := h
  exact ⟨⟨h1, h2, h3, h4, h5, ⟨h6.os, h6.tape, h6.output, h6.size, h6.block⟩⟩, h7, h8, h9, h10⟩

/-- The truth at one state more is stored. -/
theorem ISt.next {ns : List Nd} {ss : States} {tr : Nat → Tr} {w wr : World} {b5 b6 TB i b8 RG c a : Nat} {tv : List Value} {u : Value} {v : Bool} (h : ISt ns ss tr w b5 b6 TB i tv b8 RG u c wr) (ha : a + c + 1 = ss.length) (hv : v = sem (tr i) (ss.drop a)) :
    ISt ns ss tr w b5 b6 TB i tv b8 RG u (c + 1) (wr.setCell ⟨RG, a, none⟩ (.bool v)) := by
  subst hv
  have hr := h.row
  refine ⟨⟨h.o.nb.far (h.o.nb.ne_ hr (by decide)) _, h.o.tb.far (h.o.tb.ne_ hr (by decide)) _, h.o.tab.far (h.o.tab.ne_ hr (by decide)) _, h.o.tlen, fun j hj => ?_, h.o.below.setCell (p := ⟨RG, a, none⟩) h.hRG _⟩, h.nd.far (h.nd.ne_ hr (by decide)) _, ?_, h.far, h.hRG⟩
  · obtain ⟨g, h1, h2⟩ := h.o.rows j hj
    exact ⟨g, h1, h2.far (h.far j hj g h1) _⟩
  · have := hr.set_ a (.bool (sem (tr i) (ss.drop a)))
    rw [← rowC_set _ _ _ _ ha]
    simpa using this

/-- The row is done: it is the node's. -/
theorem ISt.built {ns : List Nd} {ss : States} {tr : Nat → Tr} {w wr : World} {b5 b6 TB i b8 RG : Nat} {tv : List Value} {u : Value} (h : ISt ns ss tr w b5 b6 TB i tv b8 RG u ss.length wr) (hi : i < ns.length) (hTB : w.heap.size ≤ TB) :
    OSt ns ss tr w b5 b6 TB (i + 1) (tv.set i (.slice (some ⟨RG, 0, none⟩) ss.length ss.length)) (wr.setCell ⟨TB, i, none⟩ (.slice (some ⟨RG, 0, none⟩) ss.length ss.length)) := by
  have ht := h.o.tab
  refine ⟨h.o.nb.far (h.o.nb.ne_ ht (by decide)) _, h.o.tb.far (h.o.tb.ne_ ht (by decide)) _, ?_, by rw [List.length_set]; exact h.o.tlen, fun j hj => ?_, h.o.below.setCell (p := ⟨TB, i, none⟩) hTB _⟩
  · simpa using ht.set_ i (.slice (some ⟨RG, 0, none⟩) ss.length ss.length)
  · by_cases e : j = i
    · subst e
      exact ⟨RG, by rw [List.getElem?_set_self (by rw [h.o.tlen]; exact hi)], h.row.far (h.row.ne_ ht (by decide)) _⟩
    · obtain ⟨g, h1, h2⟩ := h.o.rows j (by omega)
      exact ⟨g, by rw [List.getElem?_set_ne (by omega)]; exact h1, h2.far (h2.ne_ ht (by decide)) _⟩

theorem ISt.start {ns : List Nd} {ss : States} {tr : Nat → Tr} {w wr w2 : World} {b5 b6 TB i : Nat} {tv : List Value} {u : Value} (h : OSt ns ss tr w b5 b6 TB i tv wr)
    (hown : w2.ownsRow 0 4 1 (.slice (some ⟨wr.heap.size + 1, 0, none⟩) ss.length ss.length) ss.length (madeCells (Value.cells (.bool false)) (ss.length * 1)).toList)
    (hg : (wr.alloc (.cells #[.int .i64 (tr i).kind, u, .int .i64 (tr i).fact] 50)).grownBy w2 none) :
    ISt ns ss tr w b5 b6 TB i tv wr.heap.size (wr.heap.size + 1) u 0 w2 := by
  have hb : Below wr.heap.size wr w2 := ((Below.refl _ _).alloc (Nat.le_refl _) _).grown hg (by simp) (fun g e => by cases e)
  have hs := hg.size
  rw [World.size_alloc] at hs
  have hw := h.below.size
  refine ⟨⟨h.nb.below hb h.nb.lt, h.tb.below hb h.tb.lt, h.tab.below hb h.tab.lt, h.tlen, fun j hj => ?_, h.below.trans (hb.mono hw)⟩, ?_, ?_, fun j hj g hgj => ?_, by omega⟩
  · obtain ⟨g, h1, h2⟩ := h.rows j hj
    exact ⟨g, h1, h2.below hb h2.lt⟩
  · exact (hg.block wr.heap.size (by rw [World.size_alloc]; omega) (by simp)).trans (Blk.new _ _ _)
  · have := blk_of_own hown
    rw [show Value.cells (.bool false) = #[.bool false] from rfl, toList_madeCells_one, Nat.mul_one] at this
    have e : rowC (tr i) ss 0 = List.replicate ss.length (.bool false) := by
      apply List.ext_getElem?
      intro t
      by_cases ht : t < ss.length
      · rw [rowC_at _ _ _ _ ht, if_neg (by omega)]
        simp [ht]
      · rw [List.getElem?_eq_none (by rw [rowC_length]; omega), List.getElem?_eq_none (by simp; omega)]
    rw [e]
    exact this
  · obtain ⟨g', h1, h2⟩ := h.rows j hj
    rw [hgj] at h1
    simp at h1
    have := h2.lt
    omega


theorem drop_cons {ss : States} {a : Nat} (h : a < ss.length) : ∃ s, ss.drop a = s :: ss.drop (a + 1) ∧ ss[a]? = some s := ⟨ss[a], by rw [← List.drop_eq_getElem_cons h], List.getElem?_eq_getElem h⟩

/-- A child's truth at a state, as the closure tells it. -/
theorem child_ct {ns : List Nd} {ss : States} {tr : Nat → Tr} {w wr : World} {b5 b6 TB i b8 RG c B c2 : Nat} {A2 : Option Addr} {tv : List Value} {js : List Nat} (h : ISt ns ss tr w b5 b6 TB i tv b8 RG (.slice A2 js.length c2) c wr)
    (hI : IntsAt w B (.slice A2 js.length c2) (js.map fun j : Nat => (j : Int))) (hB : B ≤ w.heap.size) (hi : i < ns.length) (q j t : Nat) (qi ti : Int) (hqi : qi = (q : Int)) (hti : ti = (t : Int)) (hq : js[q]? = some j) (hj : j < i) (ht : t < ss.length) :
    ∀ W : World, (∀ p, W.cell? p = wr.cell? p) → Calls Try.prog 52 #[.int .i64 qi, .int .i64 ti, .pointer (some ⟨b5, 0, none⟩), .pointer (some ⟨b6, 0, none⟩), .pointer (some ⟨b8, 0, none⟩)] W fun e w' => e = .returned (.bool (sem (tr j) (ss.drop t))) ∧ ∃ m, w' = W.drewN m := by
  intro W hW
  subst hqi
  subst hti
  obtain ⟨A', c', hv, _, _, hat⟩ := hI.form
  obtain ⟨bA, offA, e, hbA, hcell⟩ := hat q (j : Int) (by rw [List.getElem?_map, hq]; rfl)
  injection hv with hv1 hv2 hv3
  subst hv1
  subst e
  obtain ⟨g, hg1, hg2⟩ := h.o.rows j hj
  refine child_yes (sem (tr j) (ss.drop t)) q t j ss.length ns.length js.length c2 ns.length ss.length offA b5 b6 b8 bA TB g W ?_ ?_ ?_ ?_ ?_ ?_ (List.getElem?_eq_some_iff.1 hq).1 (by omega) ht
  · rw [hW]; exact h.o.nb.cell 0
  · rw [hW]; exact h.o.tb.cell 0
  · rw [hW]; exact h.nd.cell 1
  · rw [hW]; exact (h.o.below.cell (p := ⟨bA, offA + q, none⟩) (Nat.lt_of_lt_of_le hbA hB)).trans hcell
  · rw [hW]; refine (h.o.tab.cell j).trans ?_; simpa using hg1
  · rw [hW]
    refine (hg2.cell t).trans ?_
    have := rowC_done (tr j) ss ss.length t ht (by omega)
    simpa using this
theorem child_ct_no {ns : List Nd} {ss : States} {tr : Nat → Tr} {w wr : World} {b5 b6 TB i b8 RG c : Nat} {u : Value} {tv : List Value} (h : ISt ns ss tr w b5 b6 TB i tv b8 RG u c wr) (qi ti : Int) (ht : ¬ ti < (ss.length : Int)) :
    ∀ W : World, (∀ p, W.cell? p = wr.cell? p) → Calls Try.prog 52 #[.int .i64 qi, .int .i64 ti, .pointer (some ⟨b5, 0, none⟩), .pointer (some ⟨b6, 0, none⟩), .pointer (some ⟨b8, 0, none⟩)] W fun e w' => e = .returned (.bool false) ∧ ∃ m, w' = W.drewN m :=
  fun W hW => child_no qi ti ss.length b5 b6 b8 W (by rw [hW]; exact h.o.nb.cell 0) ht


theorem ok_cases {facts : Int} {T : Tr} (h : T.ok facts) : (∃ f, T = .n0 1 f) ∨ (∃ f, T = .n0 2 f) ∨ (∃ f x, T = .n1 3 f x) ∨ (∃ f x y, T = .n2 4 f x y) ∨ (∃ f x y, T = .n2 5 f x y) ∨ (∃ f x, T = .n1 6 f x) ∨ (∃ f x y, T = .n2 7 f x y) ∨ (∃ f x, T = .n1 8 f x) ∨ (∃ f x, T = .n1 9 f x) := by
  cases T with
  | n0 k f =>
    rcases h with rfl | ⟨rfl, _⟩
    · exact .inl ⟨f, rfl⟩
    · exact .inr (.inl ⟨f, rfl⟩)
  | n1 k f x =>
    obtain ⟨rfl | rfl | rfl | rfl, _⟩ := h
    · exact .inr (.inr (.inl ⟨f, x, rfl⟩))
    · exact .inr (.inr (.inr (.inr (.inr (.inl ⟨f, x, rfl⟩)))))
    · exact .inr (.inr (.inr (.inr (.inr (.inr (.inr (.inl ⟨f, x, rfl⟩)))))))
    · exact .inr (.inr (.inr (.inr (.inr (.inr (.inr (.inr ⟨f, x, rfl⟩)))))))
  | n2 k f x y =>
    obtain ⟨rfl | rfl | rfl, _⟩ := h
    · exact .inr (.inr (.inr (.inl ⟨f, x, y, rfl⟩)))
    · exact .inr (.inr (.inr (.inr (.inl ⟨f, x, y, rfl⟩))))
    · exact .inr (.inr (.inr (.inr (.inr (.inr (.inl ⟨f, x, y, rfl⟩))))))

theorem kid1 {ns : List Nd} {k : Nat} {K f0 kd f : Int} {js : List Nat} {x : Tr} (hn : ns[k]? = some ⟨K, js.map (fun j : Nat => (j : Int)), f0⟩) (hs : SubAt ns k (.n1 kd f x)) : ∃ ia, js[0]? = some ia ∧ ia < k ∧ SubAt ns ia x := by
  obtain ⟨ia, h1, h2, h3⟩ := hs
  rw [hn] at h1
  simp only [Option.some.injEq, Nd.mk.injEq] at h1
  obtain ⟨_, h1, _⟩ := h1
  match js, h1 with
  | [j], h1 =>
    simp at h1
    have h1 : j = ia := by omega
    subst h1
    exact ⟨j, rfl, h2, h3⟩
theorem kid2 {ns : List Nd} {k : Nat} {K f0 kd f : Int} {js : List Nat} {x y : Tr} (hn : ns[k]? = some ⟨K, js.map (fun j : Nat => (j : Int)), f0⟩) (hs : SubAt ns k (.n2 kd f x y)) :
    ∃ ia ic, js[0]? = some ia ∧ js[1]? = some ic ∧ ia < k ∧ ic < k ∧ SubAt ns ia x ∧ SubAt ns ic y := by
  obtain ⟨ia, ic, h1, h2, h3, h4, h5⟩ := hs
  rw [hn] at h1
  simp only [Option.some.injEq, Nd.mk.injEq] at h1
  obtain ⟨_, h1, _⟩ := h1
  match js, h1 with
  | [j, j'], h1 =>
    simp at h1
    obtain ⟨e1, e2⟩ := h1
    have e1 : j = ia := by omega
    have e2 : j' = ic := by omega
    subst e1
    subst e2
    exact ⟨j, j', rfl, rfl, h2, h3, h4, h5⟩

theorem sem1 (f : Int) (ss : States) : sem (.n0 1 f) ss = true := by simp [sem]
theorem sem2 (f : Int) (s : List Int) (r : States) : sem (.n0 2 f) (s :: r) = s.contains f := by simp [sem, factL]
theorem sem3 (f : Int) (x : Tr) (ss : States) : sem (.n1 3 f x) ss = !sem x ss := by simp [sem]
theorem sem4 (f : Int) (x y : Tr) (ss : States) : sem (.n2 4 f x y) ss = (sem x ss && sem y ss) := by simp [sem]
theorem sem5 (f : Int) (x y : Tr) (ss : States) : sem (.n2 5 f x y) ss = (sem x ss || sem y ss) := by simp [sem]
theorem sem6n (f : Int) (x : Tr) (s : List Int) : sem (.n1 6 f x) [s] = false := by simp [sem, nextL]
theorem sem6c (f : Int) (x : Tr) (s t : List Int) (r : States) : sem (.n1 6 f x) (s :: t :: r) = sem x (t :: r) := by simp [sem, nextL]
theorem sem7n (f : Int) (x y : Tr) : sem (.n2 7 f x y) [] = false := by simp [sem, untilL]
theorem sem7c (f : Int) (x y : Tr) (s : List Int) (r : States) : sem (.n2 7 f x y) (s :: r) = (sem y (s :: r) || (sem x (s :: r) && sem (.n2 7 f x y) r)) := by simp [sem, untilL]
theorem sem8n (f : Int) (x : Tr) : sem (.n1 8 f x) [] = true := by simp [sem, alwaysL]
theorem sem8c (f : Int) (x : Tr) (s : List Int) (r : States) : sem (.n1 8 f x) (s :: r) = (sem x (s :: r) && sem (.n1 8 f x) r) := by simp [sem, alwaysL]
theorem sem9n (f : Int) (x : Tr) : sem (.n1 9 f x) [] = false := by simp [sem, sometimeL]
theorem sem9c (f : Int) (x : Tr) (s : List Int) (r : States) : sem (.n1 9 f x) (s :: r) = (sem x (s :: r) || sem (.n1 9 f x) r) := by simp [sem, sometimeL]

set_option maxHeartbeats 40000000 in
set_option maxRecDepth 100000 in
theorem holds_any (ns : List Nd) (ss : States) (tr : Nat → Tr) (facts : Int) (A : Option Addr) (c : Nat) (vs : Value) (w : World) (B : Nat) (hl1 : 0 < ns.length) (hl2 : ns.length ≤ 60) (hs1 : 0 < ss.length) (hs2 : ss.length ≤ 20)
    (hN : NodesAt w B (.slice A ns.length c) ns) (hS : StatesAt w B vs ss) (hB : B ≤ w.heap.size) (htr : ∀ j, j < ns.length → SubAt ns j (tr j) ∧ (tr j).ok facts) :
    Calls Try.prog 46 #[.agg #[.slice A ns.length c], vs] w (HoldsPost (tr (ns.length - 1)) ss w) := by
  obtain ⟨A', c', hv, hc1, hc2, hat⟩ := hN.form
  injection hv with hA hm hc
  subst hA; subst hc
  obtain ⟨A3, c3, rfl, hc31, hc32, hsat⟩ := hS.form
  unfold maxLen at hc2 hc32
  have HAT := Lib.hid hat
  have HSAT := Lib.hid hsat
  have HTR := Lib.hid htr
  clear hat hm hsat htr
  obtain ⟨i0, hi0, hz0, hz1, hz2⟩ := info_parts Try.info59
  obtain ⟨j0, hj0, hy0, hy1, hy2⟩ := info_parts Try.info4
  have hby : i0.bytes * ns.length ≤ 281474976710656 := by rw [hz2]; omega
  have hby2 : j0.bytes * ss.length ≤ 281474976710656 := by rw [hy2]; omega
  have hmx : ns.length ≤ maxLen := by unfold maxLen; omega
  have hmx2 : ss.length ≤ maxLen := by unfold maxLen; omega
  go_enter Try.func46, Try.ntmps46
  go_wp2_with (at_make; refine wpList_make_full _ rfl _ _ _ rfl (w.heap.size + 2) 59 i0 _ 1 Try.underlying72 hi0 hz0 hz1 .i64 .i64 _ _ ns.length rfl rfl rfl rfl hby hmx (by simp) ?_; intro w1 hown hgrow; have hsz1 := hgrow.size; have cb0 := hgrow.cell (a := ⟨w.heap.size, 0, none⟩) (v := .slice A ns.length c) (by simp) (by simp); have cb1 := hgrow.cell (a := ⟨w.heap.size + 1, 0, none⟩) (v := .int .i64 (ss.length : Int)) (by simp) (by simp); have hlb : w.heap.size < w1.heap.size := by simp at hsz1; omega)
  simp only [World.size_alloc] at hsz1
  have hst : OSt ns ss tr w (w.heap.size + 1) w1.heap.size (w.heap.size + 2) 0 (List.replicate ns.length (.slice none 0 0)) (w1.alloc (.cells #[.slice (some ⟨w.heap.size + 1 + 1, 0, none⟩) ns.length ns.length] 72)) := by
    have hrow : Blk w1 (w.heap.size + 2) 59 (List.replicate ns.length (.slice none 0 0)).toArray := by
      have := blk_of_own hown
      simp only [World.size_alloc] at this
      rw [show Value.cells (.slice none 0 0) = #[.slice none 0 0] from rfl, toList_madeCells_one, Nat.mul_one] at this
      exact this
    have hnb : Blk w1 (w.heap.size + 1) 3 #[.int .i64 (ss.length : Int)] := by
      refine (hgrow.block _ (by simp) (by simp)).trans ?_
      have := Blk.new (w.alloc (.cells #[.slice A ns.length c] 24)) 3 #[.int .i64 (ss.length : Int)]
      rw [World.size_alloc] at this
      exact this
    refine ⟨hnb.alloc _, Blk.new _ _ _, hrow.alloc _, by simp, fun j hj => absurd hj (Nat.not_lt_zero _), ?_⟩
    exact ((((Below.refl _ w).alloc (Nat.le_refl _) _).alloc (by simp) _).grown hgrow (by simp; omega) (fun g e => by cases e)).alloc (by omega) _
  have HST := Lib.hid hst
  clear hst hown hgrow
  obtain ⟨b5, hb5⟩ : ∃ b5, w.heap.size + 1 = b5 := ⟨_, rfl⟩
  obtain ⟨b6, hb6⟩ : ∃ b6, w1.heap.size = b6 := ⟨_, rfl⟩
  rw [hb5] at HST ⊢
  rw [hb6] at HST ⊢
  have hTBw : w.heap.size ≤ w.heap.size + 2 := by omega
  have HB5 := Lib.hid hb5
  clear hb5 hb6
  go_loopw [22] (ORel ns ss tr w b5 b6 (w.heap.size + 2)) (fun i _ => ns.length - (intOf i).toNat)
  case atStart => exact ⟨0, _, rfl, Nat.zero_le _, HST.out⟩
  case round =>
    obtain ⟨k, tv, rfl, hk, hP⟩ := hrel
    by_cases hlt : k < ns.length
    · obtain ⟨hsub, hok⟩ := HTR.out k hlt
      obtain ⟨js, hn, hjs, hsk⟩ := hsub.open_
      obtain ⟨b, off, u, rfl, hbB, k0, k1, k2, hI⟩ := HAT.out k _ hn
      have hIw := hI
      obtain ⟨A2, c2, rfl, hlk, hc22, hkid⟩ := hI.form
      have hszw := hP.below.size
      have k0r : wr.cell? ⟨b, off + k * 3, none⟩ = some (.int .i64 (tr k).kind) := cell_later hP.below k0
      have k1r : wr.cell? ⟨b, off + k * 3 + 1, none⟩ = some (.slice A2 (js.map fun j : Nat => (j : Int)).length c2) := cell_later hP.below k1
      have k2r : wr.cell? ⟨b, off + k * 3 + 2, none⟩ = some (.int .i64 (tr k).fact) := cell_later hP.below k2
      have hbr : b < wr.heap.size := by omega
      have cn5 : wr.cell? ⟨b5, 0, none⟩ = some (.int .i64 (ss.length : Int)) := hP.nb.cell 0
      have ln5 := hP.nb.lt
      have cn6 : wr.cell? ⟨b6, 0, none⟩ = some (.slice (some ⟨w.heap.size + 2, 0, none⟩) ns.length ns.length) := hP.tb.cell 0
      have ln6 := hP.tb.lt
      unfold maxLen at hc22
      rw [List.length_map] at k1r hlk hIw
      obtain ⟨wo, rfl⟩ : ∃ wo : World, wo = wr := ⟨_, rfl⟩
      have HP := Lib.hid hP
      have HN := Lib.hid hn
      have HK := Lib.hid hkid
      have HIW := Lib.hid hIw
      have HJS := Lib.hid hjs
      have HSK := Lib.hid hsk
      clear hP hn hkid hI hIw k0 k1 k2 hjs hsk
      go_wp2_with (at_make; refine wpList_make_full _ rfl _ _ _ rfl 0 4 j0 _ 1 Try.underlying59 hj0 hy0 hy1 .i64 .i64 _ _ ss.length rfl rfl rfl rfl hby2 hmx2 (Nat.zero_le _) ?_; intro w2 hown2 hgrow2; have cq5 := hgrow2.cell (a := ⟨b5, 0, none⟩) (v := .int .i64 (ss.length : Int)) (by rw [World.cell?_alloc_lt _ _ _ (by exact ln5)]; exact cn5) (by simp); have cq6 := hgrow2.cell (a := ⟨b6, 0, none⟩) (v := .slice (some ⟨w.heap.size + 2, 0, none⟩) ns.length ns.length) (by rw [World.cell?_alloc_lt _ _ _ (by exact ln6)]; exact cn6) (by simp))
      have hI2 : ISt ns ss tr w b5 b6 (w.heap.size + 2) k tv wo.heap.size (wo.heap.size + 1) (.slice A2 js.length c2) 0 w2 := ISt.start HP.out (by rw [World.size_alloc] at hown2; exact hown2) hgrow2
      have HI2 := Lib.hid hI2
      clear hI2 hown2 hgrow2 cq5 cq6 cn5 cn6 ln5 ln6 k0r k1r k2r hbr
      generalize wo.heap.size + 1 = RG at HI2 ⊢
      generalize wo.heap.size = b8 at HI2 ⊢
      go_loopw [11] (IRel ns ss tr w b5 b6 (w.heap.size + 2) k tv b8 RG (.slice A2 js.length c2)) (fun x _ => (intOf x + 1).toNat)
      case atStart => exact ⟨0, by simp, Nat.zero_le _, HI2.out⟩
      case round =>
        obtain ⟨c', rfl, hcl, hI⟩ := hrel
        by_cases hc : c' < ss.length
        · obtain ⟨a, ha⟩ : ∃ a : Nat, a + c' + 1 = ss.length := ⟨ss.length - 1 - c', by omega⟩
          have hai : ((ss.length : Int) - 1 - c') = (a : Int) := by omega
          have hal : a < ss.length := by omega
          rw [hai]
          obtain ⟨sa, hsa, hsa2⟩ := drop_cons hal
          have cn5 : wr.cell? ⟨b5, 0, none⟩ = some (.int .i64 (ss.length : Int)) := hI.o.nb.cell 0
          have d0 : wr.cell? ⟨b8, 0, none⟩ = some (.int .i64 (tr k).kind) := hI.nd.cell 0
          have d2 : wr.cell? ⟨b8, 2, none⟩ = some (.int .i64 (tr k).fact) := hI.nd.cell 2
          have ra : wr.cell? ⟨RG, a, none⟩ = some (.bool (if ss.length - c' ≤ a then sem (tr k) (ss.drop a) else false)) := by
            refine (hI.row.cell a).trans ?_
            have := rowC_at (tr k) ss c' a hal
            simpa using this
          have rf := hI.row.frozen a
          have ha0 : (0 : Int) ≤ (a : Int) := Int.natCast_nonneg a
          have ha1 : (a : Int) < (ss.length : Int) := by omega
          have ha2 : (a : Int) + 1 ≤ (ss.length : Int) := by omega
          have HA := Lib.hid ha
          have HSA := Lib.hid hsa
          have HSA2 := Lib.hid hsa2
          have HAI := Lib.hid hai
          have HI := Lib.hid hI
          clear hI ha hsa hsa2 hai
          generalize hkd : (tr k).kind = kd at d0 ⊢
          have HKD := Lib.hid hkd
          clear hkd
          by_cases hc0 : c' = 0
          · have hL : decide ((a : Int) + 1 < (ss.length : Int)) = false := by have := HA.out; simp; omega
            have hL2 : ¬ ((a : Int) + 1 < (ss.length : Int)) := by simpa using hL
            have hE : ((a : Int) == (ss.length : Int) - 1) = true := by have := HA.out; simp; omega
            rcases ok_cases hok with ⟨f, hT⟩ | ⟨f, hT⟩ | ⟨f, x, hT⟩ | ⟨f, x, y, hT⟩ | ⟨f, x, y, hT⟩ | ⟨f, x, hT⟩ | ⟨f, x, y, hT⟩ | ⟨f, x, hT⟩ | ⟨f, x, hT⟩
            · as_aux_lemma =>
                have hkv : kd = 1 := by rw [← HKD.out, hT]; rfl
                subst hkv
                have hnil : ss.drop (a + 1) = [] := List.drop_eq_nil_of_le (by have := HA.out; omega)
                have hsem : sem (tr k) (ss.drop a) = true := by rw [hT, sem1]
                have HS := Lib.hid hsem
                clear hT hsem  hnil
                go_wp2_with fail
                go_roundw
                case rel => exact ⟨c' + 1, by rw [show ((ss.length : Int) - 1 - (c' + 1 : Nat)) = (a : Int) - 1 from by have := HAI.out; omega], by omega, HI.out.next HA.out (by rw [HS.out])⟩
                case measure => simp [intOf]
            · as_aux_lemma =>
                have hkv : kd = 2 := by rw [← HKD.out, hT]; rfl
                subst hkv
                have hnil : ss.drop (a + 1) = [] := List.drop_eq_nil_of_le (by have := HA.out; omega)
                have hsem : sem (tr k) (ss.drop a) = sa.contains (tr k).fact := by rw [hT, HSA.out, sem2]; rfl
                have HS := Lib.hid hsem
                clear hT hsem  hnil
                obtain ⟨bs, offs, us, rfl, hbs, hcs, his⟩ := HSAT.out a sa HSA2.out
                have hcon := contains_any sa (tr k).fact us B
                obtain ⟨Au, cu, rfl, _, _, _⟩ := his.form
                have hsc : wr.cell? ⟨bs, offs + a, none⟩ = some (.slice Au sa.length cu) := cell_later HI.out.o.below hcs
                have hisr : IntsAt wr.drew B (.slice Au sa.length cu) sa := his.below ((HI.out.o.below.mono hB).drew) (Nat.le_refl _)
                have HCON := Lib.hid hcon
                have HISR := Lib.hid hisr
                clear hcon hcs hbs his hisr
                go_wp2_with fail
                go_region_law (go_simp; go_at_call 53; refine (HCON.out wr.drew HISR.out).mono ?_; rintro e w' ⟨rfl, rfl⟩)
                all_goals
                  go_wp2_with fail
                  go_roundw
                  case rel => exact ⟨c' + 1, by rw [show ((ss.length : Int) - 1 - (c' + 1 : Nat)) = (a : Int) - 1 from by have := HAI.out; omega], by omega, (HI.out.drewN 1).next HA.out (by rw [HS.out, List.contains_eq_mem])⟩
                  case measure => simp [intOf]
            · as_aux_lemma =>
                have hkv : kd = 3 := by rw [← HKD.out, hT]; rfl
                subst hkv
                have hnil : ss.drop (a + 1) = [] := List.drop_eq_nil_of_le (by have := HA.out; omega)
                obtain ⟨ia, hq0, hia, hsx⟩ := kid1 HN.out (by rw [← hT]; exact hsub)
                have hx : tr ia = x := subAt_det (HTR.out ia (by omega)).1 hsx
                have hct := child_ct HI.out HIW.out hB hlt 0 ia a 0 (a : Int) rfl rfl hq0 hia hal
                rw [hx] at hct
                have hsem : sem (tr k) (ss.drop a) = !sem x (ss.drop a) := by rw [hT, sem3]
                have HS := Lib.hid hsem
                have HC0 := Lib.hid hct
                clear hT hsem hq0 hia hsx hx hct hnil
                go_wp2_with fail
                refine (HC0.out wr (fun _ => rfl)).mono ?_
                rintro e w' ⟨rfl, q, rfl⟩
                go_wp2_with fail
                go_roundw
                case rel => exact ⟨c' + 1, by rw [show ((ss.length : Int) - 1 - (c' + 1 : Nat)) = (a : Int) - 1 from by have := HAI.out; omega], by omega, (HI.out.drewN _).next HA.out (by rw [HS.out])⟩
                case measure => simp [intOf]
            · as_aux_lemma =>
                have hkv : kd = 4 := by rw [← HKD.out, hT]; rfl
                subst hkv
                have hnil : ss.drop (a + 1) = [] := List.drop_eq_nil_of_le (by have := HA.out; omega)
                obtain ⟨ia, ic, hq0, hq1, hia, hic, hsx, hsy⟩ := kid2 HN.out (by rw [← hT]; exact hsub)
                have hx : tr ia = x := subAt_det (HTR.out ia (by omega)).1 hsx
                have hy : tr ic = y := subAt_det (HTR.out ic (by omega)).1 hsy
                have hct := child_ct HI.out HIW.out hB hlt 0 ia a 0 (a : Int) rfl rfl hq0 hia hal
                have hct1 := child_ct HI.out HIW.out hB hlt 1 ic a 1 (a : Int) rfl rfl hq1 hic hal
                rw [hx] at hct
                rw [hy] at hct1
                have hsem : sem (tr k) (ss.drop a) = (sem x (ss.drop a) && sem y (ss.drop a)) := by rw [hT, sem4]
                have HS := Lib.hid hsem
                have HC0 := Lib.hid hct
                have HC1 := Lib.hid hct1
                clear hT hsem hq0 hq1 hia hic hsx hsy hx hy hct hct1 hnil
                have hf := HC0.out
                cases hX : sem x (ss.drop a)
                all_goals
                  rw [hX] at hf
                  have HX := Lib.hid hX
                  have HF := Lib.hid hf
                  clear hX hf
                · go_wp2_with fail
                  refine (HF.out wr (fun _ => rfl)).mono ?_
                  rintro e w' ⟨rfl, q, rfl⟩
                  go_wp2_with fail
                  go_roundw
                  case rel => exact ⟨c' + 1, by rw [show ((ss.length : Int) - 1 - (c' + 1 : Nat)) = (a : Int) - 1 from by have := HAI.out; omega], by omega, (HI.out.drewN _).next HA.out (by rw [HS.out, HX.out]; rfl)⟩
                  case measure => simp [intOf]
                · go_wp2_with fail
                  refine (HF.out wr (fun _ => rfl)).mono ?_
                  rintro e w' ⟨rfl, q, rfl⟩
                  go_wp2_with fail
                  refine (HC1.out (wr.drewN q) (fun _ => rfl)).mono ?_
                  rintro e w' ⟨rfl, q2, rfl⟩
                  go_wp2_with fail
                  go_roundw
                  case rel => exact ⟨c' + 1, by rw [show ((ss.length : Int) - 1 - (c' + 1 : Nat)) = (a : Int) - 1 from by have := HAI.out; omega], by omega, (HI.out.drewN _).next HA.out (by rw [HS.out, HX.out]; rfl)⟩
                  case measure => simp [intOf]
            · as_aux_lemma =>
                have hkv : kd = 5 := by rw [← HKD.out, hT]; rfl
                subst hkv
                have hnil : ss.drop (a + 1) = [] := List.drop_eq_nil_of_le (by have := HA.out; omega)
                obtain ⟨ia, ic, hq0, hq1, hia, hic, hsx, hsy⟩ := kid2 HN.out (by rw [← hT]; exact hsub)
                have hx : tr ia = x := subAt_det (HTR.out ia (by omega)).1 hsx
                have hy : tr ic = y := subAt_det (HTR.out ic (by omega)).1 hsy
                have hct := child_ct HI.out HIW.out hB hlt 0 ia a 0 (a : Int) rfl rfl hq0 hia hal
                have hct1 := child_ct HI.out HIW.out hB hlt 1 ic a 1 (a : Int) rfl rfl hq1 hic hal
                rw [hx] at hct
                rw [hy] at hct1
                have hsem : sem (tr k) (ss.drop a) = (sem x (ss.drop a) || sem y (ss.drop a)) := by rw [hT, sem5]
                have HS := Lib.hid hsem
                have HC0 := Lib.hid hct
                have HC1 := Lib.hid hct1
                clear hT hsem hq0 hq1 hia hic hsx hsy hx hy hct hct1 hnil
                have hf := HC0.out
                cases hX : sem x (ss.drop a)
                all_goals
                  rw [hX] at hf
                  have HX := Lib.hid hX
                  have HF := Lib.hid hf
                  clear hX hf
                · go_wp2_with fail
                  refine (HF.out wr (fun _ => rfl)).mono ?_
                  rintro e w' ⟨rfl, q, rfl⟩
                  go_wp2_with fail
                  refine (HC1.out (wr.drewN q) (fun _ => rfl)).mono ?_
                  rintro e w' ⟨rfl, q2, rfl⟩
                  go_wp2_with fail
                  go_roundw
                  case rel => exact ⟨c' + 1, by rw [show ((ss.length : Int) - 1 - (c' + 1 : Nat)) = (a : Int) - 1 from by have := HAI.out; omega], by omega, (HI.out.drewN _).next HA.out (by rw [HS.out, HX.out]; rfl)⟩
                  case measure => simp [intOf]
                · go_wp2_with fail
                  refine (HF.out wr (fun _ => rfl)).mono ?_
                  rintro e w' ⟨rfl, q, rfl⟩
                  go_wp2_with fail
                  go_roundw
                  case rel => exact ⟨c' + 1, by rw [show ((ss.length : Int) - 1 - (c' + 1 : Nat)) = (a : Int) - 1 from by have := HAI.out; omega], by omega, (HI.out.drewN _).next HA.out (by rw [HS.out, HX.out]; rfl)⟩
                  case measure => simp [intOf]
            · as_aux_lemma =>
                have hkv : kd = 6 := by rw [← HKD.out, hT]; rfl
                subst hkv
                have hnil : ss.drop (a + 1) = [] := List.drop_eq_nil_of_le (by have := HA.out; omega)
                obtain ⟨ia, hq0, hia, hsx⟩ := kid1 HN.out (by rw [← hT]; exact hsub)
                have hx : tr ia = x := subAt_det (HTR.out ia (by omega)).1 hsx
                have hct := child_ct_no HI.out 0 ((a : Int) + 1) hL2
                have hsem : sem (tr k) (ss.drop a) = false := by rw [hT, HSA.out, hnil, sem6n]
                have HS := Lib.hid hsem
                have HC0 := Lib.hid hct
                clear hT hsem hq0 hia hsx hx hct hnil
                go_wp2_with fail
                refine (HC0.out wr (fun _ => rfl)).mono ?_
                rintro e w' ⟨rfl, q, rfl⟩
                go_wp2_with fail
                go_roundw
                case rel => exact ⟨c' + 1, by rw [show ((ss.length : Int) - 1 - (c' + 1 : Nat)) = (a : Int) - 1 from by have := HAI.out; omega], by omega, (HI.out.drewN _).next HA.out (by rw [HS.out])⟩
                case measure => simp [intOf]
            · as_aux_lemma =>
                have hkv : kd = 7 := by rw [← HKD.out, hT]; rfl
                subst hkv
                have hnil : ss.drop (a + 1) = [] := List.drop_eq_nil_of_le (by have := HA.out; omega)
                obtain ⟨ia, ic, hq0, hq1, hia, hic, hsx, hsy⟩ := kid2 HN.out (by rw [← hT]; exact hsub)
                have hx : tr ia = x := subAt_det (HTR.out ia (by omega)).1 hsx
                have hy : tr ic = y := subAt_det (HTR.out ic (by omega)).1 hsy
                have hct := child_ct HI.out HIW.out hB hlt 0 ia a 0 (a : Int) rfl rfl hq0 hia hal
                have hct1 := child_ct HI.out HIW.out hB hlt 1 ic a 1 (a : Int) rfl rfl hq1 hic hal
                rw [hx] at hct
                rw [hy] at hct1
                have hsem : sem (tr k) (ss.drop a) = (sem y (ss.drop a) || (sem x (ss.drop a) && false)) := by rw [hT, HSA.out, sem7c, hnil, sem7n]
                have HS := Lib.hid hsem
                have HC0 := Lib.hid hct
                have HC1 := Lib.hid hct1
                clear hT hsem hq0 hq1 hia hic hsx hsy hx hy hct hct1 hnil
                have hf := HC1.out
                cases hX : sem y (ss.drop a)
                all_goals
                  rw [hX] at hf
                  have HX := Lib.hid hX
                  have HF := Lib.hid hf
                  clear hX hf
                · have hg := HC0.out
                  cases hY : sem x (ss.drop a)
                  all_goals
                    rw [hY] at hg
                    have HY := Lib.hid hY
                    have HG := Lib.hid hg
                    clear hY hg
                  · go_wp2_with fail
                    refine (HF.out wr (fun _ => rfl)).mono ?_
                    rintro e w' ⟨rfl, q, rfl⟩
                    go_wp2_with fail
                    refine (HG.out (wr.drewN q) (fun _ => rfl)).mono ?_
                    rintro e w' ⟨rfl, q2, rfl⟩
                    go_wp2_with fail
                    go_roundw
                    case rel => exact ⟨c' + 1, by rw [show ((ss.length : Int) - 1 - (c' + 1 : Nat)) = (a : Int) - 1 from by have := HAI.out; omega], by omega, (HI.out.drewN _).next HA.out (by rw [HS.out, HX.out, HY.out]; rfl)⟩
                    case measure => simp [intOf]
                  · go_wp2_with fail
                    refine (HF.out wr (fun _ => rfl)).mono ?_
                    rintro e w' ⟨rfl, q, rfl⟩
                    go_wp2_with fail
                    refine (HG.out (wr.drewN q) (fun _ => rfl)).mono ?_
                    rintro e w' ⟨rfl, q2, rfl⟩
                    go_wp2_with fail
                    go_roundw
                    case rel => exact ⟨c' + 1, by rw [show ((ss.length : Int) - 1 - (c' + 1 : Nat)) = (a : Int) - 1 from by have := HAI.out; omega], by omega, (HI.out.drewN _).next HA.out (by rw [HS.out, HX.out, HY.out]; simp)⟩
                    case measure => simp [intOf]
                · go_wp2_with fail
                  refine (HF.out wr (fun _ => rfl)).mono ?_
                  rintro e w' ⟨rfl, q, rfl⟩
                  go_wp2_with fail
                  go_roundw
                  case rel => exact ⟨c' + 1, by rw [show ((ss.length : Int) - 1 - (c' + 1 : Nat)) = (a : Int) - 1 from by have := HAI.out; omega], by omega, (HI.out.drewN _).next HA.out (by rw [HS.out, HX.out]; rfl)⟩
                  case measure => simp [intOf]
            · as_aux_lemma =>
                have hkv : kd = 8 := by rw [← HKD.out, hT]; rfl
                subst hkv
                have hnil : ss.drop (a + 1) = [] := List.drop_eq_nil_of_le (by have := HA.out; omega)
                obtain ⟨ia, hq0, hia, hsx⟩ := kid1 HN.out (by rw [← hT]; exact hsub)
                have hx : tr ia = x := subAt_det (HTR.out ia (by omega)).1 hsx
                have hct := child_ct HI.out HIW.out hB hlt 0 ia a 0 (a : Int) rfl rfl hq0 hia hal
                rw [hx] at hct
                have hsem : sem (tr k) (ss.drop a) = (sem x (ss.drop a) && true) := by rw [hT, HSA.out, sem8c, hnil, sem8n]
                have HS := Lib.hid hsem
                have HC0 := Lib.hid hct
                clear hT hsem hq0 hia hsx hx hct hnil
                have hf := HC0.out
                cases hX : sem x (ss.drop a)
                all_goals
                  rw [hX] at hf
                  have HX := Lib.hid hX
                  have HF := Lib.hid hf
                  clear hX hf
                · go_wp2_with fail
                  refine (HF.out wr (fun _ => rfl)).mono ?_
                  rintro e w' ⟨rfl, q, rfl⟩
                  go_wp2_with fail
                  go_roundw
                  case rel => exact ⟨c' + 1, by rw [show ((ss.length : Int) - 1 - (c' + 1 : Nat)) = (a : Int) - 1 from by have := HAI.out; omega], by omega, (HI.out.drewN _).next HA.out (by rw [HS.out, HX.out]; rfl)⟩
                  case measure => simp [intOf]
                · go_wp2_with fail
                  refine (HF.out wr (fun _ => rfl)).mono ?_
                  rintro e w' ⟨rfl, q, rfl⟩
                  go_wp2_with fail
                  go_roundw
                  case rel => exact ⟨c' + 1, by rw [show ((ss.length : Int) - 1 - (c' + 1 : Nat)) = (a : Int) - 1 from by have := HAI.out; omega], by omega, (HI.out.drewN _).next HA.out (by rw [HS.out, HX.out]; simp)⟩
                  case measure => simp [intOf]
            · as_aux_lemma =>
                have hkv : kd = 9 := by rw [← HKD.out, hT]; rfl
                subst hkv
                have hnil : ss.drop (a + 1) = [] := List.drop_eq_nil_of_le (by have := HA.out; omega)
                obtain ⟨ia, hq0, hia, hsx⟩ := kid1 HN.out (by rw [← hT]; exact hsub)
                have hx : tr ia = x := subAt_det (HTR.out ia (by omega)).1 hsx
                have hct := child_ct HI.out HIW.out hB hlt 0 ia a 0 (a : Int) rfl rfl hq0 hia hal
                rw [hx] at hct
                have hsem : sem (tr k) (ss.drop a) = (sem x (ss.drop a) || false) := by rw [hT, HSA.out, sem9c, hnil, sem9n]
                have HS := Lib.hid hsem
                have HC0 := Lib.hid hct
                clear hT hsem hq0 hia hsx hx hct hnil
                have hf := HC0.out
                cases hX : sem x (ss.drop a)
                all_goals
                  rw [hX] at hf
                  have HX := Lib.hid hX
                  have HF := Lib.hid hf
                  clear hX hf
                · go_wp2_with fail
                  refine (HF.out wr (fun _ => rfl)).mono ?_
                  rintro e w' ⟨rfl, q, rfl⟩
                  go_wp2_with fail
                  go_roundw
                  case rel => exact ⟨c' + 1, by rw [show ((ss.length : Int) - 1 - (c' + 1 : Nat)) = (a : Int) - 1 from by have := HAI.out; omega], by omega, (HI.out.drewN _).next HA.out (by rw [HS.out, HX.out]; simp)⟩
                  case measure => simp [intOf]
                · go_wp2_with fail
                  refine (HF.out wr (fun _ => rfl)).mono ?_
                  rintro e w' ⟨rfl, q, rfl⟩
                  go_wp2_with fail
                  go_roundw
                  case rel => exact ⟨c' + 1, by rw [show ((ss.length : Int) - 1 - (c' + 1 : Nat)) = (a : Int) - 1 from by have := HAI.out; omega], by omega, (HI.out.drewN _).next HA.out (by rw [HS.out, HX.out]; rfl)⟩
                  case measure => simp [intOf]
          · have hL2 : (a : Int) + 1 < (ss.length : Int) := by have := HA.out; omega
            have hL : decide ((a : Int) + 1 < (ss.length : Int)) = true := by simpa using hL2
            have hE : ((a : Int) == (ss.length : Int) - 1) = false := by simp; omega
            have ra1 : wr.cell? ⟨RG, a + 1, none⟩ = some (.bool (sem (tr k) (ss.drop (a + 1)))) := by
              refine (HI.out.row.cell (a + 1)).trans ?_
              have := rowC_done (tr k) ss c' (a + 1) (by omega) (by have := HA.out; omega)
              simpa using this
            rcases ok_cases hok with ⟨f, hT⟩ | ⟨f, hT⟩ | ⟨f, x, hT⟩ | ⟨f, x, y, hT⟩ | ⟨f, x, y, hT⟩ | ⟨f, x, hT⟩ | ⟨f, x, y, hT⟩ | ⟨f, x, hT⟩ | ⟨f, x, hT⟩
            · as_aux_lemma =>
                have hkv : kd = 1 := by rw [← HKD.out, hT]; rfl
                subst hkv
                obtain ⟨sb, hsb, _⟩ := drop_cons (ss := ss) (a := a + 1) (by have := HA.out; omega)
                have hsem : sem (tr k) (ss.drop a) = true := by rw [hT, sem1]
                have HS := Lib.hid hsem
                obtain ⟨Lv, hLv⟩ : ∃ Lv, sem (tr k) (ss.drop (a + 1)) = Lv := ⟨_, rfl⟩
                rw [hLv] at ra1
                have HLV := Lib.hid hLv
                clear hT hsem  hsb hLv
                go_wp2_with fail
                go_roundw
                case rel => exact ⟨c' + 1, by rw [show ((ss.length : Int) - 1 - (c' + 1 : Nat)) = (a : Int) - 1 from by have := HAI.out; omega], by omega, HI.out.next HA.out (by rw [HS.out])⟩
                case measure => simp [intOf]
            · as_aux_lemma =>
                have hkv : kd = 2 := by rw [← HKD.out, hT]; rfl
                subst hkv
                obtain ⟨sb, hsb, _⟩ := drop_cons (ss := ss) (a := a + 1) (by have := HA.out; omega)
                have hsem : sem (tr k) (ss.drop a) = sa.contains (tr k).fact := by rw [hT, HSA.out, sem2]; rfl
                have HS := Lib.hid hsem
                obtain ⟨Lv, hLv⟩ : ∃ Lv, sem (tr k) (ss.drop (a + 1)) = Lv := ⟨_, rfl⟩
                rw [hLv] at ra1
                have HLV := Lib.hid hLv
                clear hT hsem  hsb hLv
                obtain ⟨bs, offs, us, rfl, hbs, hcs, his⟩ := HSAT.out a sa HSA2.out
                have hcon := contains_any sa (tr k).fact us B
                obtain ⟨Au, cu, rfl, _, _, _⟩ := his.form
                have hsc : wr.cell? ⟨bs, offs + a, none⟩ = some (.slice Au sa.length cu) := cell_later HI.out.o.below hcs
                have hisr : IntsAt wr.drew B (.slice Au sa.length cu) sa := his.below ((HI.out.o.below.mono hB).drew) (Nat.le_refl _)
                have HCON := Lib.hid hcon
                have HISR := Lib.hid hisr
                clear hcon hcs hbs his hisr
                go_wp2_with fail
                go_region_law (go_simp; go_at_call 53; refine (HCON.out wr.drew HISR.out).mono ?_; rintro e w' ⟨rfl, rfl⟩)
                all_goals
                  go_wp2_with fail
                  go_roundw
                  case rel => exact ⟨c' + 1, by rw [show ((ss.length : Int) - 1 - (c' + 1 : Nat)) = (a : Int) - 1 from by have := HAI.out; omega], by omega, (HI.out.drewN 1).next HA.out (by rw [HS.out, List.contains_eq_mem])⟩
                  case measure => simp [intOf]
            · as_aux_lemma =>
                have hkv : kd = 3 := by rw [← HKD.out, hT]; rfl
                subst hkv
                obtain ⟨sb, hsb, _⟩ := drop_cons (ss := ss) (a := a + 1) (by have := HA.out; omega)
                obtain ⟨ia, hq0, hia, hsx⟩ := kid1 HN.out (by rw [← hT]; exact hsub)
                have hx : tr ia = x := subAt_det (HTR.out ia (by omega)).1 hsx
                have hct := child_ct HI.out HIW.out hB hlt 0 ia a 0 (a : Int) rfl rfl hq0 hia hal
                rw [hx] at hct
                have hsem : sem (tr k) (ss.drop a) = !sem x (ss.drop a) := by rw [hT, sem3]
                have HS := Lib.hid hsem
                have HC0 := Lib.hid hct
                obtain ⟨Lv, hLv⟩ : ∃ Lv, sem (tr k) (ss.drop (a + 1)) = Lv := ⟨_, rfl⟩
                rw [hLv] at ra1
                have HLV := Lib.hid hLv
                clear hT hsem hq0 hia hsx hx hct hsb hLv
                go_wp2_with fail
                refine (HC0.out wr (fun _ => rfl)).mono ?_
                rintro e w' ⟨rfl, q, rfl⟩
                go_wp2_with fail
                go_roundw
                case rel => exact ⟨c' + 1, by rw [show ((ss.length : Int) - 1 - (c' + 1 : Nat)) = (a : Int) - 1 from by have := HAI.out; omega], by omega, (HI.out.drewN _).next HA.out (by rw [HS.out])⟩
                case measure => simp [intOf]
            · as_aux_lemma =>
                have hkv : kd = 4 := by rw [← HKD.out, hT]; rfl
                subst hkv
                obtain ⟨sb, hsb, _⟩ := drop_cons (ss := ss) (a := a + 1) (by have := HA.out; omega)
                obtain ⟨ia, ic, hq0, hq1, hia, hic, hsx, hsy⟩ := kid2 HN.out (by rw [← hT]; exact hsub)
                have hx : tr ia = x := subAt_det (HTR.out ia (by omega)).1 hsx
                have hy : tr ic = y := subAt_det (HTR.out ic (by omega)).1 hsy
                have hct := child_ct HI.out HIW.out hB hlt 0 ia a 0 (a : Int) rfl rfl hq0 hia hal
                have hct1 := child_ct HI.out HIW.out hB hlt 1 ic a 1 (a : Int) rfl rfl hq1 hic hal
                rw [hx] at hct
                rw [hy] at hct1
                have hsem : sem (tr k) (ss.drop a) = (sem x (ss.drop a) && sem y (ss.drop a)) := by rw [hT, sem4]
                have HS := Lib.hid hsem
                have HC0 := Lib.hid hct
                have HC1 := Lib.hid hct1
                obtain ⟨Lv, hLv⟩ : ∃ Lv, sem (tr k) (ss.drop (a + 1)) = Lv := ⟨_, rfl⟩
                rw [hLv] at ra1
                have HLV := Lib.hid hLv
                clear hT hsem hq0 hq1 hia hic hsx hsy hx hy hct hct1 hsb hLv
                have hf := HC0.out
                cases hX : sem x (ss.drop a)
                all_goals
                  rw [hX] at hf
                  have HX := Lib.hid hX
                  have HF := Lib.hid hf
                  clear hX hf
                · go_wp2_with fail
                  refine (HF.out wr (fun _ => rfl)).mono ?_
                  rintro e w' ⟨rfl, q, rfl⟩
                  go_wp2_with fail
                  go_roundw
                  case rel => exact ⟨c' + 1, by rw [show ((ss.length : Int) - 1 - (c' + 1 : Nat)) = (a : Int) - 1 from by have := HAI.out; omega], by omega, (HI.out.drewN _).next HA.out (by rw [HS.out, HX.out]; rfl)⟩
                  case measure => simp [intOf]
                · go_wp2_with fail
                  refine (HF.out wr (fun _ => rfl)).mono ?_
                  rintro e w' ⟨rfl, q, rfl⟩
                  go_wp2_with fail
                  refine (HC1.out (wr.drewN q) (fun _ => rfl)).mono ?_
                  rintro e w' ⟨rfl, q2, rfl⟩
                  go_wp2_with fail
                  go_roundw
                  case rel => exact ⟨c' + 1, by rw [show ((ss.length : Int) - 1 - (c' + 1 : Nat)) = (a : Int) - 1 from by have := HAI.out; omega], by omega, (HI.out.drewN _).next HA.out (by rw [HS.out, HX.out]; rfl)⟩
                  case measure => simp [intOf]
            · as_aux_lemma =>
                have hkv : kd = 5 := by rw [← HKD.out, hT]; rfl
                subst hkv
                obtain ⟨sb, hsb, _⟩ := drop_cons (ss := ss) (a := a + 1) (by have := HA.out; omega)
                obtain ⟨ia, ic, hq0, hq1, hia, hic, hsx, hsy⟩ := kid2 HN.out (by rw [← hT]; exact hsub)
                have hx : tr ia = x := subAt_det (HTR.out ia (by omega)).1 hsx
                have hy : tr ic = y := subAt_det (HTR.out ic (by omega)).1 hsy
                have hct := child_ct HI.out HIW.out hB hlt 0 ia a 0 (a : Int) rfl rfl hq0 hia hal
                have hct1 := child_ct HI.out HIW.out hB hlt 1 ic a 1 (a : Int) rfl rfl hq1 hic hal
                rw [hx] at hct
                rw [hy] at hct1
                have hsem : sem (tr k) (ss.drop a) = (sem x (ss.drop a) || sem y (ss.drop a)) := by rw [hT, sem5]
                have HS := Lib.hid hsem
                have HC0 := Lib.hid hct
                have HC1 := Lib.hid hct1
                obtain ⟨Lv, hLv⟩ : ∃ Lv, sem (tr k) (ss.drop (a + 1)) = Lv := ⟨_, rfl⟩
                rw [hLv] at ra1
                have HLV := Lib.hid hLv
                clear hT hsem hq0 hq1 hia hic hsx hsy hx hy hct hct1 hsb hLv
                have hf := HC0.out
                cases hX : sem x (ss.drop a)
                all_goals
                  rw [hX] at hf
                  have HX := Lib.hid hX
                  have HF := Lib.hid hf
                  clear hX hf
                · go_wp2_with fail
                  refine (HF.out wr (fun _ => rfl)).mono ?_
                  rintro e w' ⟨rfl, q, rfl⟩
                  go_wp2_with fail
                  refine (HC1.out (wr.drewN q) (fun _ => rfl)).mono ?_
                  rintro e w' ⟨rfl, q2, rfl⟩
                  go_wp2_with fail
                  go_roundw
                  case rel => exact ⟨c' + 1, by rw [show ((ss.length : Int) - 1 - (c' + 1 : Nat)) = (a : Int) - 1 from by have := HAI.out; omega], by omega, (HI.out.drewN _).next HA.out (by rw [HS.out, HX.out]; rfl)⟩
                  case measure => simp [intOf]
                · go_wp2_with fail
                  refine (HF.out wr (fun _ => rfl)).mono ?_
                  rintro e w' ⟨rfl, q, rfl⟩
                  go_wp2_with fail
                  go_roundw
                  case rel => exact ⟨c' + 1, by rw [show ((ss.length : Int) - 1 - (c' + 1 : Nat)) = (a : Int) - 1 from by have := HAI.out; omega], by omega, (HI.out.drewN _).next HA.out (by rw [HS.out, HX.out]; rfl)⟩
                  case measure => simp [intOf]
            · as_aux_lemma =>
                have hkv : kd = 6 := by rw [← HKD.out, hT]; rfl
                subst hkv
                obtain ⟨sb, hsb, _⟩ := drop_cons (ss := ss) (a := a + 1) (by have := HA.out; omega)
                obtain ⟨ia, hq0, hia, hsx⟩ := kid1 HN.out (by rw [← hT]; exact hsub)
                have hx : tr ia = x := subAt_det (HTR.out ia (by omega)).1 hsx
                have hct := child_ct HI.out HIW.out hB hlt 0 ia (a + 1) 0 ((a : Int) + 1) rfl rfl hq0 hia (by have := HA.out; omega)
                rw [hx] at hct
                have hsem : sem (tr k) (ss.drop a) = sem x (ss.drop (a + 1)) := by rw [hT, HSA.out, hsb, sem6c]
                have HS := Lib.hid hsem
                have HC0 := Lib.hid hct
                obtain ⟨Lv, hLv⟩ : ∃ Lv, sem (tr k) (ss.drop (a + 1)) = Lv := ⟨_, rfl⟩
                rw [hLv] at ra1
                have HLV := Lib.hid hLv
                clear hT hsem hq0 hia hsx hx hct hsb hLv
                go_wp2_with fail
                refine (HC0.out wr (fun _ => rfl)).mono ?_
                rintro e w' ⟨rfl, q, rfl⟩
                go_wp2_with fail
                go_roundw
                case rel => exact ⟨c' + 1, by rw [show ((ss.length : Int) - 1 - (c' + 1 : Nat)) = (a : Int) - 1 from by have := HAI.out; omega], by omega, (HI.out.drewN _).next HA.out (by rw [HS.out])⟩
                case measure => simp [intOf]
            · as_aux_lemma =>
                have hkv : kd = 7 := by rw [← HKD.out, hT]; rfl
                subst hkv
                obtain ⟨sb, hsb, _⟩ := drop_cons (ss := ss) (a := a + 1) (by have := HA.out; omega)
                obtain ⟨ia, ic, hq0, hq1, hia, hic, hsx, hsy⟩ := kid2 HN.out (by rw [← hT]; exact hsub)
                have hx : tr ia = x := subAt_det (HTR.out ia (by omega)).1 hsx
                have hy : tr ic = y := subAt_det (HTR.out ic (by omega)).1 hsy
                have hct := child_ct HI.out HIW.out hB hlt 0 ia a 0 (a : Int) rfl rfl hq0 hia hal
                have hct1 := child_ct HI.out HIW.out hB hlt 1 ic a 1 (a : Int) rfl rfl hq1 hic hal
                rw [hx] at hct
                rw [hy] at hct1
                have hsem : sem (tr k) (ss.drop a) = (sem y (ss.drop a) || (sem x (ss.drop a) && sem (tr k) (ss.drop (a + 1)))) := by rw [hT, HSA.out, sem7c]
                have HS := Lib.hid hsem
                have HC0 := Lib.hid hct
                have HC1 := Lib.hid hct1
                obtain ⟨Lv, hLv⟩ : ∃ Lv, sem (tr k) (ss.drop (a + 1)) = Lv := ⟨_, rfl⟩
                rw [hLv] at ra1
                have HLV := Lib.hid hLv
                clear hT hsem hq0 hq1 hia hic hsx hsy hx hy hct hct1 hsb hLv
                have hf := HC1.out
                cases hX : sem y (ss.drop a)
                all_goals
                  rw [hX] at hf
                  have HX := Lib.hid hX
                  have HF := Lib.hid hf
                  clear hX hf
                · have hg := HC0.out
                  cases hY : sem x (ss.drop a)
                  all_goals
                    rw [hY] at hg
                    have HY := Lib.hid hY
                    have HG := Lib.hid hg
                    clear hY hg
                  · go_wp2_with fail
                    refine (HF.out wr (fun _ => rfl)).mono ?_
                    rintro e w' ⟨rfl, q, rfl⟩
                    go_wp2_with fail
                    refine (HG.out (wr.drewN q) (fun _ => rfl)).mono ?_
                    rintro e w' ⟨rfl, q2, rfl⟩
                    go_wp2_with fail
                    go_roundw
                    case rel => exact ⟨c' + 1, by rw [show ((ss.length : Int) - 1 - (c' + 1 : Nat)) = (a : Int) - 1 from by have := HAI.out; omega], by omega, (HI.out.drewN _).next HA.out (by rw [HS.out, HX.out, HY.out]; rfl)⟩
                    case measure => simp [intOf]
                  · go_wp2_with fail
                    refine (HF.out wr (fun _ => rfl)).mono ?_
                    rintro e w' ⟨rfl, q, rfl⟩
                    go_wp2_with fail
                    refine (HG.out (wr.drewN q) (fun _ => rfl)).mono ?_
                    rintro e w' ⟨rfl, q2, rfl⟩
                    go_wp2_with fail
                    go_roundw
                    case rel => exact ⟨c' + 1, by rw [show ((ss.length : Int) - 1 - (c' + 1 : Nat)) = (a : Int) - 1 from by have := HAI.out; omega], by omega, (HI.out.drewN _).next HA.out (by rw [HS.out, HX.out, HY.out, HLV.out]; simp)⟩
                    case measure => simp [intOf]
                · go_wp2_with fail
                  refine (HF.out wr (fun _ => rfl)).mono ?_
                  rintro e w' ⟨rfl, q, rfl⟩
                  go_wp2_with fail
                  go_roundw
                  case rel => exact ⟨c' + 1, by rw [show ((ss.length : Int) - 1 - (c' + 1 : Nat)) = (a : Int) - 1 from by have := HAI.out; omega], by omega, (HI.out.drewN _).next HA.out (by rw [HS.out, HX.out]; rfl)⟩
                  case measure => simp [intOf]
            · as_aux_lemma =>
                have hkv : kd = 8 := by rw [← HKD.out, hT]; rfl
                subst hkv
                obtain ⟨sb, hsb, _⟩ := drop_cons (ss := ss) (a := a + 1) (by have := HA.out; omega)
                obtain ⟨ia, hq0, hia, hsx⟩ := kid1 HN.out (by rw [← hT]; exact hsub)
                have hx : tr ia = x := subAt_det (HTR.out ia (by omega)).1 hsx
                have hct := child_ct HI.out HIW.out hB hlt 0 ia a 0 (a : Int) rfl rfl hq0 hia hal
                rw [hx] at hct
                have hsem : sem (tr k) (ss.drop a) = (sem x (ss.drop a) && sem (tr k) (ss.drop (a + 1))) := by rw [hT, HSA.out, sem8c]
                have HS := Lib.hid hsem
                have HC0 := Lib.hid hct
                obtain ⟨Lv, hLv⟩ : ∃ Lv, sem (tr k) (ss.drop (a + 1)) = Lv := ⟨_, rfl⟩
                rw [hLv] at ra1
                have HLV := Lib.hid hLv
                clear hT hsem hq0 hia hsx hx hct hsb hLv
                have hf := HC0.out
                cases hX : sem x (ss.drop a)
                all_goals
                  rw [hX] at hf
                  have HX := Lib.hid hX
                  have HF := Lib.hid hf
                  clear hX hf
                · go_wp2_with fail
                  refine (HF.out wr (fun _ => rfl)).mono ?_
                  rintro e w' ⟨rfl, q, rfl⟩
                  go_wp2_with fail
                  go_roundw
                  case rel => exact ⟨c' + 1, by rw [show ((ss.length : Int) - 1 - (c' + 1 : Nat)) = (a : Int) - 1 from by have := HAI.out; omega], by omega, (HI.out.drewN _).next HA.out (by rw [HS.out, HX.out]; rfl)⟩
                  case measure => simp [intOf]
                · go_wp2_with fail
                  refine (HF.out wr (fun _ => rfl)).mono ?_
                  rintro e w' ⟨rfl, q, rfl⟩
                  go_wp2_with fail
                  go_roundw
                  case rel => exact ⟨c' + 1, by rw [show ((ss.length : Int) - 1 - (c' + 1 : Nat)) = (a : Int) - 1 from by have := HAI.out; omega], by omega, (HI.out.drewN _).next HA.out (by rw [HS.out, HX.out, HLV.out]; simp)⟩
                  case measure => simp [intOf]
            · as_aux_lemma =>
                have hkv : kd = 9 := by rw [← HKD.out, hT]; rfl
                subst hkv
                obtain ⟨sb, hsb, _⟩ := drop_cons (ss := ss) (a := a + 1) (by have := HA.out; omega)
                obtain ⟨ia, hq0, hia, hsx⟩ := kid1 HN.out (by rw [← hT]; exact hsub)
                have hx : tr ia = x := subAt_det (HTR.out ia (by omega)).1 hsx
                have hct := child_ct HI.out HIW.out hB hlt 0 ia a 0 (a : Int) rfl rfl hq0 hia hal
                rw [hx] at hct
                have hsem : sem (tr k) (ss.drop a) = (sem x (ss.drop a) || sem (tr k) (ss.drop (a + 1))) := by rw [hT, HSA.out, sem9c]
                have HS := Lib.hid hsem
                have HC0 := Lib.hid hct
                obtain ⟨Lv, hLv⟩ : ∃ Lv, sem (tr k) (ss.drop (a + 1)) = Lv := ⟨_, rfl⟩
                rw [hLv] at ra1
                have HLV := Lib.hid hLv
                clear hT hsem hq0 hia hsx hx hct hsb hLv
                have hf := HC0.out
                cases hX : sem x (ss.drop a)
                all_goals
                  rw [hX] at hf
                  have HX := Lib.hid hX
                  have HF := Lib.hid hf
                  clear hX hf
                · go_wp2_with fail
                  refine (HF.out wr (fun _ => rfl)).mono ?_
                  rintro e w' ⟨rfl, q, rfl⟩
                  go_wp2_with fail
                  go_roundw
                  case rel => exact ⟨c' + 1, by rw [show ((ss.length : Int) - 1 - (c' + 1 : Nat)) = (a : Int) - 1 from by have := HAI.out; omega], by omega, (HI.out.drewN _).next HA.out (by rw [HS.out, HX.out, HLV.out]; simp)⟩
                  case measure => simp [intOf]
                · go_wp2_with fail
                  refine (HF.out wr (fun _ => rfl)).mono ?_
                  rintro e w' ⟨rfl, q, rfl⟩
                  go_wp2_with fail
                  go_roundw
                  case rel => exact ⟨c' + 1, by rw [show ((ss.length : Int) - 1 - (c' + 1 : Nat)) = (a : Int) - 1 from by have := HAI.out; omega], by omega, (HI.out.drewN _).next HA.out (by rw [HS.out, HX.out]; rfl)⟩
                  case measure => simp [intOf]
        · have hcc : c' = ss.length := by omega
          subst hcc
          have hneg : ((ss.length : Int) - 1 - ss.length) = -1 := by omega
          rw [hneg]
          have hI6 := hI.o.tb
          have cn6 : wr.cell? ⟨b6, 0, none⟩ = some (.slice (some ⟨w.heap.size + 2, 0, none⟩) ns.length ns.length) := hI6.cell 0
          obtain ⟨tk, htk⟩ : ∃ tk, tv[k]? = some tk := ⟨_, List.getElem?_eq_getElem (by rw [hI.o.tlen]; exact hlt)⟩
          have ct : wr.cell? ⟨w.heap.size + 2, k, none⟩ = some tk := by
            refine (hI.o.tab.cell k).trans ?_
            simpa using htk
          have ft := hI.o.tab.frozen k
          have HI := Lib.hid hI
          clear hI hI6 hneg htk
          go_wp2_with fail
          go_roundw
          case rel => exact ⟨k + 1, _, by go_num, by omega, HI.out.built hlt hTBw⟩
          case measure => simp [intOf]; omega
    · have hkk : k = ns.length := by omega
      subst hkk
      obtain ⟨g, hg1, hg2⟩ := hP.rows (ns.length - 1) (by omega)
      have cn6 : wr.cell? ⟨b6, 0, none⟩ = some (.slice (some ⟨w.heap.size + 2, 0, none⟩) ns.length ns.length) := hP.tb.cell 0
      have ct : wr.cell? ⟨w.heap.size + 2, ns.length - 1, none⟩ = some (.slice (some ⟨g, 0, none⟩) ss.length ss.length) := by
        refine (hP.tab.cell (ns.length - 1)).trans ?_
        simpa using hg1
      have hres : wr.cell? ⟨g, 0, none⟩ = some (.bool (sem (tr (ns.length - 1)) ss)) := by
        refine (hg2.cell 0).trans ?_
        have := rowC_done (tr (ns.length - 1)) ss ss.length 0 hs1 (by omega)
        simpa using this
      have hm0 : (0 : Int) ≤ (ns.length : Int) - 1 := by omega
      have hml : (ns.length : Int) - 1 < (ns.length : Int) := by omega
      have hmt : ((ns.length : Int) - 1).toNat = ns.length - 1 := by omega
      have HP := Lib.hid hP
      have HRES := Lib.hid hres
      clear hP hres hg1 hg2
      go_wp2_with fail
      go_ret
      exact ⟨g, rfl, HRES.out, HP.out.below⟩
end Go.Proofs.Ytdfbclkafocnpaa
