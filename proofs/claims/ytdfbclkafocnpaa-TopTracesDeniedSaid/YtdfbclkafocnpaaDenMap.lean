/- A map of four numbers that a call makes and asks once; and a tree whose row of children is written, each by its denial. -/
import Derived.Test.YtdfbclkafocnpaaSep
import Derived.WideMake
namespace Go.Proofs.Ytdfbclkafocnpaa
open Go.RowKit

theorem Try.map36 : Try.prog.underlying 36 = some (.map 3 3) := by kernel_rfl
theorem Try.int3 : Try.prog.underlying 3 = some (.int .i64) := by kernel_rfl

theorem map_world (w : World) (o o' : Obj) : ({ w.alloc o with heap := (w.alloc o).heap.setIfInBounds w.heap.size o' } : World) = w.alloc o' := by
  have h : (w.alloc o).heap.setIfInBounds w.heap.size o' = (w.alloc o').heap := by
    show (w.heap.push o).setIfInBounds w.heap.size o' = w.heap.push o'
    apply Array.ext_getElem?
    intro i
    simp only [Array.getElem?_setIfInBounds, Array.getElem?_push, Array.size_push]
    by_cases hi : w.heap.size = i
    · subst hi; simp
    · simp [hi, Ne.symm hi]
  show ({ w.alloc o with heap := (w.alloc o).heap.setIfInBounds w.heap.size o' } : World) = w.alloc o'
  rw [h]
  rfl

/-- One entry more, under a key that the map lacks. -/
theorem map_put (w : World) (es : Array MapEntry) (c : Nat) (k v : Int) (h : Instr.findNow (.int .i64) (.int .i64 k) es.toList 0 = some none) :
    (Instr.mapUpdate 36 (.map (some w.heap.size)) (.int .i64 k) (.int .i64 v)).run Try.prog (w.alloc (.map es c)) = .ok () (w.alloc (.map (es.push { key := .int .i64 k, val := .int .i64 v, born := c }) (c + 1))) := by
  have hb : (w.alloc (.map es c)).heap[w.heap.size]? = some (.map es c) := (MapKept.heap_alloc w _).1
  have hc : (Instr.checkKey false 10000 3 (.int .i64 k)).run Try.prog (w.alloc (.map es c)) = .ok () (w.alloc (.map es c)) := MapKept.run_checkKey (k := .int .i64 k) Try.int3 (by simp [MapKept.IsKey]) false 9999
  simp [Instr.mapUpdate, run_underlying Try.map36, MapKept.run_getObj_map hb, hc, MapKept.run_findKey Try.int3 h, MapKept.run_setObj_map _ hb, Result.andThen]
  exact map_world w _ _

theorem map_get (w : World) (es : Array MapEntry) (c : Nat) (k v : Int) (i : Nat) (h : Instr.findNow (.int .i64) (.int .i64 k) es.toList 0 = some (some (i, .int .i64 v))) :
    (Instr.lookup 36 (.map (some w.heap.size)) (.int .i64 k) false).run Try.prog (w.alloc (.map es c)) = .ok (.int .i64 v) (w.alloc (.map es c)) := by
  have hb : (w.alloc (.map es c)).heap[w.heap.size]? = some (.map es c) := (MapKept.heap_alloc w _).1
  have hc : ∀ b : Bool, (Instr.checkKey b 10000 3 (.int .i64 k)).run Try.prog (w.alloc (.map es c)) = .ok () (w.alloc (.map es c)) := fun b => MapKept.run_checkKey (k := .int .i64 k) Try.int3 (by simp [MapKept.IsKey]) b 9999
  simp [Instr.lookup, run_underlying Try.map36, MapKept.run_getObj_map hb, hc, MapKept.run_findKey Try.int3 h, Result.andThen]

theorem map_none (w : World) (es : Array MapEntry) (c : Nat) (k : Int) (h : Instr.findNow (.int .i64) (.int .i64 k) es.toList 0 = some none) :
    (Instr.lookup 36 (.map (some w.heap.size)) (.int .i64 k) false).run Try.prog (w.alloc (.map es c)) = .ok (.int .i64 0) (w.alloc (.map es c)) := by
  have hb : (w.alloc (.map es c)).heap[w.heap.size]? = some (.map es c) := (MapKept.heap_alloc w _).1
  have hc : ∀ b : Bool, (Instr.checkKey b 10000 3 (.int .i64 k)).run Try.prog (w.alloc (.map es c)) = .ok () (w.alloc (.map es c)) := fun b => MapKept.run_checkKey (k := .int .i64 k) Try.int3 (by simp [MapKept.IsKey]) b 9999
  have hz : (zeroValue 3).run Try.prog (w.alloc (.map es c)) = .ok (.int .i64 0) (w.alloc (.map es c)) := by kernel_rfl
  simp [Instr.lookup, run_underlying Try.map36, MapKept.run_getObj_map hb, hc, MapKept.run_findKey Try.int3 h, Result.andThen, hz]

/-- The four entries. -/
def four : Array MapEntry := #[{ key := .int .i64 4, val := .int .i64 5, born := 0 }, { key := .int .i64 5, val := .int .i64 4, born := 1 }, { key := .int .i64 8, val := .int .i64 9, born := 2 }, { key := .int .i64 9, val := .int .i64 8, born := 3 }]

section
variable {w wr w2 : World} {g lo xb gx ab i : Nat} {u : Value}

/-- Of the blocks that were there all but g are as they were; below lo nothing has turned. -/
def Old (w : World) (g lo : Nat) (wr : World) : Prop := Below lo w wr ∧ ∀ q, q < w.heap.size → q ≠ g → wr.heap[q]? = w.heap[q]?
theorem Old.drew (h : Old w g lo wr) : Old w g lo wr.drew := ⟨h.1.drew, h.2⟩
theorem Old.later (h : Old w g lo wr) (hlo : lo ≤ w.heap.size) (hb : Below wr.heap.size wr w2) : Old w g lo w2 :=
  ⟨h.1.trans (hb.mono (Nat.le_trans hlo h.1.size)), fun q h1 h2 => (hb.block q (Nat.lt_of_lt_of_le h1 h.1.size)).trans (h.2 q h1 h2)⟩
theorem Old.set (h : Old w g lo wr) (hg : lo ≤ g) : Old w g lo (wr.setCell ⟨g, i, none⟩ u) :=
  ⟨h.1.setCell (p := ⟨g, i, none⟩) hg u, fun q h1 h2 => (Below.heap_setCell _ ⟨g, i, none⟩ _ q h2).trans (h.2 q h1 h2)⟩
theorem Old.blk {t : TypeId} {cs : Array Value} (h : Old w g lo wr) (hb : Blk w xb t cs) (hne : xb ≠ g) : Blk wr xb t cs := (h.2 xb hb.lt hne).trans hb

/-- A new denial of the node in block ab: its block and its row's. -/
def Neg (w wr : World) (xb gx ab : Nat) : Prop :=
  w.heap.size ≤ xb ∧ w.heap.size ≤ gx ∧ Blk wr xb 38 #[.int .i64 3, .int .i64 0, .slice (some ⟨gx, 0, none⟩) 1 1] ∧ Blk wr gx 29 #[.pointer (some ⟨ab, 0, none⟩)]
theorem Neg.drew (h : Neg w wr xb gx ab) : Neg w wr.drew xb gx ab := h
theorem Neg.later (h : Neg w wr xb gx ab) (hb : Below wr.heap.size wr w2) : Neg w w2 xb gx ab := ⟨h.1, h.2.1, h.2.2.1.later hb, h.2.2.2.later hb⟩
theorem Neg.set (h : Neg w wr xb gx ab) (hg : g < w.heap.size) : Neg w (wr.setCell ⟨g, i, none⟩ u) xb gx ab :=
  ⟨h.1, h.2.1, h.2.2.1.far (p := ⟨g, i, none⟩) (by have := h.1; show xb ≠ g; omega) u, h.2.2.2.far (p := ⟨g, i, none⟩) (by have := h.2.1; show gx ≠ g; omega) u⟩
theorem Neg.older {w0 : World} (h : Neg w wr xb gx ab) (hs : w0.heap.size ≤ w.heap.size) : Neg w0 wr xb gx ab := ⟨Nat.le_trans hs h.1, Nat.le_trans hs h.2.1, h.2.2⟩

theorem wNot_neg (a : LT) (w : World) : Calls Try.prog 18 #[.pointer (some ⟨a.blk, 0, none⟩)] w fun e w2 => ∃ xb gx : Nat, e = .returned (.pointer (some ⟨xb, 0, none⟩)) ∧ Neg w w2 xb gx a.blk ∧ Below w.heap.size w w2 :=
  (wNot_any a w).mono fun _ _ ⟨he, hw⟩ => by
    subst he; subst hw
    refine ⟨_, w.heap.size, rfl, ⟨Nat.le_succ _, Nat.le_refl _, ?_, (Blk.new w 29 _).alloc _⟩, bel_aa⟩
    exact blk_p

/-- The denial is a tree, above block b. -/
theorem neg_in {a : LT} {b : Nat} {v : Value} (ho : Old w g lo wr) (hk : KidIn 38 29 b v w a) (hv : v.ownBlock = some g) (hb : b < w.heap.size) (hN : Neg w wr xb gx a.blk) :
    (LT.n1 xb 3 0 (.slice (some ⟨gx, 0, none⟩) 1 1) a).In wr 38 29 (b + 1) wr.heap.size := by
  obtain ⟨lo1, hi1, k1, k2, k3, k4⟩ := hk
  obtain ⟨n1, n2, n3, n4⟩ := hN
  refine ⟨⟨by omega, n3.lt, n3, row_blk (ps := [a.ptr]) (by omega) rfl (by decide) n4⟩, ?_⟩
  refine (k1.keep fun q h1 h2 => ho.2 q (by omega) ?_).mono (by omega) (Nat.le_trans k3 ho.1.size)
  have := k4 g hv
  omega

/-- The row of a node with one child | with two, cell by cell. -/
theorem LT.row1 {b : Nat} {k f : Int} {v : Value} {a : LT} {hi : Nat} (h : (LT.n1 b k f v a).In w 38 29 lo hi) : ∃ (g cap : Nat) (cur : Array Value), v = .slice (some ⟨g, 0, none⟩) 1 cap ∧ Blk w b 38 #[.int .i64 k, .int .i64 f, v] ∧ Blk w g 29 cur ∧ lo ≤ g ∧ lo ≤ b ∧ 1 ≤ cap ∧ cap ≤ maxLen ∧ cur.size = cap ∧ cur[0]? = some a.ptr := by
  obtain ⟨⟨h1, h2, h3, h4⟩, ha⟩ := h
  rcases h4.1.2 with ⟨_, hn⟩ | ⟨g, cap, cur, rfl, hb, hg, hc, hm, hs, ht⟩
  · simp at hn
  · refine ⟨g, cap, cur, rfl, h3, hg, hb, h1, hc, hm, by simpa using hs, ?_⟩
    have := congrArg (fun l => l[0]?) ht
    simpa [List.getElem?_take] using this
theorem LT.row2 {b : Nat} {k f : Int} {v : Value} {a c : LT} {hi : Nat} (h : (LT.n2 b k f v a c).In w 38 29 lo hi) : ∃ (g cap : Nat) (cur : Array Value), v = .slice (some ⟨g, 0, none⟩) 2 cap ∧ Blk w b 38 #[.int .i64 k, .int .i64 f, v] ∧ Blk w g 29 cur ∧ lo ≤ g ∧ lo ≤ b ∧ 2 ≤ cap ∧ cap ≤ maxLen ∧ cur.size = cap ∧ cur[0]? = some a.ptr ∧ cur[1]? = some c.ptr := by
  obtain ⟨⟨h1, h2, h3, h4⟩, ha⟩ := h
  rcases h4.1.2 with ⟨_, hn⟩ | ⟨g, cap, cur, rfl, hb, hg, hc, hm, hs, ht⟩
  · simp at hn
  · refine ⟨g, cap, cur, rfl, h3, hg, hb, h1, hc, hm, by simpa using hs, ?_, ?_⟩
    · have := congrArg (fun l => l[0]?) ht
      simpa [List.getElem?_take] using this
    · have := congrArg (fun l => l[1]?) ht
      simpa [List.getElem?_take] using this

theorem take_set1 {cur : Array Value} {p : Value} (h : 1 ≤ cur.size) : (cur.setIfInBounds 0 p).toList.take 1 = [p] := by
  match cur, h with
  | ⟨_ :: _⟩, _ => rfl
theorem take_set2 {cur : Array Value} {p r : Value} (h : 2 ≤ cur.size) : ((cur.setIfInBounds 0 p).setIfInBounds 1 r).toList.take 2 = [p, r] := by
  match cur, h with
  | ⟨_ :: _ :: _⟩, _ => rfl
  | ⟨[_]⟩, h => exact absurd h (by simp)

/-- The root written otherwise, over the denials of its children. -/
theorem den1 {a : LT} {b cap x1 g1 : Nat} {k k' f : Int} {cur : Array Value} (ho : Old w g lo wr) (hB : Blk w b 38 #[.int .i64 k, .int .i64 f, .slice (some ⟨g, 0, none⟩) 1 cap]) (hne : b ≠ g) (hG : Blk wr g 29 (cur.setIfInBounds 0 (.pointer (some ⟨x1, 0, none⟩)))) (hg : lo ≤ g) (hb : lo ≤ b)
    (hc : 1 ≤ cap) (hm : cap ≤ maxLen) (hs : cur.size = cap) (hk : KidIn 38 29 b (.slice (some ⟨g, 0, none⟩) 1 cap) w a) (hN : Neg w wr x1 g1 a.blk) :
    (LT.n1 b k' f (.slice (some ⟨g, 0, none⟩) 1 cap) (.n1 x1 3 0 (.slice (some ⟨g1, 0, none⟩) 1 1) a)).In (wr.setCell ⟨b, 0, none⟩ (.int .i64 k')) 38 29 lo (wr.setCell ⟨b, 0, none⟩ (.int .i64 k')).heap.size := by
  have hS : (wr.setCell ⟨b, 0, none⟩ (.int .i64 k')).heap.size = wr.heap.size := by simp [World.setCell]
  have hbw := ho.blk hB hne
  have hX := neg_in ho hk rfl hB.lt hN
  rw [hS]
  refine ⟨⟨hb, hbw.lt, hbw.set_ 0 _, ⟨⟨rfl, .inr ⟨g, cap, _, rfl, hg, hG.far (p := ⟨b, 0, none⟩) (by show g ≠ b; omega) _, hc, hm, by simp [hs], by rw [Nat.mul_one]; exact take_set1 (by omega)⟩⟩, fun q h => ?_⟩⟩, ?_⟩
  · have e : g = q := by simpa [Value.ownBlock] using h
    subst e
    exact hG.lt
  · exact (hX.keep fun q h1 h2 => Below.heap_setCell _ ⟨b, 0, none⟩ _ q (by show q ≠ b; omega)).mono (by omega) (Nat.le_refl _)
theorem den2 {a c : LT} {b cap x1 g1 x2 g2 : Nat} {k k' f : Int} {cur : Array Value} (ho : Old w g lo wr) (hB : Blk w b 38 #[.int .i64 k, .int .i64 f, .slice (some ⟨g, 0, none⟩) 2 cap]) (hne : b ≠ g) (hG : Blk wr g 29 ((cur.setIfInBounds 0 (.pointer (some ⟨x1, 0, none⟩))).setIfInBounds 1 (.pointer (some ⟨x2, 0, none⟩)))) (hg : lo ≤ g) (hb : lo ≤ b)
    (hc : 2 ≤ cap) (hm : cap ≤ maxLen) (hs : cur.size = cap) (hk : KidIn 38 29 b (.slice (some ⟨g, 0, none⟩) 2 cap) w a) (hk2 : KidIn 38 29 b (.slice (some ⟨g, 0, none⟩) 2 cap) w c) (hN : Neg w wr x1 g1 a.blk) (hN2 : Neg w wr x2 g2 c.blk) :
    (LT.n2 b k' f (.slice (some ⟨g, 0, none⟩) 2 cap) (.n1 x1 3 0 (.slice (some ⟨g1, 0, none⟩) 1 1) a) (.n1 x2 3 0 (.slice (some ⟨g2, 0, none⟩) 1 1) c)).In (wr.setCell ⟨b, 0, none⟩ (.int .i64 k')) 38 29 lo (wr.setCell ⟨b, 0, none⟩ (.int .i64 k')).heap.size := by
  have hS : (wr.setCell ⟨b, 0, none⟩ (.int .i64 k')).heap.size = wr.heap.size := by simp [World.setCell]
  have hbw := ho.blk hB hne
  have hX := neg_in ho hk rfl hB.lt hN
  have hY := neg_in ho hk2 rfl hB.lt hN2
  rw [hS]
  refine ⟨⟨hb, hbw.lt, hbw.set_ 0 _, ⟨⟨rfl, .inr ⟨g, cap, _, rfl, hg, hG.far (p := ⟨b, 0, none⟩) (by show g ≠ b; omega) _, hc, hm, by simp [hs], by rw [Nat.mul_one]; exact take_set2 (by omega)⟩⟩, fun q h => ?_⟩⟩, ?_, ?_⟩
  · have e : g = q := by simpa [Value.ownBlock] using h
    subst e
    exact hG.lt
  · exact (hX.keep fun q h1 h2 => Below.heap_setCell _ ⟨b, 0, none⟩ _ q (by show q ≠ b; omega)).mono (by omega) (Nat.le_refl _)
  · exact (hY.keep fun q h1 h2 => Below.heap_setCell _ ⟨b, 0, none⟩ _ q (by show q ≠ b; omega)).mono (by omega) (Nat.le_refl _)
end
end Go.Proofs.Ytdfbclkafocnpaa
