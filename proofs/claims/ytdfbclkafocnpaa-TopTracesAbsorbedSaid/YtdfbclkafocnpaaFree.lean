/- New nodes whose rows of children were made before, in whatever order: for the statements where Go leaves the order of the rows open. -/
import Derived.Test.YtdfbclkafocnpaaShape
namespace Go.Proofs.Ytdfbclkafocnpaa
open Go.RowKit

section
variable {v w W w' : World} {lo g : Nat} {t : TypeId} {cs : Array Value} {o o' : Obj} {a : Addr} {u : Value}

/-- A tree is returned; nothing that was there in one of two worlds is written. -/
def RetTree2 (lo : Nat) (T : Tr) (v W : World) (e : Ending) (w' : World) : Prop :=
  ∃ X : LT, e = .returned (.pointer (some ⟨X.blk, 0, none⟩)) ∧ X.tr = T ∧ X.In w' 38 29 lo w'.heap.size ∧ Below v.heap.size v w' ∧ Below W.heap.size W w'

theorem RetTree.two {T : Tr} {e : Ending} (hu : Below v.heap.size v W) (h : RetTree 38 29 lo T W e w') : RetTree2 lo T v W e w' := by
  obtain ⟨X, h1, h2, h3, h4⟩ := h
  exact ⟨X, h1, h2, h3, hu.trans (h4.mono hu.size), h4⟩

theorem row_blk {ps : List Value} {n : Nat} (hlo : lo ≤ g) (hn : ps.length = n) (hm : n ≤ maxLen) (hb : Blk W g 29 ps.toArray) : Row W 29 lo W.heap.size (.slice (some ⟨g, 0, none⟩) n n) ps := by
  subst hn
  refine ⟨⟨by omega, .inr ⟨g, ps.length, ps.toArray, rfl, hlo, hb, Nat.le_refl _, hm, by simp, by simp⟩⟩, fun g' h => ?_⟩
  have e : g = g' := by simpa [Value.ownBlock] using h
  subst e
  exact hb.lt

theorem wOf1_row (k : Int) (L : LT) (lo : Nat) (v W : World) (g : Nat) (hu : Below v.heap.size v W) (hg : lo ≤ g) (hb : Blk W g 29 #[.pointer (some ⟨L.blk, 0, none⟩)]) (h : L.In v 38 29 lo v.heap.size) :
    Calls Try.prog 19 #[.int .i64 k, .slice (some ⟨g, 0, none⟩) 1 1] W (RetTree2 lo (.n1 k 0 L.tr) v W) :=
  (wOf_any k _ 1 1 _).mono fun _ _ ⟨he, hw⟩ => by
    subst he; subst hw
    refine RetTree.two hu ?_
    refine ret_mk (cs := [L]) k (Below.refl _ _) (Nat.le_trans h.le hu.size) ?_ (fun c hc => ?_) (by simp)
    · exact row_blk hg rfl (by decide) hb
    · simp at hc; subst hc; exact (h.below hu (Nat.le_refl _)).mono (Nat.le_refl _) hu.size
theorem wOf2_row (k : Int) (L M : LT) (lo : Nat) (v W : World) (g : Nat) (hu : Below v.heap.size v W) (hg : lo ≤ g) (hb : Blk W g 29 #[.pointer (some ⟨L.blk, 0, none⟩), .pointer (some ⟨M.blk, 0, none⟩)]) (h : L.In v 38 29 lo v.heap.size) (hM : M.In v 38 29 lo v.heap.size) :
    Calls Try.prog 19 #[.int .i64 k, .slice (some ⟨g, 0, none⟩) 2 2] W (RetTree2 lo (.n2 k 0 L.tr M.tr) v W) :=
  (wOf_any k _ 2 2 _).mono fun _ _ ⟨he, hw⟩ => by
    subst he; subst hw
    refine RetTree.two hu ?_
    refine ret_mk (cs := [L, M]) k (Below.refl _ _) (Nat.le_trans h.le hu.size) ?_ (fun c hc => ?_) (by simp)
    · exact row_blk hg rfl (by decide) hb
    · simp at hc; rcases hc with rfl | rfl
      · exact (h.below hu (Nat.le_refl _)).mono (Nat.le_refl _) hu.size
      · exact (hM.below hu (Nat.le_refl _)).mono (Nat.le_refl _) hu.size
theorem wSame_at (L : LT) (lo : Nat) (v W : World) (hu : Below v.heap.size v W) (h : L.In v 38 29 lo v.heap.size) : Calls Try.prog 20 #[.pointer (some ⟨L.blk, 0, none⟩)] W (RetTree2 lo L.tr v W) :=
  (wSame_ret L lo W ((h.below hu (Nat.le_refl _)).mono (Nat.le_refl _) hu.size)).mono fun _ _ g => RetTree.two hu g

theorem bel_a : Below w.heap.size w (w.alloc o) := (Below.refl _ w).alloc (Nat.le_refl _) _
theorem bel_aa : Below w.heap.size w ((w.alloc o).alloc o') := bel_a.trans (bel_a.mono bel_a.size)
theorem bel_d : Below w.heap.size w w.drew := (Below.refl _ w).drew
theorem bel_ad : Below w.heap.size w (w.alloc o).drew := bel_a.drew
theorem bel_aad : Below w.heap.size w ((w.alloc o).alloc o').drew := bel_aa.drew
theorem bel_dd : Below w.heap.size w w.drew.drew := bel_d.drew
theorem bel_add : Below w.heap.size w (w.alloc o).drew.drew := bel_ad.drew

theorem keep_ad (h : w.cell? a = some u) : (w.alloc o).drew.cell? a = some u := keep_new h
theorem keep_aa (h : w.cell? a = some u) : ((w.alloc o).alloc o').cell? a = some u := keep_new (keep_new h)
theorem keep_aad (h : w.cell? a = some u) : ((w.alloc o).alloc o').drew.cell? a = some u := keep_aa h
theorem keep_d (h : w.cell? a = some u) : w.drew.cell? a = some u := h
theorem keep_dd (h : w.cell? a = some u) : w.drew.drew.cell? a = some u := h
theorem keep_add (h : w.cell? a = some u) : (w.alloc o).drew.drew.cell? a = some u := keep_new h

theorem Blk.later (h : Blk W g t cs) (hc : Below W.heap.size W w') : Blk w' g t cs := h.below hc h.lt
theorem blk_p : Blk ((w.alloc o).alloc (.cells cs t)) (w.heap.size + 1) t cs := by
  have := Blk.new (w.alloc o) t cs
  rwa [World.size_alloc] at this
theorem blk_q : Blk ((w.alloc (.cells cs t)).alloc o) w.heap.size t cs := (Blk.new w t cs).alloc o
theorem blk_pd : Blk ((w.alloc o).alloc (.cells cs t)).drew (w.heap.size + 1) t cs := blk_p
theorem blk_qd : Blk ((w.alloc (.cells cs t)).alloc o).drew w.heap.size t cs := blk_q
theorem blk_nd : Blk (w.alloc (.cells cs t)).drew w.heap.size t cs := Blk.new w t cs
theorem blk_ndd : Blk (w.alloc (.cells cs t)).drew.drew w.heap.size t cs := Blk.new w t cs
end
end Go.Proofs.Ytdfbclkafocnpaa
