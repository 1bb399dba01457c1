/- What all rewritings share: new nodes, opened nodes, and what a rewriting returns. -/
import Derived.Test.YtdfbclkafocnpaaPut
namespace Go.Proofs.Ytdfbclkafocnpaa
open Go.RowKit

theorem LT.In.up2 {L : LT} {w w' : World} {S E : TypeId} {lo : Nat} (h : L.In w S E lo w.heap.size) (hb : Below w.heap.size w w') : L.In w' S E lo w'.heap.size :=
  (h.below hb (Nat.le_refl _)).mono (Nat.le_refl _) hb.size

theorem wOf1_ret (k : Int) (L : LT) (lo : Nat) (w : World) (h : L.In w 38 29 lo w.heap.size) :
    Calls Try.prog 19 #[.int .i64 k, .slice (some ⟨w.heap.size, 0, none⟩) 1 1] (w.alloc (.cells #[.pointer (some ⟨L.blk, 0, none⟩)] 29)) (RetTree 38 29 lo (.n1 k 0 L.tr) w) :=
  (wOf_any k _ 1 1 _).mono fun _ _ ⟨he, hw⟩ => by
    subst he; subst hw
    rw [World.size_alloc]
    exact ret_lit1 k h.le h
theorem wOf2_ret (k : Int) (L M : LT) (lo : Nat) (w : World) (h : L.In w 38 29 lo w.heap.size) (hM : M.In w 38 29 lo w.heap.size) :
    Calls Try.prog 19 #[.int .i64 k, .slice (some ⟨w.heap.size, 0, none⟩) 2 2] (w.alloc (.cells #[.pointer (some ⟨L.blk, 0, none⟩), .pointer (some ⟨M.blk, 0, none⟩)] 29)) (RetTree 38 29 lo (.n2 k 0 L.tr M.tr) w) :=
  (wOf_any k _ 2 2 _).mono fun _ _ ⟨he, hw⟩ => by
    subst he; subst hw
    rw [World.size_alloc]
    exact ret_lit2 k h.le h hM
theorem wSame_ret (L : LT) (lo : Nat) (w : World) (h : L.In w 38 29 lo w.heap.size) : Calls Try.prog 20 #[.pointer (some ⟨L.blk, 0, none⟩)] w (RetTree 38 29 lo L.tr w) :=
  (same_any _ L w lo _ (Nat.le_refl _) h (Nat.le_refl _)).mono fun _ _ g => g.lower h.le

/-- The number that wPick picks. -/
theorem pick_det (x : Int) (n : Nat) (hn : 0 < n) (hn' : n ≤ 1000000) : ∃ i : Nat, i < n ∧ ∀ w : World, Calls Try.prog 22 #[.int .i64 x, .int .i64 (n : Int)] w fun e w' => e = .returned (.int .i64 (i : Int)) ∧ w = w' := by
  have h2 : 0 ≤ (IntKind.u64.wrap x) % (n : Int) := Int.emod_nonneg _ (by omega)
  have h3 : (IntKind.u64.wrap x) % (n : Int) < n := Int.emod_lt_of_pos _ (by omega)
  refine ⟨((IntKind.u64.wrap x) % (n : Int)).toNat, by omega, fun w => ?_⟩
  clear h2 h3
  go_enter Try.func22, Try.ntmps22
  go_wp2_with fail
  go_ret
  have h0 : 0 ≤ IntKind.u64.wrap x := by rw [IntKind.wrap_u64]; omega
  have h1 : (IntKind.u64.wrap x).tmod (n : Int) = (IntKind.u64.wrap x) % (n : Int) := Int.tmod_eq_emod_of_nonneg h0
  have h2 : 0 ≤ (IntKind.u64.wrap x) % (n : Int) := Int.emod_nonneg _ (by omega)
  have h3 : (IntKind.u64.wrap x) % (n : Int) < n := Int.emod_lt_of_pos _ (by omega)
  refine ⟨?_, rfl⟩
  show Ending.returned (Value.int IntKind.i64 (wrap64 ((IntKind.u64.wrap x).tmod ↑n))) = _
  rw [h1, IntWalk.wrap64_in _ (by omega), Int.toNat_of_nonneg h2]

section
variable {w : World} {S E : TypeId} {lo hi : Nat}
theorem LT.open0 {L : LT} (h : L.In w S E lo hi) : w.cell? ⟨L.blk, 0, none⟩ = some (.int .i64 L.tr.kind) := h.node.2.2.1.cell 0
theorem LT.open1 {b : Nat} {k f : Int} {v : Value} {a : LT} (h : (LT.n1 b k f v a).In w S E lo hi) : ∃ g cap, v = .slice (some ⟨g, 0, none⟩) 1 cap ∧ w.cell? ⟨b, 0, none⟩ = some (.int .i64 k) ∧ w.cell? ⟨b, 2, none⟩ = some (.slice (some ⟨g, 0, none⟩) 1 cap) ∧
    w.cell? ⟨g, 0, none⟩ = some (.pointer (some ⟨a.blk, 0, none⟩)) ∧ a.In w S E lo hi := by
  obtain ⟨⟨h1, h2, h3, h4⟩, ha⟩ := h
  obtain ⟨A, cap, rfl, hc1, hc2, hc⟩ := h4.form
  obtain ⟨g, rfl, g1, g2, g3, g4, g5⟩ := hc 0 a.ptr rfl
  exact ⟨g, cap, rfl, h3.cell 0, h3.cell 2, g4, ha⟩
theorem LT.open2 {b : Nat} {k f : Int} {v : Value} {a c : LT} (h : (LT.n2 b k f v a c).In w S E lo hi) : ∃ g cap, v = .slice (some ⟨g, 0, none⟩) 2 cap ∧ w.cell? ⟨b, 0, none⟩ = some (.int .i64 k) ∧ w.cell? ⟨b, 2, none⟩ = some (.slice (some ⟨g, 0, none⟩) 2 cap) ∧
    w.cell? ⟨g, 0, none⟩ = some (.pointer (some ⟨a.blk, 0, none⟩)) ∧ w.cell? ⟨g, 1, none⟩ = some (.pointer (some ⟨c.blk, 0, none⟩)) ∧ a.In w S E lo hi ∧ c.In w S E lo hi := by
  obtain ⟨⟨h1, h2, h3, h4⟩, ha, hc'⟩ := h
  obtain ⟨A, cap, rfl, hc1, hc2, hc⟩ := h4.form
  obtain ⟨g, rfl, g1, g2, g3, g4, g5⟩ := hc 0 a.ptr rfl
  obtain ⟨g', e, g1', g2', g3', g4', g5'⟩ := hc 1 c.ptr rfl
  injection e with e
  injection e with e
  subst e
  exact ⟨g, cap, rfl, h3.cell 0, h3.cell 2, g4, g4', ha, hc'⟩
end

/-- The nine forms of a right formula in memory. -/
theorem LT.cases_ok {facts : Int} {L : LT} (h : L.tr.ok facts) : (∃ b f v, L = .n0 b 1 f v) ∨ (∃ b f v, L = .n0 b 2 f v) ∨ (∃ b f v a, L = .n1 b 3 f v a) ∨ (∃ b f v a c, L = .n2 b 4 f v a c) ∨ (∃ b f v a c, L = .n2 b 5 f v a c) ∨
    (∃ b f v a, L = .n1 b 6 f v a) ∨ (∃ b f v a c, L = .n2 b 7 f v a c) ∨ (∃ b f v a, L = .n1 b 8 f v a) ∨ (∃ b f v a, L = .n1 b 9 f v a) := by
  cases L with
  | n0 b k f v =>
    rcases h with rfl | ⟨rfl, _⟩
    · exact .inl ⟨b, f, v, rfl⟩
    · exact .inr (.inl ⟨b, f, v, rfl⟩)
  | n1 b k f v a =>
    obtain ⟨rfl | rfl | rfl | rfl, _⟩ := h
    · exact .inr (.inr (.inl ⟨b, f, v, a, rfl⟩))
    · exact .inr (.inr (.inr (.inr (.inr (.inl ⟨b, f, v, a, rfl⟩)))))
    · exact .inr (.inr (.inr (.inr (.inr (.inr (.inr (.inl ⟨b, f, v, a, rfl⟩)))))))
    · exact .inr (.inr (.inr (.inr (.inr (.inr (.inr (.inr ⟨b, f, v, a, rfl⟩)))))))
  | n2 b k f v a c =>
    obtain ⟨rfl | rfl | rfl, _⟩ := h
    · exact .inr (.inr (.inr (.inl ⟨b, f, v, a, c, rfl⟩)))
    · exact .inr (.inr (.inr (.inr (.inl ⟨b, f, v, a, c, rfl⟩))))
    · exact .inr (.inr (.inr (.inr (.inr (.inr (.inl ⟨b, f, v, a, c, rfl⟩))))))

/-- A rewriting returned this tree. -/
theorem by_yes {facts : Int} {app : Tr → Bool} {L X : LT} {lo : Nat} {w W w' : World} {T : Tr} (happ : app L.tr = true) (hLo : lo ≤ W.heap.size) (h0 : Below lo w W) (hb : Below W.heap.size W w') (hX : X.In w' 38 29 lo w'.heap.size) (hT : X.tr = T) (hS : Same T L.tr) (hok : T.ok facts) (hsz : T.size ≤ 3 * L.tr.size + 200) :
    ByPost facts app L lo w (.returned (.pointer (some ⟨X.blk, 0, none⟩))) w' := by
  subst hT
  exact ⟨h0.trans (hb.mono hLo), .inr ⟨happ, X, rfl, hS, hok, hsz, hX⟩⟩
theorem by_no {facts : Int} {app : Tr → Bool} {L : LT} {lo : Nat} {w W : World} (happ : app L.tr = false) (h0 : Below lo w W) : ByPost facts app L lo w (.returned (.pointer none)) W := ⟨h0, .inl ⟨happ, rfl⟩⟩
end Go.Proofs.Ytdfbclkafocnpaa
