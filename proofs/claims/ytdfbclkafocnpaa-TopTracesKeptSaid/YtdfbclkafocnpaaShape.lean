/- A right formula in memory of a known kind: its form. And what a local function of a rewriting returns. -/
import Derived.Test.YtdfbclkafocnpaaClo
namespace Go.Proofs.Ytdfbclkafocnpaa
open Go.RowKit

/-- A right formula of a kind with one child has one. -/
theorem LT.is1 {facts k : Int} {L : LT} (h : L.tr.ok facts) (hk : L.tr.kind = k) (h1 : k = 3 ∨ k = 6 ∨ k = 8 ∨ k = 9) : ∃ b f v a, L = .n1 b k f v a := by
  subst hk
  rcases LT.cases_ok h with ⟨b, f, v, rfl⟩ | ⟨b, f, v, rfl⟩ | ⟨b, f, v, a, rfl⟩ | ⟨b, f, v, a, c, rfl⟩ | ⟨b, f, v, a, c, rfl⟩ | ⟨b, f, v, a, rfl⟩ | ⟨b, f, v, a, c, rfl⟩ | ⟨b, f, v, a, rfl⟩ | ⟨b, f, v, a, rfl⟩
  all_goals first
    | exact ⟨_, _, _, _, rfl⟩
    | (simp [LT.tr, Tr.kind] at h1)

/-- A right formula of a kind with two children has two. -/
theorem LT.is2 {facts k : Int} {L : LT} (h : L.tr.ok facts) (hk : L.tr.kind = k) (h1 : k = 4 ∨ k = 5 ∨ k = 7) : ∃ b f v a c, L = .n2 b k f v a c := by
  subst hk
  rcases LT.cases_ok h with ⟨b, f, v, rfl⟩ | ⟨b, f, v, rfl⟩ | ⟨b, f, v, a, rfl⟩ | ⟨b, f, v, a, c, rfl⟩ | ⟨b, f, v, a, c, rfl⟩ | ⟨b, f, v, a, rfl⟩ | ⟨b, f, v, a, c, rfl⟩ | ⟨b, f, v, a, rfl⟩ | ⟨b, f, v, a, rfl⟩
  all_goals first
    | exact ⟨_, _, _, _, _, rfl⟩
    | (simp [LT.tr, Tr.kind] at h1)

/-- A cell behind a new block. -/
theorem keep_new {w : World} {a : Addr} {v : Value} {o : Obj} (h : w.cell? a = some v) : (w.alloc o).cell? a = some v :=
  (World.cell?_alloc_lt _ _ _ (World.block_lt_of_cell? w a h)).trans h
theorem keep_drew1 {w : World} {a : Addr} {v : Value} {o : Obj} (h : w.drew.cell? a = some v) : (w.alloc o).drew.cell? a = some v := keep_new (w := w) h
theorem keep_drew2 {w : World} {a : Addr} {v : Value} {o : Obj} (h : w.drew.drew.cell? a = some v) : (w.alloc o).drew.drew.cell? a = some v := keep_new (w := w) h

/-- What the local function next of two rewritings returns. -/
theorem next30_ret (L : LT) (lo : Nat) (w : World) (h : L.In w 38 29 lo w.heap.size) : Calls Try.prog 30 #[.pointer (some ⟨L.blk, 0, none⟩)] w (RetTree 38 29 lo (.n1 6 0 L.tr) w) := by
  go_enter Try.func30, Try.ntmps30
  go_wp2_with (go_at_call 19; refine (wOf1_ret 6 L lo w h).mono ?_; rintro e w1 ⟨X, rfl, ht, hX, hb⟩)
  go_ret
  exact ⟨X, rfl, ht, hX, hb⟩
theorem next33_ret (L : LT) (lo : Nat) (w : World) (h : L.In w 38 29 lo w.heap.size) : Calls Try.prog 33 #[.pointer (some ⟨L.blk, 0, none⟩)] w (RetTree 38 29 lo (.n1 6 0 L.tr) w) := by
  go_enter Try.func33, Try.ntmps33
  go_wp2_with (go_at_call 19; refine (wOf1_ret 6 L lo w h).mono ?_; rintro e w1 ⟨X, rfl, ht, hX, hb⟩)
  go_ret
  exact ⟨X, rfl, ht, hX, hb⟩

/-- What the local function is of a rewriting returns. -/
theorem is38_ret (b : Nat) (k : Int) (w : World) (h : w.cell? ⟨b, 0, none⟩ = some (.int .i64 k)) : Calls Try.prog 38 #[.pointer (some ⟨b, 0, none⟩)] w fun e w' => e = .returned (.bool (k == 6)) ∧ w = w' := by
  go_enter Try.func38, Try.ntmps38
  go_wp2_with fail
  go_ret
  exact ⟨rfl, rfl⟩
end Go.Proofs.Ytdfbclkafocnpaa
