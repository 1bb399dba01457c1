/- slices.Backward: what its iterator hands over to a loop's body that keeps some blocks. -/
import Derived.Test.YtdfbclkafocnpaaSet
import Derived.RangeFuncNested
import Derived.RangeFuncBound
import Derived.RangeFuncCalls
import Derived.RangeFuncLeaves
import Derived.RangeFuncWrites
import Derived.Shelf.Abstract
import Derived.OwnWalkIn
import Derived.TacticsInMore
import Derived.LoopNIn
import Derived.LoopIn
namespace Go.Proofs.Ytdfbclkafocnpaa
open Go.RowKit Go.Shelf
attribute [local go_sem] Oper.semAt_some

/-- What has come when k rounds are over. -/
def upto {α : Type} (f : Nat → α) (k : Nat) : List α := (List.range k).map f
theorem upto_succ {α : Type} (f : Nat → α) (k : Nat) : upto f (k + 1) = upto f k ++ [f k] := by simp [upto, List.range_succ]
theorem upto_length {α : Type} (f : Nat → α) (k : Nat) : (upto f k).length = k := by simp [upto]

/-- The k-th pair that slices.Backward hands over. -/
def backF (zs : List Int) (j : Nat) : Int × Int := ((zs.length : Int) - 1 - j, zs[zs.length - 1 - j]?.getD 0)

/-- The cells of some blocks are kept. -/
def KeepsIn (K : Nat → Prop) (W W' : World) : Prop := ∀ p : Addr, K p.block → W'.cell? p = W.cell? p
theorem KeepsIn.refl (K : Nat → Prop) (W : World) : KeepsIn K W W := fun _ _ => rfl
theorem KeepsIn.trans {K : Nat → Prop} {A B C : World} (h : KeepsIn K A B) (k : KeepsIn K B C) : KeepsIn K A C := fun p hp => (k p hp).trans (h p hp)

set_option maxRecDepth 100000 in
set_option maxHeartbeats 2000000 in
theorem back1_in (F : Fence) (n : Nat) (h8 : F.fn 54) (hro : F.round = none) (hn : 1 ≤ n) (l Bs n₀ cap : Nat) (A : Option Addr) (zs : List Int) (hzl : zs.length ≤ 2) (K : Nat → Prop) (hKn : ∀ b, b < n₀ → K b) (hKB : K Bs) (J Jx : List (Int × Int) → World → Prop)
    (hY : ∀ pre x W, J pre W → pre.length < zs.length → YieldAt F (n - 1) Try.prog l #[.int .i64 x.1, .int .i64 x.2] W fun e W' =>
      (e = .returned (.bool true) ∧ J (pre ++ [x]) W' ∧ KeepsIn K W W') ∨ (e = .returned (.bool false) ∧ Jx (pre ++ [x]) W'))
    (W : World) (hBs : W.cell? ⟨Bs, 0, none⟩ = some (.slice A zs.length cap)) (hI : IntsAt W n₀ (.slice A zs.length cap) zs) (h0 : J [] W) :
    CallsIn F n Try.prog 54 #[.func (.yield l) #[] #[], .pointer (some ⟨Bs, 0, none⟩)] W fun e W' => (∃ v, e = .returned v) ∧
      ((∃ ys, ys = upto (backF zs) zs.length ∧ J ys W') ∨ (∃ pre, (∃ k, k ≤ zs.length ∧ pre = upto (backF zs) k) ∧ Jx pre W')) := by
  obtain ⟨A', c', hv, hl, hc, hat⟩ := hI.form
  injection hv with hv hv1 hv2
  subst hv
  subst hv2
  unfold maxLen at hc
  have HAT := Lib.hid hat
  clear hat hI hv1
  refine callsIn_of_wp Try.func54 rfl h8 ?_ hro
  simp only [Try.ntmps54, List.size_toArray, List.length_cons, List.length_nil, Nat.reduceAdd, Nat.reduceSub, Array.replicate_succ, Array.replicate_zero, List.push_toArray, List.append_toArray, List.nil_append, List.cons_append]
  gi_wp2
  gi_loopw [3] (fun i wr => ∃ k : Nat, k ≤ zs.length ∧ i = .int .i64 ((zs.length : Int) - 1 - k) ∧ J (upto (backF zs) k) wr ∧ KeepsIn K W wr)
    (fun i _ => (intOf i + 1).toNat)
  case atStart => exact ⟨0, Nat.zero_le _, by simp, h0, KeepsIn.refl _ _⟩
  case round =>
    obtain ⟨k, hk, rfl, hJs, hnx⟩ := hrel
    by_cases hlt : k < zs.length
    · obtain ⟨x, hx⟩ : ∃ x, zs[zs.length - 1 - k]? = some x := ⟨_, List.getElem?_eq_getElem (by omega)⟩
      obtain ⟨b, off, rfl, hb, hcell⟩ := HAT.out _ x hx
      have hbf : backF zs k = ((zs.length : Int) - 1 - k, x) := by unfold backF; rw [hx]; rfl
      have hcx : wr.cell? ⟨b, off + (zs.length - 1 - k), none⟩ = some (.int .i64 x) := (hnx ⟨b, off + (zs.length - 1 - k), none⟩ (hKn b hb)).trans hcell
      have hbx : wr.cell? ⟨Bs, 0, none⟩ = some (.slice (some ⟨b, off, none⟩) zs.length cap) := (hnx ⟨Bs, 0, none⟩ hKB).trans hBs
      obtain ⟨fn, tmps, assign, body, hy, hR⟩ := hY _ ((zs.length : Int) - 1 - k, x) wr hJs (by rw [upto_length]; exact hlt)
      dsimp only at hy
      have HBF := Lib.hid hbf
      clear hx hbf
      obtain ⟨m, hm⟩ : ∃ m : Nat, zs.length - 1 - k = m := ⟨_, rfl⟩
      have hm' : ((zs.length : Int) - 1 - k) = (m : Int) := by omega
      have hml : (m : Int) < (zs.length : Int) := by omega
      have hm0 : (0 : Int) ≤ (m : Int) := by omega
      rw [hm] at hcx
      rw [hm'] at hy hR HBF ⊢
      have HM := Lib.hid hm'
      clear hm hm' hcell
      gi_wp2
      refine hR.mono ?_
      rintro e W3 (⟨rfl, hJ3, hk3⟩ | ⟨rfl, hJx3⟩)
      · gi_wp2
        go_roundw
        case rel => exact ⟨k + 1, by omega, by have := HM.out; rw [← this]; simp; omega, by rw [upto_succ, HBF.out]; exact hJ3, hnx.trans hk3⟩
        case measure => simp [intOf]
      · gi_wp2
        refine bodyPost_ret (results_none rfl _ _ _) rfl ?_
        exact ⟨⟨_, rfl⟩, .inr ⟨_, ⟨k + 1, by omega, by rw [upto_succ, HBF.out]⟩, hJx3⟩⟩
    · obtain rfl : k = zs.length := by omega
      have hneg : ((zs.length : Int) - 1 - zs.length) = -1 := by omega
      rw [hneg]
      clear hneg
      gi_wp2
      go_end0
      exact ⟨⟨_, rfl⟩, .inl ⟨_, rfl, hJs⟩⟩

theorem back_in (F : Fence) (n : Nat) (h5 : F.fn 49) (hro : F.round = none) (a : Option Addr) (len cap : Nat) (w : World) :
    CallsIn F n Try.prog 49 #[.slice a len cap] w fun e w' => e = .returned (.func (.func 54) #[] #[.pointer (some ⟨w.heap.size, 0, none⟩)]) ∧ w.alloc (.cells #[.slice a len cap] 48) = w' := by
  refine callsIn_of_wp Try.func49 rfl h5 ?_ hro
  simp only [Try.ntmps49, List.size_toArray, List.length_cons, List.length_nil, Nat.reduceAdd, Nat.reduceSub, Array.replicate_succ, Array.replicate_zero, List.push_toArray, List.append_toArray, List.nil_append, List.cons_append]
  gi_wp2
  go_ret
  exact ⟨rfl, rfl⟩

theorem back_stops (F : Fence) (n : Nat) (h8 : F.fn 54) (hro : F.round = none) (hn : 1 ≤ n) (Bs n₀ cap : Nat) (A : Option Addr) (zs : List Int) (hzl : zs.length ≤ 2) (K : Nat → Prop) (hKn : ∀ b, b < n₀ → K b) (hKB : K Bs) (w : World) (hBl : Bs < w.heap.size) (hn₀ : n₀ ≤ w.heap.size)
    (hBs : w.cell? ⟨Bs, 0, none⟩ = some (.slice A zs.length cap)) (hI : IntsAt w n₀ (.slice A zs.length cap) zs) :
    SeqStopsK F n Try.prog 54 #[.pointer (some ⟨Bs, 0, none⟩)] (fun x : Int × Int => #[Value.int .i64 x.1, Value.int .i64 x.2]) (KeepsIn K) (fun ys => ys = upto (backF zs) zs.length)
      (fun pre => ∃ k, k ≤ zs.length ∧ pre = upto (backF zs) k) zs.length w := fun l J Jx W hW _ _ hY h0 =>
  back1_in F n h8 hro hn l Bs n₀ cap A zs hzl K hKn hKB J Jx hY W ((hW.cell (p := ⟨Bs, 0, none⟩) hBl).trans hBs) (hI.below hW hn₀) h0
end Go.Proofs.Ytdfbclkafocnpaa
