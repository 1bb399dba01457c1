/- What holds behind several draws in a row; and the contract of a rewriting that captured a bool. -/
import Derived.Test.YtdfbclkafocnpaaFree
namespace Go.Proofs.Ytdfbclkafocnpaa
open Go.RowKit

section
variable {w : World} {g : Nat} {t : TypeId} {cs : Array Value} {o : Obj} {a : Addr} {u : Value}
theorem bel_addd : Below w.heap.size w (w.alloc o).drew.drew.drew := bel_add.drew
theorem bel_adddd : Below w.heap.size w (w.alloc o).drew.drew.drew.drew := bel_addd.drew
theorem keep_ddd (h : w.cell? a = some u) : w.drew.drew.drew.cell? a = some u := h
theorem keep_dddd (h : w.cell? a = some u) : w.drew.drew.drew.drew.cell? a = some u := h
theorem keep_addd (h : w.cell? a = some u) : (w.alloc o).drew.drew.drew.cell? a = some u := keep_new h
theorem keep_adddd (h : w.cell? a = some u) : (w.alloc o).drew.drew.drew.drew.cell? a = some u := keep_new h
theorem blk_nddd : Blk (w.alloc (.cells cs t)).drew.drew.drew w.heap.size t cs := Blk.new w t cs
theorem blk_ndddd : Blk (w.alloc (.cells cs t)).drew.drew.drew.drew w.heap.size t cs := Blk.new w t cs
end

/-- An operation of a region whose guard is not met is passed over. -/
theorem take_skip {P : Program} {ops : Array Oper} {Q : Exit → Act → World → Prop} {md : Region.Mode} {S : World → Prop} {i : Nat} {oi : Oper} {d : Option Tmp} {fuel : Nat} {listed : Array Bool} {a : Act} {w : World} (hi : ops[i]? = some oi) (hd : oi.dst = d)
    (hs : Region.noSelect ops = true) (hf : Region.free md ops listed i = true) (hr : (Region.ready md ops listed).contains i = true)
    (hQ : ∀ c a w, Q (.panic c) (a.put d undef) w → Q (.panic c) a w) (hw : Region.wanted oi (yielded ops a.tmps) = false) (hS : S w)
    (h : wpAnyH P md ops Q S fuel (listed.setIfInBounds i true) (a.put d undef) w) : wpAnyH P md ops Q S (fuel + 1) listed a w := by
  subst hd
  exact wpAnyH_take hi hs hf hr hQ (.inr ⟨hw, rfl⟩) hS h
/-- An operation of a region that yields its value is taken first. -/
theorem take_val {P : Program} {ops : Array Oper} {Q : Exit → Act → World → Prop} {md : Region.Mode} {S : World → Prop} {i : Nat} {oi : Oper} {d : Option Tmp} (v : Value) {fuel : Nat} {listed : Array Bool} {a : Act} {w : World} (hi : ops[i]? = some oi) (hd : oi.dst = d)
    (hs : Region.noSelect ops = true) (hf : Region.free md ops listed i = true) (hr : (Region.ready md ops listed).contains i = true)
    (hQ : ∀ c a w, Q (.panic c) (a.put d v) w → Q (.panic c) a w) (hw : Region.wanted oi (yielded ops a.tmps) = true) (hv : ∀ w, S w → (execOp a.eval oi).run P w = .ok (.value v) w) (hS : S w)
    (h : wpAnyH P md ops Q S fuel (listed.setIfInBounds i true) (a.put d v) w) : wpAnyH P md ops Q S (fuel + 1) listed a w := by
  subst hd
  exact wpAnyH_take hi hs hf hr hQ (.inl ⟨hw, hv⟩) hS h
end Go.Proofs.Ytdfbclkafocnpaa
