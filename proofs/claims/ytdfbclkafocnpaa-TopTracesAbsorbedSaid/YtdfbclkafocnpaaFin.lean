/- What all laws share behind the rewriting: wPut and wTrace joined, and a row's last step. -/
import Derived.Test.YtdfbclkafocnpaaTrace
import Derived.Test.YtdfbclkafocnpaaClo
import Derived.Test.YtdfbclkafocnpaaArgs
import Derived.Test.YtdfbclkafocnpaaRows
namespace Go.Proofs.Ytdfbclkafocnpaa
open Go.ChangeShapes Go.WideShapes Go.ChangeAt Go.RowKit

theorem Try.own : ownKnob Try.prog.godebug = none := by kernel_rfl
theorem Try.laidOut : laidOutB Try.prog = true := by kernel_rfl

/-- wPut's two boxes, in whatever world. -/
def PutPost (x : Int) (kf : Nat) (caps : Array Value) (w : World) (e : Ending) (w' : World) : Prop :=
  ∃ tb wb : Nat, e = .returned (.func (.func 44) #[] #[.pointer (some ⟨tb, 0, none⟩), .pointer (some ⟨wb, 0, none⟩)]) ∧ Blk w' tb 30 #[.func (.func kf) #[] caps] ∧ Blk w' wb 3 #[.int .i64 x] ∧ Below w.heap.size w w'
theorem wPut_ret (x : Int) (kf : Nat) (caps : Array Value) (w : World) : Calls Try.prog 16 #[.int .i64 x, .func (.func kf) #[] caps] w (PutPost x kf caps w) :=
  (wPut_any x kf caps w).mono fun _ _ ⟨he, hw⟩ => by
    subst he; subst hw
    refine ⟨_, _, rfl, ?_, (Blk.new _ _ _).alloc _, ((Below.refl _ w).alloc (Nat.le_refl _) _).alloc (by simp) _⟩
    have := Blk.new (w.alloc (.cells #[.int .i64 x] 3)) 30 #[.func (.func kf) #[] caps]
    rw [World.size_alloc] at this
    exact this

theorem change_ok {facts : Int} {app : Tr → Bool} {kf : Nat} {caps : Array Value} {w1 : World} {tb wb : Nat} {x : Int} (htb : Blk w1 tb 30 #[.func (.func kf) #[] caps]) (hwb : Blk w1 wb 3 #[.int .i64 x])
    (hby : ∀ W, Below w1.heap.size w1 W → ByOk facts app kf caps W.heap.size W) : ChangeOk facts 44 #[.pointer (some ⟨tb, 0, none⟩), .pointer (some ⟨wb, 0, none⟩)] w1 := by
  refine ⟨enters_of Try.func44 (by kernel_rfl) rfl, fun L W lo hb hlo hL hok h60 => ?_⟩
  exact put_any facts app kf caps L W lo tb wb x hL hok h60 (htb.below hb htb.lt) (hwb.below hb hwb.lt) (hby W hb)

/-- The formula's box, another box, the change, wTrace. -/
theorem law_any (facts : Int) (ns : List Nd) (ss : States) (u vs : Value) (w w1 : World) (kc : Nat) (caps : Array Value) (hN : NodesAt w w.heap.size u ns) (hS : StatesAt w w.heap.size vs ss) (hb : Below w.heap.size w w1) (hch : ChangeOk facts kc caps w1) :
    Calls Try.prog 15 #[.agg #[u], .int .i64 facts, vs, .func (.func kc) #[] caps] w1 (fun e w' => e = .returned (.bool true) ∧ Below w1.heap.size w1 w') :=
  trace_any facts ns ss u vs kc caps w1 w.heap.size (hN.below hb (Nat.le_refl _)) (hS.below hb (Nat.le_refl _)) hb.size hch

/-- A row's last step: true, and what came in reads as it did. -/
theorem law_post {H : Type} {enc : TypeId × Value → H} {f : Func} {s : ChangeSpec} {W W' : World} {args : Array Value} {ds : List (DataW H)} {p : List MemPlace} (hW : DataW.Whole enc Try.prog f.params.toList s.vars false W args.toList ds [] p)
    (hr : (f.params.toList.all fun t => Try.prog.readableRec t && decide (t < Try.prog.types.size)) = true) (hA : DataW.TrodAll enc Try.prog W 0 (fun _ => true) true f.params.toList args.toList ds p) (hb : Below W.heap.size W W')
    (hres : f.resultTypes = #[4]) (hres' : (s.fn H (ds ++ [])).results = [.lit (.bool true)]) (hargs : (s.fn H (ds ++ [])).args = ds) (hvars : (s.fn H (ds ++ [])).vars = []) (hv : s.vars = []) : s.post enc Try.prog f false true false false W args (.bool true) W' := by
  have hlt : ∀ x ∈ p, x.block < W.heap.size := fun x hx => hW.lt x hx
  refine ⟨_, _, _, [], p, [], hW, ?_, ?_, ?_, hb.frame _, fun h => by cases h⟩
  · rw [hres, hres']
    exact trodAll_mk1 (shut_bool Try.underlying4 _)
  · rw [hargs]
    exact trodAll_below Try.laidOut _ _ _ _ hr hA hb hlt
  · rw [hvars, hv]; rfl
end Go.Proofs.Ytdfbclkafocnpaa
