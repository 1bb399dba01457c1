/- The equalities of formulas over lists of states that the laws stand on. Plain Lean: no program, no memory. -/
import Derived.Test.YtdfbclkafocnpaaTr
namespace Go.Proofs.Ytdfbclkafocnpaa

section
variable (x y z : Tr) (f g h k : Int)

theorem sm_true (ss : States) : sem (.n0 1 f) ss = true := by simp [sem]
theorem sm_not (ss : States) : sem (.n1 3 f x) ss = !sem x ss := by simp [sem]
theorem sm_and (ss : States) : sem (.n2 4 f x y) ss = (sem x ss && sem y ss) := by simp [sem]
theorem sm_or (ss : States) : sem (.n2 5 f x y) ss = (sem x ss || sem y ss) := by simp [sem]
theorem sm_next (ss : States) : sem (.n1 6 f x) ss = nextL (sem x) ss := by simp [sem]
theorem sm_always (ss : States) : sem (.n1 8 f x) ss = alwaysL (sem x) ss := by simp [sem]
theorem sm_some (ss : States) : sem (.n1 9 f x) ss = sometimeL (sem x) ss := by simp [sem]
theorem sm_until (ss : States) : sem (.n2 7 f x y) ss = untilL (sem x) (sem y) ss := by simp [sem]

/-! lists -/
variable (p q r : States → Bool)
theorem always_not : ∀ ss, alwaysL (fun s => !p s) ss = !sometimeL p ss
  | [] => rfl
  | s :: t => by simp only [alwaysL, sometimeL, always_not t]; cases p (s :: t) <;> rfl
theorem some_not : ∀ ss, sometimeL (fun s => !p s) ss = !alwaysL p ss
  | [] => rfl
  | s :: t => by simp only [alwaysL, sometimeL, some_not t]; cases p (s :: t) <;> rfl
theorem always_and : ∀ ss, alwaysL (fun s => p s && q s) ss = (alwaysL p ss && alwaysL q ss)
  | [] => rfl
  | s :: t => by simp only [alwaysL, always_and t]; cases p (s :: t) <;> cases q (s :: t) <;> cases alwaysL p t <;> rfl
theorem some_or : ∀ ss, sometimeL (fun s => p s || q s) ss = (sometimeL p ss || sometimeL q ss)
  | [] => rfl
  | s :: t => by simp only [sometimeL, some_or t]; cases p (s :: t) <;> cases q (s :: t) <;> cases sometimeL p t <;> rfl
theorem always_step : ∀ ss, alwaysL (alwaysL p) ss = alwaysL p ss
  | [] => rfl
  | s :: t => by simp only [alwaysL, always_step t]; cases p (s :: t) <;> cases alwaysL p t <;> rfl
theorem some_step : ∀ ss, sometimeL (sometimeL p) ss = sometimeL p ss
  | [] => rfl
  | s :: t => by simp only [sometimeL, some_step t]; cases p (s :: t) <;> cases sometimeL p t <;> rfl
theorem until_step : ∀ ss, untilL p (untilL p q) ss = untilL p q ss
  | [] => rfl
  | s :: t => by simp only [untilL, until_step t]; cases p (s :: t) <;> cases q (s :: t) <;> cases untilL p q t <;> rfl
theorem until_beside : ∀ ss, untilL (fun s => p s && !q s) q ss = untilL p q ss
  | [] => rfl
  | s :: t => by simp only [untilL, until_beside t]; cases p (s :: t) <;> cases q (s :: t) <;> rfl
theorem until_true : ∀ ss, untilL (fun _ => true) q ss = sometimeL q ss
  | [] => rfl
  | s :: t => by simp only [untilL, sometimeL, until_true t, Bool.true_and]
theorem until_some : ∀ ss, (sometimeL q ss && untilL p q ss) = untilL p q ss
  | [] => rfl
  | s :: t => by have := until_some t; simp only [untilL, sometimeL]; cases q (s :: t) <;> simp_all <;> cases p (s :: t) <;> simp_all
theorem until_and : ∀ ss, untilL (fun s => p s && q s) r ss = (untilL p r ss && untilL q r ss)
  | [] => rfl
  | s :: t => by simp only [untilL, until_and t]; cases p (s :: t) <;> cases q (s :: t) <;> cases r (s :: t) <;> cases untilL p r t <;> rfl
theorem until_or : ∀ ss, untilL p (fun s => q s || r s) ss = (untilL p q ss || untilL p r ss)
  | [] => rfl
  | s :: t => by simp only [untilL, until_or t]; cases p (s :: t) <;> cases q (s :: t) <;> cases r (s :: t) <;> cases untilL p q t <;> rfl
theorem some_next : ∀ ss, sometimeL (nextL p) ss = nextL (sometimeL p) ss
  | [] => rfl
  | [_] => rfl
  | s :: t :: u => by
    have := some_next (t :: u)
    simp only [sometimeL, nextL] at *
    rw [this]
    cases u <;> simp [sometimeL]
theorem until_next : ∀ ss, untilL (nextL p) (nextL q) ss = nextL (untilL p q) ss
  | [] => rfl
  | [s] => by simp [untilL, nextL]
  | s :: t :: u => by
    have := until_next (t :: u)
    simp only [untilL, nextL] at *
    rw [this]
    cases u <;> simp [untilL]

theorem fn_not : sem (.n1 3 f x) = fun s => !sem x s := funext (sm_not x f)
theorem fn_and : sem (.n2 4 f x y) = fun s => sem x s && sem y s := funext (sm_and x y f)
theorem fn_or : sem (.n2 5 f x y) = fun s => sem x s || sem y s := funext (sm_or x y f)
theorem fn_next : sem (.n1 6 f x) = nextL (sem x) := funext (sm_next x f)
theorem fn_always : sem (.n1 8 f x) = alwaysL (sem x) := funext (sm_always x f)
theorem fn_some : sem (.n1 9 f x) = sometimeL (sem x) := funext (sm_some x f)
theorem fn_until : sem (.n2 7 f x y) = untilL (sem x) (sem y) := funext (sm_until x y f)
theorem fn_true : sem (.n0 1 f) = fun _ => true := funext (sm_true f)

/-! TopTracesKept -/
theorem kept_notnot : Same (.n1 3 0 (.n1 3 0 x)) x := fun s r => by simp [sm_not]
theorem kept_and : Same (.n2 4 0 x x) x := fun s r => by simp [sm_and]
theorem kept_or : Same (.n2 5 0 x x) x := fun s r => by simp [sm_or]
theorem kept_true : Same (.n2 4 0 x (.n0 1 0)) x := fun s r => by simp [sm_and, sm_true]
theorem kept_false : Same (.n2 5 0 (.n1 3 0 (.n0 1 0)) x) x := fun s r => by simp [sm_or, sm_not, sm_true]

/-! TopTracesDenied -/
theorem denied_and : Same (.n1 3 0 (.n2 5 f (.n1 3 0 x) (.n1 3 0 y))) (.n2 4 g x y) := fun s r => by simp [sm_or, sm_and, sm_not]
theorem denied_or : Same (.n1 3 0 (.n2 4 f (.n1 3 0 x) (.n1 3 0 y))) (.n2 5 g x y) := fun s r => by simp [sm_or, sm_and, sm_not]
theorem denied_always : Same (.n1 3 0 (.n1 9 f (.n1 3 0 x))) (.n1 8 g x) := fun s r => by simp [sm_not, sm_some, sm_always, fn_not, some_not]
theorem denied_some : Same (.n1 3 0 (.n1 8 f (.n1 3 0 x))) (.n1 9 g x) := fun s r => by simp [sm_not, sm_some, sm_always, fn_not, always_not]

/-! TopTracesTurned -/
theorem turned_and : Same (.n2 4 0 y x) (.n2 4 g x y) := fun s r => by simp only [sm_and]; exact Bool.and_comm _ _
theorem turned_or : Same (.n2 5 0 y x) (.n2 5 g x y) := fun s r => by simp only [sm_or]; exact Bool.or_comm _ _
theorem group_and : Same (.n2 4 0 x (.n2 4 0 y z)) (.n2 4 g (.n2 4 h x y) z) := fun s r => by simp only [sm_and, Bool.and_assoc]
theorem group_or : Same (.n2 5 0 x (.n2 5 0 y z)) (.n2 5 g (.n2 5 h x y) z) := fun s r => by simp only [sm_or, Bool.or_assoc]
theorem group_and' : Same (.n2 4 0 (.n2 4 0 x y) z) (.n2 4 g x (.n2 4 h y z)) := fun s r => by simp only [sm_and, Bool.and_assoc]
theorem group_or' : Same (.n2 5 0 (.n2 5 0 x y) z) (.n2 5 g x (.n2 5 h y z)) := fun s r => by simp only [sm_or, Bool.or_assoc]

/-! TopTracesAbsorbed -/
theorem absorbed_0 : Same (.n2 4 0 x (.n2 5 0 x y)) x := fun s r => by simp only [sm_and, sm_or]; cases sem x (s :: r) <;> rfl
theorem absorbed_1 : Same (.n2 5 0 (.n2 4 0 y x) x) x := fun s r => by simp only [sm_and, sm_or]; cases sem x (s :: r) <;> cases sem y (s :: r) <;> rfl
theorem absorbed_2 : Same (.n2 4 0 (.n2 5 0 y (.n1 3 0 y)) x) x := fun s r => by simp only [sm_and, sm_or, sm_not]; cases sem x (s :: r) <;> cases sem y (s :: r) <;> rfl

/-! TopTracesDistributed -/
theorem distributed_and : Same (.n2 5 0 (.n2 4 0 x y) (.n2 4 0 x z)) (.n2 4 g x (.n2 5 h y z)) := fun s r => by simp only [sm_and, sm_or]; cases sem x (s :: r) <;> rfl
theorem distributed_or : Same (.n2 4 0 (.n2 5 0 x y) (.n2 5 0 x z)) (.n2 5 g x (.n2 4 h y z)) := fun s r => by simp only [sm_and, sm_or]; cases sem x (s :: r) <;> rfl
theorem distributed_and' : Same (.n2 5 0 (.n2 4 0 x y) (.n2 4 0 x z)) (.n2 4 g (.n2 5 h y z) x) := fun s r => by simp only [sm_and, sm_or]; cases sem x (s :: r) <;> cases sem y (s :: r) <;> cases sem z (s :: r) <;> rfl
theorem distributed_or' : Same (.n2 4 0 (.n2 5 0 x y) (.n2 5 0 x z)) (.n2 5 g (.n2 4 h y z) x) := fun s r => by simp only [sm_and, sm_or]; cases sem x (s :: r) <;> cases sem y (s :: r) <;> cases sem z (s :: r) <;> rfl

/-! TopNextsDenied -/
theorem nexts_not : Same (.n2 5 0 (.n1 3 0 (.n1 6 0 (.n0 1 0))) (.n1 6 0 (.n1 3 0 x))) (.n1 3 g (.n1 6 h x)) := fun s r => by
  simp only [sm_or, sm_not, sm_next, fn_not, fn_true]
  cases r <;> simp [nextL]
theorem nexts_next : Same (.n2 4 0 (.n1 6 0 (.n0 1 0)) (.n1 3 0 (.n1 6 0 (.n1 3 0 x)))) (.n1 6 g x) := fun s r => by
  simp only [sm_and, sm_not, sm_next, fn_not, fn_true]
  cases r <;> simp [nextL]

/-! TopNextsOfBoth -/
theorem next_and : Same (.n2 4 0 (.n1 6 0 x) (.n1 6 0 y)) (.n1 6 g (.n2 4 h x y)) := fun s r => by simp only [sm_and, sm_next, fn_and]; cases r <;> simp [nextL]
theorem next_or : Same (.n2 5 0 (.n1 6 0 x) (.n1 6 0 y)) (.n1 6 g (.n2 5 h x y)) := fun s r => by simp only [sm_or, sm_next, fn_or]; cases r <;> simp [nextL]
theorem always_both : Same (.n2 4 0 (.n1 8 0 x) (.n1 8 0 y)) (.n1 8 g (.n2 4 h x y)) := fun s r => by simp only [sm_and, sm_always, fn_and, always_and]
theorem some_both : Same (.n2 5 0 (.n1 9 0 x) (.n1 9 0 y)) (.n1 9 g (.n2 5 h x y)) := fun s r => by simp only [sm_or, sm_some, fn_or, some_or]

/-! TopTimesUnrolled -/
theorem unrolled_always : Same (.n2 4 0 x (.n2 5 0 (.n1 3 0 (.n1 6 0 (.n0 1 0))) (.n1 6 0 (.n1 8 g x)))) (.n1 8 g x) := fun s r => by
  simp only [sm_and, sm_or, sm_not, sm_next, sm_always, fn_always, fn_true]
  cases r <;> simp [nextL, alwaysL]
theorem unrolled_some : Same (.n2 5 0 x (.n1 6 0 (.n1 9 g x))) (.n1 9 g x) := fun s r => by
  simp only [sm_or, sm_next, sm_some, fn_some]
  cases r <;> simp [nextL, sometimeL]
theorem unrolled_until : Same (.n2 5 0 y (.n2 4 0 x (.n1 6 0 (.n2 7 g x y)))) (.n2 7 g x y) := fun s r => by
  simp only [sm_or, sm_and, sm_next, sm_until, fn_until]
  cases r <;> simp [nextL, untilL]

/-! TopTimesTwice -/
theorem twice_always : Same (.n1 8 0 (.n1 8 g x)) (.n1 8 g x) := fun s r => by simp only [sm_always, fn_always, always_step]
theorem twice_some : Same (.n1 9 0 (.n1 9 g x)) (.n1 9 g x) := fun s r => by simp only [sm_some, fn_some, some_step]
theorem twice_until : Same (.n2 7 0 x (.n2 7 g x y)) (.n2 7 g x y) := fun s r => by simp only [sm_until, fn_until, until_step]
theorem twice_beside : Same (.n2 7 0 (.n2 4 0 x (.n1 3 0 y)) y) (.n2 7 g x y) := fun s r => by simp only [sm_until, fn_and, sm_not, until_beside]

/-! TopUntilWritten -/
theorem written_some : Same (.n2 7 0 (.n0 1 0) x) (.n1 9 g x) := fun s r => by simp only [sm_until, sm_some, fn_true, until_true]
theorem written_always : Same (.n1 3 0 (.n2 7 0 (.n0 1 0) (.n1 3 0 x))) (.n1 8 g x) := fun s r => by simp only [sm_not, sm_until, sm_always, fn_true, until_true, fn_not, some_not, Bool.not_not]
theorem written_until : Same (.n2 4 0 (.n1 9 0 y) (.n2 7 g x y)) (.n2 7 g x y) := fun s r => by simp only [sm_and, sm_some, sm_until, until_some]

/-! TopUntilOfBoth -/
theorem both_and : Same (.n2 4 0 (.n2 7 0 x z) (.n2 7 0 y z)) (.n2 7 g (.n2 4 h x y) z) := fun s r => by simp only [sm_and, sm_until, fn_and, until_and]
theorem both_or : Same (.n2 5 0 (.n2 7 0 x y) (.n2 7 0 x z)) (.n2 7 g x (.n2 5 h y z)) := fun s r => by simp only [sm_or, sm_until, fn_or, until_or]

/-! TopTimesOfNext -/
theorem ofnext_some : Same (.n1 6 0 (.n1 9 0 x)) (.n1 9 g (.n1 6 h x)) := fun s r => by simp only [sm_next, sm_some, fn_some, fn_next, some_next]
theorem ofnext_some' : Same (.n1 9 0 (.n1 6 0 x)) (.n1 6 g (.n1 9 h x)) := fun s r => by simp only [sm_next, sm_some, fn_some, fn_next, some_next]
theorem ofnext_until : Same (.n2 7 0 (.n1 6 0 x) (.n1 6 0 y)) (.n1 6 g (.n2 7 h x y)) := fun s r => by simp only [sm_next, sm_until, fn_until, fn_next, until_next]
theorem ofnext_until' : Same (.n1 6 0 (.n2 7 0 x y)) (.n2 7 g (.n1 6 h x) (.n1 6 k y)) := fun s r => by simp only [sm_next, sm_until, fn_until, fn_next, until_next]
end
end Go.Proofs.Ytdfbclkafocnpaa
