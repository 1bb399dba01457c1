/- Formulas as trees with at most two children, what they say of a list of states, and the nodes that they are written as. Plain Lean: no program, no memory. -/
namespace Go.Proofs.Ytdfbclkafocnpaa

/-- A formula: a node with no, one or two children. -/
inductive Tr where
  | n0 (k f : Int) : Tr
  | n1 (k f : Int) (a : Tr) : Tr
  | n2 (k f : Int) (a b : Tr) : Tr

namespace Tr
def kind : Tr → Int
  | n0 k _ => k
  | n1 k _ _ => k
  | n2 k _ _ _ => k
def fact : Tr → Int
  | n0 _ f => f
  | n1 _ f _ => f
  | n2 _ f _ _ => f
def kids : Tr → List Tr
  | n0 _ _ => []
  | n1 _ _ a => [a]
  | n2 _ _ a b => [a, b]
def size : Tr → Nat
  | n0 _ _ => 1
  | n1 _ _ a => a.size + 1
  | n2 _ _ a b => a.size + b.size + 1
theorem size_pos (T : Tr) : 0 < T.size := by cases T <;> simp [size]
/-- The tree that a node with a list of children is. -/
def mk (k f : Int) : List Tr → Tr
  | [] => n0 k f
  | [a] => n1 k f a
  | a :: b :: _ => n2 k f a b
theorem mk_kids (T : Tr) : mk T.kind T.fact T.kids = T := by cases T <;> rfl
end Tr

/-- How many children a kind has. -/
def arityOf (k : Int) : Int := if k = 1 ∨ k = 2 then 0 else if k = 4 ∨ k = 5 ∨ k = 7 then 2 else 1

/-- A right formula over a number of facts. -/
def Tr.ok (facts : Int) : Tr → Prop
  | .n0 k f => k = 1 ∨ (k = 2 ∧ 0 ≤ f ∧ f < facts)
  | .n1 k _ a => (k = 3 ∨ k = 6 ∨ k = 8 ∨ k = 9) ∧ a.ok facts
  | .n2 k _ a b => (k = 4 ∨ k = 5 ∨ k = 7) ∧ a.ok facts ∧ b.ok facts

abbrev States := List (List Int)

def untilL (p q : States → Bool) : States → Bool
  | [] => false
  | s :: r => q (s :: r) || (p (s :: r) && untilL p q r)
def alwaysL (p : States → Bool) : States → Bool
  | [] => true
  | s :: r => p (s :: r) && alwaysL p r
def sometimeL (p : States → Bool) : States → Bool
  | [] => false
  | s :: r => p (s :: r) || sometimeL p r
def nextL (p : States → Bool) : States → Bool
  | [] => false
  | [_] => false
  | _ :: s :: r => p (s :: r)
def factL (f : Int) : States → Bool
  | [] => false
  | s :: _ => s.contains f

/-- Is a formula true for a list of states? -/
def sem : Tr → States → Bool
  | .n0 k f => fun ss => if k = 1 then true else factL f ss
  | .n1 k _ a => fun ss => if k = 3 then !sem a ss else if k = 6 then nextL (sem a) ss else if k = 8 then alwaysL (sem a) ss else sometimeL (sem a) ss
  | .n2 k _ a b => fun ss => if k = 4 then sem a ss && sem b ss else if k = 5 then sem a ss || sem b ss else untilL (sem a) (sem b) ss

/-- The same for all nonempty lists of states. -/
def Same (S T : Tr) : Prop := ∀ s r, sem S (s :: r) = sem T (s :: r)

theorem Same.refl (T : Tr) : Same T T := fun _ _ => rfl
theorem Same.symm {S T : Tr} (h : Same S T) : Same T S := fun s r => (h s r).symm
theorem Same.trans {S T U : Tr} (h : Same S T) (g : Same T U) : Same S U := fun s r => (h s r).trans (g s r)

theorem untilL_congr {p p' q q' : States → Bool} (hp : ∀ s r, p (s :: r) = p' (s :: r)) (hq : ∀ s r, q (s :: r) = q' (s :: r)) : ∀ ss, untilL p q ss = untilL p' q' ss
  | [] => rfl
  | s :: r => by simp only [untilL, hp, hq, untilL_congr hp hq r]
theorem alwaysL_congr {p p' : States → Bool} (hp : ∀ s r, p (s :: r) = p' (s :: r)) : ∀ ss, alwaysL p ss = alwaysL p' ss
  | [] => rfl
  | s :: r => by simp only [alwaysL, hp, alwaysL_congr hp r]
theorem sometimeL_congr {p p' : States → Bool} (hp : ∀ s r, p (s :: r) = p' (s :: r)) : ∀ ss, sometimeL p ss = sometimeL p' ss
  | [] => rfl
  | s :: r => by simp only [sometimeL, hp, sometimeL_congr hp r]
theorem nextL_congr {p p' : States → Bool} (hp : ∀ s r, p (s :: r) = p' (s :: r)) : ∀ ss, nextL p ss = nextL p' ss
  | [] => rfl
  | [_] => rfl
  | _ :: s :: r => hp s r

theorem Same.n1 {a a' : Tr} (k f f' : Int) (h : Same a a') : Same (.n1 k f a) (.n1 k f' a') := fun s r => by
  simp only [sem, h s r, nextL_congr h, alwaysL_congr h, sometimeL_congr h]
theorem Same.n2 {a a' b b' : Tr} (k f f' : Int) (h : Same a a') (g : Same b b') : Same (.n2 k f a b) (.n2 k f' a' b') := fun s r => by
  simp only [sem, h s r, g s r, untilL_congr h g]

/-! ### The nodes -/

/-- A node of a formula in postorder. -/
structure Nd where
  kind : Int
  kids : List Int
  fact : Int

/-- The nodes of a tree, the first of them with number b. -/
def enc (b : Nat) : Tr → List Nd
  | .n0 k f => [⟨k, [], f⟩]
  | .n1 k f a => enc b a ++ [⟨k, [(b + a.size - 1 : Int)], f⟩]
  | .n2 k f a c => enc b a ++ enc (b + a.size) c ++ [⟨k, [(b + a.size - 1 : Int), (b + a.size + c.size - 1 : Int)], f⟩]

theorem enc_length (b : Nat) (T : Tr) : (enc b T).length = T.size := by
  induction T generalizing b with
  | n0 k f => rfl
  | n1 k f a ih => simp [enc, Tr.size, ih]
  | n2 k f a c ih ih' => simp [enc, Tr.size, ih, ih']; omega

/-- Node number i of the list is the root of T. -/
def SubAt (ns : List Nd) : Nat → Tr → Prop
  | i, .n0 k f => ns[i]? = some ⟨k, [], f⟩
  | i, .n1 k f a => ∃ ia : Nat, ns[i]? = some ⟨k, [(ia : Int)], f⟩ ∧ ia < i ∧ SubAt ns ia a
  | i, .n2 k f a c => ∃ ia ic : Nat, ns[i]? = some ⟨k, [(ia : Int), (ic : Int)], f⟩ ∧ ia < i ∧ ic < i ∧ SubAt ns ia a ∧ SubAt ns ic c

/-- The children of a node of a tree by their numbers. -/
theorem SubAt.open_ {ns : List Nd} {i : Nat} {T : Tr} (h : SubAt ns i T) : ∃ js : List Nat, ns[i]? = some ⟨T.kind, js.map (fun j : Nat => (j : Int)), T.fact⟩ ∧ js.length = T.kids.length ∧
    ∀ (j : Nat) (a : Nat) (K : Tr), js[j]? = some a → T.kids[j]? = some K → a < i ∧ SubAt ns a K := by
  cases T with
  | n0 k f => exact ⟨[], h, rfl, fun j a K hj _ => by simp at hj⟩
  | n1 k f a =>
    obtain ⟨ia, h1, h2, h3⟩ := h
    refine ⟨[ia], h1, rfl, fun j x K hj hk => ?_⟩
    match j with
    | 0 => simp [Tr.kids] at hj hk; subst hj; subst hk; exact ⟨h2, h3⟩
    | j + 1 => simp at hj
  | n2 k f a c =>
    obtain ⟨ia, ic, h1, h2, h3, h4, h5⟩ := h
    refine ⟨[ia, ic], h1, rfl, fun j x K hj hk => ?_⟩
    match j with
    | 0 => simp [Tr.kids] at hj hk; subst hj; subst hk; exact ⟨h2, h4⟩
    | 1 => simp [Tr.kids] at hj hk; subst hj; subst hk; exact ⟨h3, h5⟩
    | j + 2 => simp at hj

theorem subAt_of_enc (T : Tr) : ∀ (pre post : List Nd), SubAt (pre ++ enc pre.length T ++ post) (pre.length + T.size - 1) T := by
  induction T with
  | n0 k f => intro pre post; simp [SubAt, enc, Tr.size]
  | n1 k f a ih =>
    intro pre post
    have hp := a.size_pos
    refine ⟨pre.length + a.size - 1, ?_, by simp only [Tr.size]; omega, ?_⟩
    · rw [show pre.length + (Tr.n1 k f a).size - 1 = pre.length + a.size from by simp only [Tr.size]; omega]
      simp only [enc, List.append_assoc]
      rw [List.getElem?_append_right (by omega), List.getElem?_append_right (by rw [enc_length]; omega)]
      rw [show pre.length + a.size - pre.length - (enc pre.length a).length = 0 from by rw [enc_length]; omega]
      simp
      omega
    · have := ih pre ([⟨k, [(pre.length + a.size - 1 : Int)], f⟩] ++ post)
      simpa only [enc, List.append_assoc] using this
  | n2 k f a c iha ihc =>
    intro pre post
    have hp := a.size_pos
    have hq := c.size_pos
    refine ⟨pre.length + a.size - 1, pre.length + a.size + c.size - 1, ?_, by simp only [Tr.size]; omega, by simp only [Tr.size]; omega, ?_, ?_⟩
    · rw [show pre.length + (Tr.n2 k f a c).size - 1 = pre.length + (a.size + c.size) from by simp only [Tr.size]; omega]
      simp only [enc, List.append_assoc]
      rw [List.getElem?_append_right (by omega), List.getElem?_append_right (by rw [enc_length]; omega), List.getElem?_append_right (by rw [enc_length, enc_length]; omega)]
      rw [show pre.length + (a.size + c.size) - pre.length - (enc pre.length a).length - (enc (pre.length + a.size) c).length = 0 from by rw [enc_length, enc_length]; omega]
      simp
      omega
    · have := iha pre (enc (pre.length + a.size) c ++ [⟨k, [(pre.length + a.size - 1 : Int), (pre.length + a.size + c.size - 1 : Int)], f⟩] ++ post)
      simpa only [enc, List.append_assoc] using this
    · have := ihc (pre ++ enc pre.length a) ([⟨k, [(pre.length + a.size - 1 : Int), (pre.length + a.size + c.size - 1 : Int)], f⟩] ++ post)
      simp only [List.length_append, enc_length] at this
      simpa only [enc, List.append_assoc] using this

theorem subAt_root (T : Tr) : SubAt (enc 0 T) (T.size - 1) T := by
  have := subAt_of_enc T [] []
  simpa using this
end Go.Proofs.Ytdfbclkafocnpaa
