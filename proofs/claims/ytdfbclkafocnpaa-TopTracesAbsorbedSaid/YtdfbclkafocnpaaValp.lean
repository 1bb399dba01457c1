/- Validate in plain Lean: the stack of subtrees, the test of a node's children; and the marks that ranges over a function leave. No program is walked here. -/
import Derived.Test.YtdfbclkafocnpaaBack
namespace Go.Proofs.Ytdfbclkafocnpaa
open Go.RowKit Go.Shelf

def stepK (i : Nat) : List Int → List Nat → Option (List Nat)
  | [], st => some (i :: st)
  | [c], s :: r => if c = (i : Int) - 1 then some (s :: r) else none
  | [c0, c1], s1 :: s0 :: r => if c1 = (i : Int) - 1 ∧ c0 = (s1 : Int) - 1 then some (s0 :: r) else none
  | _, _ => none

/-- One node more: the numbers of the first nodes of the trees that stand, the last one first. -/
def stepV (facts : Int) (i : Nat) (st : List Nat) (n : Nd) : Option (List Nat) :=
  if n.kind < 1 ∨ 9 < n.kind then none
  else if (n.kids.length : Int) ≠ arityOf n.kind then none
  else if n.kind = 2 ∧ (n.fact < 0 ∨ facts ≤ n.fact) then none
  else stepK i n.kids st

/-- All nodes from number i on. -/
def chkV (facts : Int) : Nat → List Nat → List Nd → Option (List Nat)
  | _, st, [] => some st
  | i, st, n :: r => match stepV facts i st n with
    | none => none
    | some st' => chkV facts (i + 1) st' r

/-- A right formula's nodes. -/
def Valid (facts : Int) (ns : List Nd) : Prop := 0 ≤ facts ∧ facts ≤ 24 ∧ ns ≠ [] ∧ ns.length ≤ 60 ∧ chkV facts 0 [] ns = some [0]

def ValRes (facts : Int) (ns : List Nd) (c ix : Int) : Prop :=
  (Valid facts ns ∧ c = 0 ∧ ix = 0) ∨ (¬ Valid facts ns ∧ c ≠ 0 ∧ (0 ≤ facts → facts ≤ 24 → 60 < ns.length → c = 2))

theorem chkV_append (facts : Int) : ∀ (l m : List Nd) (i : Nat) (st : List Nat), chkV facts i st (l ++ m) = (chkV facts i st l).bind fun st' => chkV facts (i + l.length) st' m
  | [], m, i, st => by simp [chkV]
  | n :: r, m, i, st => by
    simp only [List.cons_append, chkV]
    cases stepV facts i st n with
    | none => rfl
    | some st' =>
      have := chkV_append facts r m (i + 1) st'
      simp only [List.length_cons]
      rw [this, show i + 1 + r.length = i + (r.length + 1) from by omega]

/-- The stack of first nodes, as the array tells it. -/
def StkF (arr : List Int) : Nat → List Nat → Prop
  | i, [] => i = 0
  | i, s :: r => s < i ∧ arr[i - 1]? = some (s : Int) ∧ StkF arr s r

theorem StkF.set {arr : List Int} {k : Nat} {u : Int} : ∀ {st : List Nat} {i : Nat}, StkF arr i st → i ≤ k → StkF (arr.set k u) i st
  | [], i, h, _ => h
  | s :: r, i, ⟨h1, h2, h3⟩, hk => ⟨h1, by rw [List.getElem?_set_ne (by omega)]; exact h2, StkF.set h3 (by omega)⟩

/-- The children's test, the last child first. -/
def runK (arr : List Int) : Int → List (Int × Int) → Option Int
  | at_, [] => some at_
  | at_, (_, c) :: r => if c < 0 ∨ c ≠ at_ - 1 then none else (arr[c.toNat]?).bind fun x => runK arr x r

theorem runK_append (arr : List Int) : ∀ (l m : List (Int × Int)) (a : Int), runK arr a (l ++ m) = (runK arr a l).bind fun b => runK arr b m
  | [], m, a => rfl
  | (i, c) :: r, m, a => by
    simp only [List.cons_append, runK]
    split
    · rfl
    · cases arr[c.toNat]? with
      | none => rfl
      | some x => simp only [Option.bind_some]; exact runK_append arr r m x

theorem runK_le {arr : List Int} {k : Nat} (ha : ∀ (j : Nat) (x : Int), arr[j]? = some x → 0 ≤ x ∧ x ≤ j) : ∀ (l : List (Int × Int)) (a b : Int), 0 ≤ a → a ≤ k → runK arr a l = some b → 0 ≤ b ∧ b ≤ k
  | [], a, b, h0, h1, h => by simp only [runK, Option.some.injEq] at h; subst h; exact ⟨h0, h1⟩
  | (i, c) :: r, a, b, h0, h1, h => by
    simp only [runK] at h
    split at h
    · cases h
    · rename_i hc
      cases hx : arr[c.toNat]? with
      | none => rw [hx] at h; cases h
      | some x =>
        rw [hx] at h
        obtain ⟨g0, g1⟩ := ha _ _ hx
        exact runK_le ha r x b g0 (by omega) h

theorem backF_all (zs : List Int) (h : zs.length ≤ 2) : upto (backF zs) zs.length = match zs with
    | [] => []
    | [c] => [(0, c)]
    | c0 :: c1 :: _ => [(1, c1), (0, c0)] := by
  match zs, h with
  | [], _ => rfl
  | [c], _ => rfl
  | [c0, c1], _ => rfl
  | _ :: _ :: _ :: _, h => simp at h

/-- What the children's test tells of the step. -/
theorem runK_step {facts : Int} {arr : List Int} {k : Nat} {st : List Nat} {n : Nd} (h1 : ¬ (n.kind < 1 ∨ 9 < n.kind)) (h2 : (n.kids.length : Int) = arityOf n.kind) (h3 : ¬ (n.kind = 2 ∧ (n.fact < 0 ∨ facts ≤ n.fact)))
    (hl : n.kids.length ≤ 2) (hs : StkF arr k st) :
    (runK arr k (upto (backF n.kids) n.kids.length) = none → stepV facts k st n = none) ∧
    ∀ y, runK arr k (upto (backF n.kids) n.kids.length) = some y → ∃ (s : Nat) (r : List Nat), y = (s : Int) ∧ stepV facts k st n = some (s :: r) ∧ StkF arr s r ∧ s ≤ k := by
  have e : stepV facts k st n = stepK k n.kids st := by
    unfold stepV
    rw [if_neg h1, if_neg (by rw [h2]; simp), if_neg h3]
  rw [e, backF_all _ hl]
  clear e h1 h2 h3
  match hk : n.kids, hl with
  | [], _ => exact ⟨fun h => by simp [runK] at h, fun y h => by simp only [runK, Option.some.injEq] at h; subst h; exact ⟨k, st, rfl, rfl, hs, Nat.le_refl _⟩⟩
  | [c], _ =>
    simp only [runK]
    cases st with
    | nil =>
      obtain rfl : k = 0 := hs
      rw [if_pos (by omega)]
      exact ⟨fun _ => rfl, fun y h => by cases h⟩
    | cons s r =>
      obtain ⟨g1, g2, g3⟩ := hs
      by_cases hc : c = (k : Int) - 1
      · have e1 : c.toNat = k - 1 := by omega
        rw [if_neg (by omega), e1, g2]
        exact ⟨fun h => by simp at h, fun y h => by simp only [Option.bind_some, Option.some.injEq] at h; subst h; exact ⟨s, r, rfl, by simp only [stepK, if_pos hc], g3, by omega⟩⟩
      · rw [if_pos (.inr hc)]
        exact ⟨fun _ => by simp only [stepK, if_neg hc], fun y h => by cases h⟩
  | [c0, c1], _ =>
    simp only [runK]
    cases st with
    | nil =>
      obtain rfl : k = 0 := hs
      rw [if_pos (by omega)]
      exact ⟨fun _ => rfl, fun y h => by cases h⟩
    | cons s1 r1 =>
      obtain ⟨g1, g2, g3⟩ := hs
      by_cases hc : c1 = (k : Int) - 1
      · have e1 : c1.toNat = k - 1 := by omega
        rw [if_neg (by omega), e1, g2]
        simp only [Option.bind_some]
        cases r1 with
        | nil =>
          obtain rfl : s1 = 0 := g3
          rw [if_pos (by omega)]
          exact ⟨fun _ => rfl, fun y h => by cases h⟩
        | cons s0 r =>
          obtain ⟨f1, f2, f3⟩ := g3
          by_cases hc0 : c0 = (s1 : Int) - 1
          · have e0 : c0.toNat = s1 - 1 := by omega
            rw [if_neg (by omega), e0, f2]
            exact ⟨fun h => by simp at h, fun y h => by simp only [Option.bind_some, Option.some.injEq] at h; subst h; exact ⟨s0, r, rfl, by simp only [stepK, if_pos (And.intro hc hc0)], f3, by omega⟩⟩
          · rw [if_pos (.inr hc0)]
            exact ⟨fun _ => by simp only [stepK]; rw [if_neg (fun h => hc0 h.2)], fun y h => by cases h⟩
      · rw [if_pos (.inr hc)]
        refine ⟨fun _ => ?_, fun y h => by cases h⟩
        cases r1 with
        | nil => rfl
        | cons s0 r => simp only [stepK]; rw [if_neg (fun h => hc h.1)]
  | _ :: _ :: _ :: _, hl => simp at hl

/-! ### The marks that ranges over a function leave -/

def markOf (D : Nat) : Deferred := { target := .collected D, args := #[] }

theorem leaves_marks {F : Fence} {n : Nat} {P : Program} {fn : Func} {tmps : Array Value} {R : Ending → World → Prop} : ∀ (Ds : List Nat) (W : World), Ds.Nodup → (∀ D ∈ Ds, W.heap[D]? = some (.deferred (some []))) →
    (∀ W' : World, W'.os = W.os → W'.tape = W.tape → W'.output = W.output → W'.heap.size = W.heap.size → (∀ b, b ∉ Ds → W'.heap[b]? = W.heap[b]?) → LeavesIn F n P fn tmps R [] .returning W') →
    LeavesInM F n P fn tmps R (Ds.map markOf) .returning W := by
  intro Ds
  induction Ds with
  | nil => intro W _ _ h; exact h W rfl rfl rfl rfl fun _ _ => rfl
  | cons D Ds ih =>
    intro W hn hD h
    rw [List.nodup_cons] at hn
    refine ⟨by simp, .inl ⟨D, _, rfl, run_takeDeferred (hD D (by simp)), ?_⟩⟩
    refine ih _ hn.2 (fun D' hD' => ?_) (fun W' h1 h2 h3 h4 h5 => h W' h1 h2 h3 (by rw [h4, World.putObj_size]) fun b hb => ?_)
    · rw [World.putObj_heap_other (by rintro rfl; exact hn.1 hD')]
      exact hD D' (List.mem_cons_of_mem _ hD')
    · rw [List.mem_cons, not_or] at hb
      rw [h5 b hb.2, World.putObj_heap_other hb.1]
end Go.Proofs.Ytdfbclkafocnpaa
