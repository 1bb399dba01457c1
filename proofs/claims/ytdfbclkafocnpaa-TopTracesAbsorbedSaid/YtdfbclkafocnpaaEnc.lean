/- The right formulas are just the nodes of right trees of at most sixty nodes. Plain Lean. -/
import Derived.Test.YtdfbclkafocnpaaValp
namespace Go.Proofs.Ytdfbclkafocnpaa

theorem arity0 {k : Int} (h : arityOf k = 0) : k = 1 ∨ k = 2 := by
  unfold arityOf at h
  split at h
  · assumption
  · split at h <;> omega
theorem arity2 {k : Int} (h : arityOf k = 2) : k = 4 ∨ k = 5 ∨ k = 7 := by
  unfold arityOf at h
  split at h
  · omega
  · split at h
    · assumption
    · omega
theorem arity1 {k : Int} (h : arityOf k = 1) (h1 : 1 ≤ k) (h9 : k ≤ 9) : k = 3 ∨ k = 6 ∨ k = 8 ∨ k = 9 := by
  unfold arityOf at h
  split at h
  · omega
  · split at h
    · omega
    · omega

theorem stepV_of {facts : Int} {i : Nat} {st st' : List Nat} {n : Nd} (h1 : 1 ≤ n.kind) (h9 : n.kind ≤ 9) (ha : (n.kids.length : Int) = arityOf n.kind) (h2 : n.kind = 2 → 0 ≤ n.fact ∧ n.fact < facts) (hk : stepK i n.kids st = some st') : stepV facts i st n = some st' := by
  unfold stepV
  rw [if_neg (by omega), if_neg (by rw [ha]; simp), if_neg (by intro h; have := h2 h.1; omega)]
  exact hk

/-- The nodes of a right tree pass. -/
theorem chkV_enc {facts : Int} {T : Tr} (h : T.ok facts) : ∀ (i : Nat) (st : List Nat), chkV facts i st (enc i T) = some (i :: st) := by
  induction T with
  | n0 k f =>
    intro i st
    have hs : stepV facts i st ⟨k, [], f⟩ = some (i :: st) := by
      refine stepV_of ?_ ?_ ?_ (fun e => ?_) rfl
      · rcases h with rfl | ⟨rfl, _⟩ <;> simp
      · rcases h with rfl | ⟨rfl, _⟩ <;> simp
      · rcases h with rfl | ⟨rfl, _⟩ <;> rfl
      · rcases h with rfl | ⟨rfl, h1, h2⟩
        · simp at e
        · exact ⟨h1, h2⟩
    simp only [enc, chkV, hs]
  | n1 k f a ih =>
    intro i st
    have hp := a.size_pos
    have hs : stepV facts (i + a.size) (i :: st) ⟨k, [(i + a.size - 1 : Int)], f⟩ = some (i :: st) := by
      refine stepV_of ?_ ?_ ?_ (fun e => ?_) ?_
      · rcases h.1 with rfl | rfl | rfl | rfl <;> simp
      · rcases h.1 with rfl | rfl | rfl | rfl <;> simp
      · rcases h.1 with rfl | rfl | rfl | rfl <;> rfl
      · rcases h.1 with rfl | rfl | rfl | rfl <;> simp at e
      · simp only [stepK]
        rw [if_pos (by omega)]
    simp only [enc, chkV_append, ih h.2, Option.bind_some, enc_length, chkV, hs]
  | n2 k f a c ih ih' =>
    intro i st
    have hp := a.size_pos
    have hq := c.size_pos
    have hs : stepV facts (i + (a.size + c.size)) ((i + a.size) :: i :: st) ⟨k, [(i + a.size - 1 : Int), (i + a.size + c.size - 1 : Int)], f⟩ = some (i :: st) := by
      refine stepV_of ?_ ?_ ?_ (fun e => ?_) ?_
      · rcases h.1 with rfl | rfl | rfl <;> simp
      · rcases h.1 with rfl | rfl | rfl <;> simp
      · rcases h.1 with rfl | rfl | rfl <;> rfl
      · rcases h.1 with rfl | rfl | rfl <;> simp at e
      · simp only [stepK]
        rw [if_pos (by constructor <;> omega)]
    simp only [enc, chkV_append, ih h.2.1, ih' h.2.2, Option.bind_some, enc_length, chkV, List.length_append, hs]

theorem valid_enc {facts : Int} {T : Tr} (h0 : 0 ≤ facts) (h1 : facts ≤ 24) (h : T.ok facts) (hs : T.size ≤ 60) : Valid facts (enc 0 T) :=
  ⟨h0, h1, fun e => by have := enc_length 0 T; rw [e] at this; have := T.size_pos; simp at *; omega, by rw [enc_length]; exact hs, chkV_enc h 0 []⟩

/-- Trees one behind the other, the last one first. -/
def forest : List Tr → List Nd
  | [] => []
  | T :: r => forest r ++ enc (forest r).length T
def starts : List Tr → List Nat
  | [] => []
  | _ :: r => (forest r).length :: starts r

theorem step_forest {facts : Int} {Ts : List Tr} {n : Nd} {st : List Nat} (hok : ∀ T ∈ Ts, T.ok facts) (h : stepV facts (forest Ts).length (starts Ts) n = some st) :
    ∃ Ts', forest Ts ++ [n] = forest Ts' ∧ st = starts Ts' ∧ ∀ T ∈ Ts', T.ok facts := by
  unfold stepV at h
  split at h
  · cases h
  rename_i h1
  split at h
  · cases h
  rename_i h2
  split at h
  · cases h
  rename_i h3
  obtain ⟨kind, kids, fact⟩ := n
  simp only at h1 h2 h3 h
  have h2 : (kids.length : Int) = arityOf kind := by omega
  match kids, h2, h with
  | [], h2, h =>
    simp only [stepK, Option.some.injEq] at h
    refine ⟨.n0 kind fact :: Ts, rfl, h.symm, fun T hT => ?_⟩
    rcases List.mem_cons.1 hT with rfl | hT
    · rcases arity0 (by rw [← h2]; rfl) with rfl | rfl
      · exact .inl rfl
      · exact .inr ⟨rfl, by omega, by omega⟩
    · exact hok T hT
  | [c], h2, h =>
    match Ts, hok, h with
    | [], _, h => simp [stepK, starts] at h
    | T :: r, hok, h =>
      simp only [starts, stepK] at h
      split at h
      · rename_i hc
        injection h with h
        refine ⟨.n1 kind fact T :: r, ?_, h.symm, fun T' hT => ?_⟩
        · simp only [forest, enc, List.append_assoc, List.length_append, enc_length] at hc ⊢
          rw [hc, show (((forest r).length + T.size : Nat) : Int) - 1 = ((forest r).length : Int) + (T.size : Int) - 1 from by omega]
        · rcases List.mem_cons.1 hT with rfl | hT
          · exact ⟨arity1 (by rw [← h2]; rfl) (by omega) (by omega), hok T (by simp)⟩
          · exact hok T' (List.mem_cons_of_mem _ hT)
      · cases h
  | [c0, c1], h2, h =>
    match Ts, hok, h with
    | [], _, h => simp [stepK, starts] at h
    | [_], _, h => simp [stepK, starts] at h
    | T1 :: T0 :: r, hok, h =>
      simp only [starts, stepK] at h
      split at h
      · rename_i hc
        injection h with h
        refine ⟨.n2 kind fact T0 T1 :: r, ?_, h.symm, fun T' hT => ?_⟩
        · obtain ⟨hc1, hc0⟩ := hc
          simp only [forest, enc, List.append_assoc, List.length_append, enc_length] at hc1 hc0 ⊢
          rw [hc1, hc0, show (((forest r).length + T0.size : Nat) : Int) - 1 = ((forest r).length : Int) + (T0.size : Int) - 1 from by omega, show (((forest r).length + (T0.size + T1.size) : Nat) : Int) - 1 = ((forest r).length : Int) + (T0.size : Int) + (T1.size : Int) - 1 from by omega]
        · rcases List.mem_cons.1 hT with rfl | hT
          · exact ⟨arity2 (by rw [← h2]; rfl), hok T0 (by simp), hok T1 (by simp)⟩
          · exact hok T' (List.mem_cons_of_mem _ (List.mem_cons_of_mem _ hT))
      · cases h
  | c0 :: c1 :: c2 :: r, h2, _ =>
    exfalso
    simp only [List.length_cons] at h2
    have : arityOf kind ≤ 2 := by unfold arityOf; split; omega; split <;> omega
    omega

theorem chk_forest {facts : Int} : ∀ (ns : List Nd) (Ts : List Tr) (st : List Nat), (∀ T ∈ Ts, T.ok facts) → chkV facts (forest Ts).length (starts Ts) ns = some st →
    ∃ Ts', forest Ts ++ ns = forest Ts' ∧ st = starts Ts' ∧ ∀ T ∈ Ts', T.ok facts := by
  intro ns
  induction ns with
  | nil =>
    intro Ts st hok h
    simp only [chkV, Option.some.injEq] at h
    exact ⟨Ts, by simp, h.symm, hok⟩
  | cons n ns ih =>
    intro Ts st hok h
    simp only [chkV] at h
    split at h
    · cases h
    · rename_i st1 h1
      obtain ⟨Ts1, e1, rfl, hok1⟩ := step_forest hok h1
      have hl : (forest Ts).length + 1 = (forest Ts1).length := by rw [← e1]; simp
      rw [hl] at h
      obtain ⟨Ts', e2, e3, hok'⟩ := ih Ts1 st hok1 h
      exact ⟨Ts', by rw [← e2, ← e1]; simp, e3, hok'⟩

theorem enc_of_valid {facts : Int} {ns : List Nd} (h : Valid facts ns) : ∃ T, ns = enc 0 T ∧ T.ok facts ∧ T.size ≤ 60 := by
  obtain ⟨_, _, _, h60, hc⟩ := h
  obtain ⟨Ts, e1, e2, hok⟩ := chk_forest ns [] [0] (by simp) hc
  simp only [forest, List.nil_append] at e1
  match Ts, e2, e1, hok with
  | [], e2, _, _ => simp [starts] at e2
  | [T], _, e1, hok =>
    simp only [forest, List.nil_append, List.length_nil] at e1
    refine ⟨T, e1, hok T (by simp), ?_⟩
    rw [← enc_length 0 T, ← e1]
    exact h60
  | _ :: _ :: _, e2, _, _ => simp [starts] at e2

/-- Every node of a formula is the root of a tree that is right. -/
theorem subAt_all {facts : Int} {T : Tr} (h : T.ok facts) : ∀ (pre post : List Nd) (j : Nat), pre.length ≤ j → j < pre.length + T.size → ∃ S : Tr, SubAt (pre ++ enc pre.length T ++ post) j S ∧ S.ok facts := by
  induction T with
  | n0 k f =>
    intro pre post j h1 h2
    simp only [Tr.size] at h2
    obtain rfl : j = pre.length := by omega
    exact ⟨.n0 k f, by have := subAt_of_enc (.n0 k f) pre post; simpa [Tr.size] using this, h⟩
  | n1 k f a ih =>
    intro pre post j h1 h2
    simp only [Tr.size] at h2
    by_cases hj : j < pre.length + a.size
    · obtain ⟨S, hS, hok⟩ := ih h.2 pre ([⟨k, [(pre.length + a.size - 1 : Int)], f⟩] ++ post) j h1 hj
      exact ⟨S, by simpa only [enc, List.append_assoc] using hS, hok⟩
    · have := subAt_of_enc (.n1 k f a) pre post
      rw [show pre.length + (Tr.n1 k f a).size - 1 = j from by simp only [Tr.size]; omega] at this
      exact ⟨_, this, h⟩
  | n2 k f a c ih ih' =>
    intro pre post j h1 h2
    simp only [Tr.size] at h2
    by_cases hj : j < pre.length + a.size
    · obtain ⟨S, hS, hok⟩ := ih h.2.1 pre (enc (pre.length + a.size) c ++ [⟨k, [(pre.length + a.size - 1 : Int), (pre.length + a.size + c.size - 1 : Int)], f⟩] ++ post) j h1 hj
      exact ⟨S, by simpa only [enc, List.append_assoc] using hS, hok⟩
    · by_cases hj2 : j < pre.length + a.size + c.size
      · obtain ⟨S, hS, hok⟩ := ih' h.2.2 (pre ++ enc pre.length a) ([⟨k, [(pre.length + a.size - 1 : Int), (pre.length + a.size + c.size - 1 : Int)], f⟩] ++ post) j (by simp [enc_length]; omega) (by simp [enc_length]; omega)
        simp only [List.length_append, enc_length] at hS
        exact ⟨S, by simpa only [enc, List.append_assoc] using hS, hok⟩
      · have := subAt_of_enc (.n2 k f a c) pre post
        rw [show pre.length + (Tr.n2 k f a c).size - 1 = j from by simp only [Tr.size]; omega] at this
        exact ⟨_, this, h⟩
end Go.Proofs.Ytdfbclkafocnpaa
