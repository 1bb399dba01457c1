/- What is left of a formula behind the first state, in plain Lean: it is right, not too large, and says of the other states what the formula says of all. -/
import Derived.Test.YtdfbclkafocnpaaSmall
namespace Go.Proofs.Ytdfbclkafocnpaa

/-- What must be true of the other states. -/
def afterT (s : List Int) : Tr → Tr
  | .n0 k f => if k = 2 then (if s.contains f = true then .n0 1 0 else .n1 3 0 (.n0 1 0)) else .n0 1 0
  | .n1 k f a => if k = 3 then notT (afterT s a) else if k = 6 then a else if k = 8 then andT (afterT s a) (.n1 k f a) else orT (afterT s a) (.n1 k f a)
  | .n2 k f a b => if k = 4 then andT (afterT s a) (afterT s b) else if k = 5 then orT (afterT s a) (afterT s b) else orT (afterT s b) (andT (afterT s a) (.n2 k f a b))

theorem orT_ok {facts : Int} {S T : Tr} (h : S.ok facts) (g : T.ok facts) : (orT S T).ok facts := notT_ok (andT_ok (notT_ok h) (notT_ok g))

theorem afterT_ok {facts : Int} {s : List Int} {T : Tr} (h : T.ok facts) : (afterT s T).ok facts := by
  induction T with
  | n0 k f =>
    simp only [afterT]
    split
    · split
      · exact .inl rfl
      · exact ⟨.inl rfl, .inl rfl⟩
    · exact .inl rfl
  | n1 k f a ih =>
    have ha := ih h.2
    simp only [afterT]
    split
    · exact notT_ok ha
    · split
      · exact h.2
      · split
        · exact andT_ok ha h
        · exact orT_ok ha h
  | n2 k f a b ih ih' =>
    have ha := ih h.2.1
    have hb := ih' h.2.2
    simp only [afterT]
    split
    · exact andT_ok ha hb
    · split
      · exact orT_ok ha hb
      · exact orT_ok hb (andT_ok ha h)

theorem sem_isTB {facts : Int} {T : Tr} (h : T.ok facts) (ht : isTB T = true) (ss : States) : sem T ss = true := by
  have hk : T.kind = 1 := by simpa [isTB] using ht
  cases T with
  | n0 k f => simp only [Tr.kind] at hk; simp [sem, hk]
  | n1 k f a => simp only [Tr.kind, Tr.ok] at hk h; omega
  | n2 k f a b => simp only [Tr.kind, Tr.ok] at hk h; omega
theorem sem_isFB {facts : Int} {T : Tr} (h : T.ok facts) (ht : isFB T = true) (ss : States) : sem T ss = false := by
  cases T with
  | n0 k f => simp [isFB] at ht
  | n1 k f a =>
    simp only [isFB, Bool.and_eq_true, beq_iff_eq] at ht
    simp only [sem]
    rw [if_pos ht.1, sem_isTB h.2 ht.2]
    rfl
  | n2 k f a b => simp [isFB] at ht

theorem sem_notT {facts : Int} {T : Tr} (_h : T.ok facts) (ss : States) : sem (notT T) ss = !sem T ss := by
  cases T with
  | n0 k f =>
    simp only [notT]
    split
    · rename_i hk; simp [sem, hk]
    · simp [sem]
  | n1 k f a =>
    simp only [notT]
    split
    · rename_i hk; simp [sem, hk]
    · simp [sem]
  | n2 k f a b => simp [notT, sem]
theorem sem_andT {facts : Int} {S T : Tr} (h : S.ok facts) (g : T.ok facts) (ss : States) : sem (andT S T) ss = (sem S ss && sem T ss) := by
  simp only [andT]
  split
  · rename_i hc
    rw [Bool.or_eq_true] at hc
    rcases hc with hc | hc
    · rw [sem_isFB h hc]; rfl
    · rw [sem_isTB g hc]; simp
  · split
    · rename_i hc
      rw [Bool.or_eq_true] at hc
      rcases hc with hc | hc
      · rw [sem_isFB g hc]; simp
      · rw [sem_isTB h hc]; rfl
    · simp [sem]
theorem sem_orT {facts : Int} {S T : Tr} (h : S.ok facts) (g : T.ok facts) (ss : States) : sem (orT S T) ss = (sem S ss || sem T ss) := by
  unfold orT
  rw [sem_notT (andT_ok (notT_ok h) (notT_ok g)), sem_andT (notT_ok h) (notT_ok g), sem_notT h, sem_notT g]
  cases sem S ss <;> cases sem T ss <;> rfl

/-- What is left says of the other states what the formula says of all. -/
theorem sem_afterT {facts : Int} {s : List Int} {T : Tr} (h : T.ok facts) (t : List Int) (r : States) : sem (afterT s T) (t :: r) = sem T (s :: t :: r) := by
  induction T with
  | n0 k f =>
    rcases h with rfl | ⟨rfl, _⟩
    · simp [afterT, sem]
    · simp only [afterT, if_true]
      split
      · rename_i hc; simp [sem, factL] at hc ⊢; exact hc
      · rename_i hc; simp [sem, factL] at hc ⊢; exact hc
  | n1 k f a ih =>
    have ha := ih h.2
    have hok := afterT_ok (s := s) h.2
    obtain ⟨rfl | rfl | rfl | rfl, ho⟩ := h
    · simp only [afterT, if_true]
      rw [sem_notT hok, ha]
      simp [sem]
    · simp [afterT, sem, nextL]
    · have hT : (Tr.n1 8 f a).ok facts := ⟨.inr (.inr (.inl rfl)), ho⟩
      simp only [afterT]
      rw [if_neg (by decide), if_neg (by decide), if_pos trivial, sem_andT hok hT, ha]
      simp [sem, alwaysL]
    · have hT : (Tr.n1 9 f a).ok facts := ⟨.inr (.inr (.inr rfl)), ho⟩
      simp only [afterT]
      rw [if_neg (by decide), if_neg (by decide), if_neg (by decide), sem_orT hok hT, ha]
      simp [sem, sometimeL]
  | n2 k f a b ih ih' =>
    have ha := ih h.2.1
    have hb := ih' h.2.2
    have hoka := afterT_ok (s := s) h.2.1
    have hokb := afterT_ok (s := s) h.2.2
    have hT := h
    obtain ⟨rfl | rfl | rfl, ho, ho'⟩ := h
    · simp only [afterT, if_true]
      rw [sem_andT hoka hokb, ha, hb]
      simp [sem]
    · simp only [afterT]
      rw [if_neg (by decide), if_pos trivial, sem_orT hoka hokb, ha, hb]
      simp [sem]
    · simp only [afterT]
      rw [if_neg (by decide), if_neg (by decide), sem_orT hokb (andT_ok hoka hT), sem_andT hoka hT, ha, hb]
      simp [sem, untilL]

theorem notT_size (T : Tr) : (notT T).size ≤ T.size + 1 := by
  cases T with
  | n0 k f => simp only [notT]; split <;> simp [Tr.size]
  | n1 k f a => simp only [notT]; split <;> simp only [Tr.size] <;> omega
  | n2 k f a b => simp [notT, Tr.size]
theorem andT_size (S T : Tr) : (andT S T).size ≤ S.size + T.size + 1 := by
  simp only [andT]
  split
  · omega
  · split
    · omega
    · simp [Tr.size]
theorem orT_size (S T : Tr) : (orT S T).size ≤ S.size + T.size + 4 := by
  have h1 := notT_size S
  have h2 := notT_size T
  have h3 := andT_size (notT S) (notT T)
  have h4 := notT_size (andT (notT S) (notT T))
  unfold orT
  omega
theorem afterT_size (s : List Int) (T : Tr) (h : T.size ≤ 60) : (afterT s T).size ≤ 70 * T.size := by
  induction T with
  | n0 k f => simp only [afterT]; split; split; all_goals simp [Tr.size]
  | n1 k f a ih =>
    have hs : (Tr.n1 k f a).size = a.size + 1 := rfl
    have ha := ih (by omega)
    have h1 := notT_size (afterT s a)
    have h2 := andT_size (afterT s a) (.n1 k f a)
    have h3 := orT_size (afterT s a) (.n1 k f a)
    simp only [afterT]
    split
    · omega
    · split
      · omega
      · split <;> omega
  | n2 k f a b ih ih' =>
    have hs : (Tr.n2 k f a b).size = a.size + b.size + 1 := rfl
    have ha := ih (by omega)
    have hb := ih' (by omega)
    have h2 := andT_size (afterT s a) (afterT s b)
    have h3 := orT_size (afterT s a) (afterT s b)
    have h4 := andT_size (afterT s a) (.n2 k f a b)
    have h5 := orT_size (afterT s b) (andT (afterT s a) (.n2 k f a b))
    simp only [afterT]
    split
    · omega
    · split <;> omega
end Go.Proofs.Ytdfbclkafocnpaa
