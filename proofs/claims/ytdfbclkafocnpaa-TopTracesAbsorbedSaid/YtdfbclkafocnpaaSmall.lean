/- The small functions that make, deny and join formulas in memory: what each returns, for every formula that lies in memory. -/
import Derived.Test.YtdfbclkafocnpaaHead
namespace Go.Proofs.Ytdfbclkafocnpaa
open Go.RowKit

section
variable {S E : TypeId} {w w0 w' : World} {lo hi : Nat}

/-- A new node without children. -/
theorem ret_n0 (k : Int) (hlo : lo ≤ w.heap.size) : RetTree S E lo (.n0 k 0) w (.returned (.pointer (some ⟨w.heap.size, 0, none⟩))) (w.alloc (.cells #[.int .i64 k, .int .i64 0, .slice none 0 0] S)) :=
  ⟨.n0 w.heap.size k 0 (.slice none 0 0), rfl, rfl, ⟨hlo, by rw [World.size_alloc]; omega, Blk.new _ _ _, Row.nil _ _ _ _⟩, (Below.refl _ _).alloc (Nat.le_refl _) _⟩

/-- A new node whose row of children is there. -/
theorem ret_mk {W : World} {cs : List LT} {v : Value} (k : Int) (hb : Below W.heap.size W w) (hlo : lo ≤ W.heap.size) (hr : Row w E lo w.heap.size v (cs.map LT.ptr)) (hc : ∀ c ∈ cs, c.In w S E lo w.heap.size) (hl : cs.length ≤ 2) :
    RetTree S E lo (Tr.mk k 0 (cs.map LT.tr)) W (.returned (.pointer (some ⟨w.heap.size, 0, none⟩))) (w.alloc (.cells #[.int .i64 k, .int .i64 0, v] S)) := by
  have hA : Below w.heap.size w (w.alloc (.cells #[.int .i64 k, .int .i64 0, v] S)) := (Below.refl _ _).alloc (Nat.le_refl _) _
  have hs : w.heap.size ≤ (w.alloc (.cells #[.int .i64 k, .int .i64 0, v] S)).heap.size := hA.size
  refine ⟨LT.mk w.heap.size k 0 v cs, by rw [LT.mk_blk], by rw [LT.mk_tr], LT.In.mk ⟨Nat.le_trans hlo hb.size, by rw [World.size_alloc]; omega, Blk.new _ _ _, (hr.below hA (Nat.le_refl _)).mono (Nat.le_refl _) hs⟩ (fun c h => ((hc c h).below hA (Nat.le_refl _)).mono (Nat.le_refl _) hs) hl, hb.trans (hA.mono hb.size)⟩

/-- The row that a literal makes. -/
theorem row_lit {ps : List Value} (hlo : lo ≤ w.heap.size) (hm : ps.length ≤ maxLen) : Row (w.alloc (.cells ps.toArray E)) E lo (w.heap.size + 1) (.slice (some ⟨w.heap.size, 0, none⟩) ps.length ps.length) ps := by
  refine ⟨⟨by omega, .inr ⟨w.heap.size, ps.length, ps.toArray, rfl, hlo, heap_alloc_new w _, Nat.le_refl _, hm, by simp, by simp⟩⟩, fun g h => ?_⟩
  have : w.heap.size = g := by simpa [Value.ownBlock] using h
  omega

/-- A new node over a literal row of children that are there. -/
theorem ret_lit {cs : List LT} (k : Int) (hlo : lo ≤ w.heap.size) (hc : ∀ c ∈ cs, c.In w S E lo w.heap.size) (hl : cs.length ≤ 2) :
    RetTree S E lo (Tr.mk k 0 (cs.map LT.tr)) w (.returned (.pointer (some ⟨w.heap.size + 1, 0, none⟩)))
      ((w.alloc (.cells (cs.map LT.ptr).toArray E)).alloc (.cells #[.int .i64 k, .int .i64 0, .slice (some ⟨w.heap.size, 0, none⟩) cs.length cs.length] S)) := by
  have hA : Below w.heap.size w (w.alloc (.cells (cs.map LT.ptr).toArray E)) := (Below.refl _ _).alloc (Nat.le_refl _) _
  have hr := row_lit (E := E) (ps := cs.map LT.ptr) hlo (by rw [List.length_map]; unfold maxLen; omega)
  rw [List.length_map] at hr
  have := ret_mk (S := S) (w := w.alloc (.cells (cs.map LT.ptr).toArray E)) k hA hlo (by rw [World.size_alloc]; exact hr) (fun c h => ((hc c h).below hA (Nat.le_refl _)).mono (Nat.le_refl _) hA.size) hl
  rw [World.size_alloc] at this
  exact this
theorem ret_lit1 {L : LT} (k : Int) (hlo : lo ≤ w.heap.size) (hL : L.In w S E lo w.heap.size) :
    RetTree S E lo (.n1 k 0 L.tr) w (.returned (.pointer (some ⟨w.heap.size + 1, 0, none⟩)))
      ((w.alloc (.cells #[.pointer (some ⟨L.blk, 0, none⟩)] E)).alloc (.cells #[.int .i64 k, .int .i64 0, .slice (some ⟨w.heap.size, 0, none⟩) 1 1] S)) :=
  ret_lit (cs := [L]) k hlo (fun c hc => by simp at hc; subst hc; exact hL) (by simp)
theorem ret_lit2 {L M : LT} (k : Int) (hlo : lo ≤ w.heap.size) (hL : L.In w S E lo w.heap.size) (hM : M.In w S E lo w.heap.size) :
    RetTree S E lo (.n2 k 0 L.tr M.tr) w (.returned (.pointer (some ⟨w.heap.size + 1, 0, none⟩)))
      ((w.alloc (.cells #[.pointer (some ⟨L.blk, 0, none⟩), .pointer (some ⟨M.blk, 0, none⟩)] E)).alloc (.cells #[.int .i64 k, .int .i64 0, .slice (some ⟨w.heap.size, 0, none⟩) 2 2] S)) :=
  ret_lit (cs := [L, M]) k hlo (fun c hc => by simp at hc; rcases hc with rfl | rfl; exact hL; exact hM) (by simp)
/-- A tree that is there is handed back. -/
theorem ret_old {L : LT} (h : L.In w S E lo hi) (hh : hi ≤ w.heap.size) : RetTree S E lo L.tr w (.returned (.pointer (some ⟨L.blk, 0, none⟩))) w :=
  ⟨L, rfl, rfl, h.mono (Nat.le_refl _) hh, Below.refl _ _⟩
/-- What is returned behind a step that only makes new blocks. -/
theorem RetTree.behind {T : Tr} {e : Ending} (h : RetTree S E lo T w e w') (hb : Below w0.heap.size w0 w) : RetTree S E lo T w0 e w' := by
  obtain ⟨L, h1, h2, h3, h4⟩ := h
  exact ⟨L, h1, h2, h3, hb.trans (h4.mono hb.size)⟩
theorem LT.In.le {L : LT} (h : L.In w S E lo hi) : lo ≤ w.heap.size := by
  have := h.node
  exact Nat.le_of_lt (Nat.lt_of_le_of_lt this.1 this.2.2.1.lt)
end

theorem wOf_any (k : Int) (A : Option Addr) (n c : Nat) (w : World) : Calls Try.prog 19 #[.int .i64 k, .slice A n c] w fun e w' => e = .returned (.pointer (some ⟨w.heap.size, 0, none⟩)) ∧ w.alloc (.cells #[.int .i64 k, .int .i64 0, .slice A n c] 38) = w' := by
  go_enter Try.func19, Try.ntmps19
  go_wp2
  go_ret
  exact ⟨rfl, rfl⟩

theorem wTrue_any (w : World) : Calls Try.prog 21 #[] w fun e w' => e = .returned (.pointer (some ⟨w.heap.size, 0, none⟩)) ∧ w.alloc (.cells #[.int .i64 1, .int .i64 0, .slice none 0 0] 38) = w' := by
  go_enter Try.func21, Try.ntmps21
  go_wp2_with (go_at_call 19; refine (wOf_any _ _ _ _ _).mono ?_; rintro e w' ⟨rfl, rfl⟩)
  go_ret
  exact ⟨rfl, rfl⟩

theorem wNot_any (L : LT) (w : World) : Calls Try.prog 18 #[.pointer (some ⟨L.blk, 0, none⟩)] w fun e w' => e = .returned (.pointer (some ⟨w.heap.size + 1, 0, none⟩)) ∧
    (w.alloc (.cells #[.pointer (some ⟨L.blk, 0, none⟩)] 29)).alloc (.cells #[.int .i64 3, .int .i64 0, .slice (some ⟨w.heap.size, 0, none⟩) 1 1] 38) = w' := by
  go_enter Try.func18, Try.ntmps18
  go_wp2_with (go_at_call 19; refine (wOf_any _ _ _ _ _).mono ?_; rintro e w' ⟨rfl, rfl⟩)
  go_ret
  exact ⟨by simp, rfl⟩

theorem wNot_ret (L : LT) (lo hi : Nat) (w : World) (h : L.In w 38 29 lo hi) (hh : hi ≤ w.heap.size) : Calls Try.prog 18 #[.pointer (some ⟨L.blk, 0, none⟩)] w (RetTree 38 29 lo (.n1 3 0 L.tr) w) :=
  (wNot_any L w).mono fun _ _ ⟨he, hw⟩ => by
    subst he; subst hw
    exact ret_lit (cs := [L]) 3 h.le (fun c hc => by simp at hc; subst hc; exact h.mono (Nat.le_refl _) hh) (by simp)
theorem wTrue_ret (lo : Nat) (w : World) (h : lo ≤ w.heap.size) : Calls Try.prog 21 #[] w (RetTree 38 29 lo (.n0 1 0) w) :=
  (wTrue_any w).mono fun _ _ ⟨he, hw⟩ => by subst he; subst hw; exact ret_n0 1 h

theorem node_any (k : Int) (A : Option Addr) (n c : Nat) (w : World) : Calls Try.prog 65 #[.int .i64 k, .slice A n c] w fun e w' => e = .returned (.pointer (some ⟨w.heap.size, 0, none⟩)) ∧ w.alloc (.cells #[.int .i64 k, .int .i64 0, .slice A n c] 76) = w' := by
  go_enter Try.func65, Try.ntmps65
  go_wp2
  go_ret
  exact ⟨rfl, rfl⟩
theorem always_any (w : World) : Calls Try.prog 61 #[] w fun e w' => e = .returned (.pointer (some ⟨w.heap.size, 0, none⟩)) ∧ w.alloc (.cells #[.int .i64 1, .int .i64 0, .slice none 0 0] 76) = w' := by
  go_enter Try.func61, Try.ntmps61
  go_wp2_with (go_at_call 65; refine (node_any _ _ _ _ _).mono ?_; rintro e w' ⟨rfl, rfl⟩)
  go_ret
  exact ⟨rfl, rfl⟩
theorem always_ret (w : World) : Calls Try.prog 61 #[] w (RetTree 76 70 0 (.n0 1 0) w) :=
  (always_any w).mono fun _ _ ⟨he, hw⟩ => by subst he; subst hw; exact ret_n0 1 (Nat.zero_le _)
theorem never_ret (w : World) : Calls Try.prog 63 #[] w (RetTree 76 70 0 (.n1 3 0 (.n0 1 0)) w) := by
  go_enter Try.func63, Try.ntmps63
  go_wp2_with (first
    | (go_at_call 61; refine (always_ret _).mono ?_; rintro e w1 ⟨L, rfl, ht, hL, hb⟩)
    | (go_at_call 65; refine (node_any _ _ _ _ _).mono ?_; rintro e w' ⟨rfl, rfl⟩))
  go_ret
  rw [← ht]
  exact (ret_lit1 3 (Nat.zero_le _) hL).behind hb

/-- Is the formula true, or not true, by its form? -/
def isTB (T : Tr) : Bool := T.kind == 1
def isFB : Tr → Bool
  | .n1 k _ a => (k == 3) && isTB a
  | _ => false
def notT : Tr → Tr
  | .n0 k f => if k = 1 then .n1 3 0 (.n0 1 0) else .n1 3 0 (.n0 k f)
  | .n1 k f a => if k = 3 then a else .n1 3 0 (.n1 k f a)
  | .n2 k f a b => .n1 3 0 (.n2 k f a b)
def andT (a b : Tr) : Tr := if (isFB a || isTB b) = true then a else if (isFB b || isTB a) = true then b else .n2 4 0 a b
def orT (a b : Tr) : Tr := notT (andT (notT a) (notT b))

theorem truth_ret (b : Bool) (w : World) : Calls Try.prog 56 #[.bool b] w (RetTree 76 70 0 (if b = true then .n0 1 0 else .n1 3 0 (.n0 1 0)) w) := by
  cases b
  · go_enter Try.func56, Try.ntmps56
    go_wp2_with (go_at_call 63; refine (never_ret _).mono ?_; rintro e w1 ⟨L, rfl, ht, hL, hb⟩)
    go_ret
    exact ⟨L, rfl, ht, hL, hb⟩
  · go_enter Try.func56, Try.ntmps56
    go_wp2_with (go_at_call 61; refine (always_ret _).mono ?_; rintro e w1 ⟨L, rfl, ht, hL, hb⟩)
    go_ret
    exact ⟨L, rfl, ht, hL, hb⟩

theorem isTrue_any (L : LT) (lo hi : Nat) (w : World) (h : L.In w 76 70 lo hi) : Calls Try.prog 64 #[.pointer (some ⟨L.blk, 0, none⟩)] w fun e w' => e = .returned (.bool (isTB L.tr)) ∧ w = w' := by
  have n3 := h.node.2.2.1
  have c0 : w.cell? ⟨L.blk, 0, none⟩ = some (.int .i64 L.tr.kind) := n3.cell 0
  go_enter Try.func64, Try.ntmps64
  go_wp2
  go_ret
  exact ⟨rfl, rfl⟩

theorem isFalse_any (facts : Int) (L : LT) (lo hi : Nat) (w : World) (h : L.In w 76 70 lo hi) (hok : L.tr.ok facts) : Calls Try.prog 66 #[.pointer (some ⟨L.blk, 0, none⟩)] w fun e w' => e = .returned (.bool (isFB L.tr)) ∧ w = w' := by
  have n3 := h.node.2.2.1
  have c0 : w.cell? ⟨L.blk, 0, none⟩ = some (.int .i64 L.tr.kind) := n3.cell 0
  have c2 : w.cell? ⟨L.blk, 2, none⟩ = some L.kidsV := n3.cell 2
  by_cases hk : L.tr.kind = 3
  · have hb : (L.tr.kind == 3) = true := by simpa using hk
    cases L with
    | n0 b k f v => simp only [LT.tr, Tr.kind, Tr.ok] at hk hok; omega
    | n2 b k f v a c => simp only [LT.tr, Tr.kind, Tr.ok] at hk hok; omega
    | n1 b k f v a =>
      obtain ⟨A, cap, hv, hcap, hmx, hcell⟩ := h.1.2.2.2.form
      obtain ⟨g, rfl, g1, g2, g3, g4, g5⟩ := hcell 0 a.ptr rfl
      rw [LT.ptr] at g4
      simp only [LT.kidsV, LT.blk] at c0 c2 ⊢
      rw [hv] at c2
      have hA := isTrue_any a lo hi w h.2
      have hr : isFB (LT.n1 b k f v a).tr = isTB a.tr := by
        simp only [LT.tr, Tr.kind] at hb
        simp only [LT.tr, isFB, hb, Bool.true_and]
      rw [hr]
      have HA := Lib.hid hA
      clear hA hr hcell hv
      unfold maxLen at hmx
      simp only [List.length_cons, List.length_nil] at c2 hcap
      go_enter Try.func66, Try.ntmps66
      go_wp2_with (go_at_call 64; refine HA.out.mono ?_; rintro e w' ⟨rfl, rfl⟩)
      go_ret
      exact ⟨rfl, rfl⟩
  · have hb : (L.tr.kind == 3) = false := by simpa using hk
    go_enter Try.func66, Try.ntmps66
    go_wp2
    go_ret
    refine ⟨?_, rfl⟩
    have hf : isFB L.tr = false := by
      cases L with
      | n0 => rfl
      | n1 b k f v a => simp only [LT.tr, Tr.kind] at hb; simp only [LT.tr, isFB, hb, Bool.false_and]
      | n2 => rfl
    rw [hf]
    rfl

theorem not_ret (facts : Int) (L : LT) (hi : Nat) (w : World) (h : L.In w 76 70 0 hi) (hh : hi ≤ w.heap.size) (hok : L.tr.ok facts) : Calls Try.prog 57 #[.pointer (some ⟨L.blk, 0, none⟩)] w (RetTree 76 70 0 (notT L.tr) w) := by
  have n3 := h.node.2.2.1
  have c0 : w.cell? ⟨L.blk, 0, none⟩ = some (.int .i64 L.tr.kind) := n3.cell 0
  have c2 : w.cell? ⟨L.blk, 2, none⟩ = some L.kidsV := n3.cell 2
  have HT := Lib.hid (isTrue_any L 0 hi w h)
  by_cases h1 : isTB L.tr = true
  · have hT : notT L.tr = .n1 3 0 (.n0 1 0) := by
      cases L with
      | n0 b k f v => simp only [LT.tr, isTB, Tr.kind] at h1; simp only [LT.tr, notT]; rw [if_pos (by simpa using h1)]
      | n1 b k f v a => simp only [LT.tr, isTB, Tr.kind, Tr.ok, beq_iff_eq] at h1 hok; omega
      | n2 b k f v a c => simp only [LT.tr, isTB, Tr.kind, Tr.ok, beq_iff_eq] at h1 hok; omega
    rw [hT]
    clear hT
    go_enter Try.func57, Try.ntmps57
    go_wp2_with (first
      | (go_at_call 64; refine HT.out.mono ?_; rintro e w' ⟨rfl, rfl⟩)
      | (go_at_call 63; refine (never_ret _).mono ?_; rintro e w1 ⟨M, rfl, ht, hM, hb⟩))
    go_ret
    exact ⟨M, rfl, ht, hM, hb⟩
  · have h1' : isTB L.tr = false := by simpa using h1
    by_cases hk : L.tr.kind = 3
    · have hb : (L.tr.kind == 3) = true := by simpa using hk
      cases L with
      | n0 b k f v => simp only [LT.tr, Tr.kind, Tr.ok] at hk hok; omega
      | n2 b k f v a c => simp only [LT.tr, Tr.kind, Tr.ok] at hk hok; omega
      | n1 b k f v a =>
        obtain ⟨A, cap, hv, hcap, hmx, hcell⟩ := h.1.2.2.2.form
        obtain ⟨g, rfl, g1, g2, g3, g4, g5⟩ := hcell 0 a.ptr rfl
        rw [LT.ptr] at g4
        simp only [LT.kidsV, LT.blk] at c0 c2 HT ⊢
        rw [hv] at c2
        have hT : notT (LT.n1 b k f v a).tr = a.tr := by
          simp only [LT.tr, Tr.kind] at hk
          simp only [LT.tr, notT, hk, if_true]
        rw [hT]
        clear hT hcell hv h1
        unfold maxLen at hmx
        simp only [List.length_cons, List.length_nil] at c2 hcap
        go_enter Try.func57, Try.ntmps57
        go_wp2_with (go_at_call 64; refine HT.out.mono ?_; rintro e w' ⟨rfl, rfl⟩)
        go_ret
        exact ret_old h.2 hh
    · have hb : (L.tr.kind == 3) = false := by simpa using hk
      have hT : notT L.tr = .n1 3 0 L.tr := by
        cases L with
        | n0 b k f v => simp only [LT.tr, isTB, Tr.kind] at h1; simp only [LT.tr, notT]; rw [if_neg (by simpa using h1)]
        | n1 b k f v a => simp only [LT.tr, Tr.kind] at hk; simp only [LT.tr, notT]; rw [if_neg hk]
        | n2 b k f v a c => rfl
      rw [hT]
      clear hT h1
      go_enter Try.func57, Try.ntmps57
      go_wp2_with (first
        | (go_at_call 64; refine HT.out.mono ?_; rintro e w' ⟨rfl, rfl⟩)
        | (go_at_call 65; refine (node_any _ _ _ _ _).mono ?_; rintro e w' ⟨rfl, rfl⟩))
      go_ret
      exact ret_lit1 3 (Nat.zero_le _) (h.mono (Nat.le_refl _) hh)

theorem and_ret (facts : Int) (L M : LT) (hi : Nat) (w : World) (h : L.In w 76 70 0 hi) (g : M.In w 76 70 0 hi) (hh : hi ≤ w.heap.size) (hok : L.tr.ok facts) (gok : M.tr.ok facts) :
    Calls Try.prog 58 #[.pointer (some ⟨L.blk, 0, none⟩), .pointer (some ⟨M.blk, 0, none⟩)] w (RetTree 76 70 0 (andT L.tr M.tr) w) := by
  have HT := Lib.hid (isTrue_any L 0 hi w h)
  have GT := Lib.hid (isTrue_any M 0 hi w g)
  have HF := Lib.hid (isFalse_any facts L 0 hi w h hok)
  have GF := Lib.hid (isFalse_any facts M 0 hi w g gok)
  by_cases h1 : (isFB L.tr || isTB M.tr) = true
  · have hT : andT L.tr M.tr = L.tr := by rw [andT, if_pos h1]
    rw [hT]
    clear hT
    cases h2 : isFB L.tr
    all_goals (rw [h2] at HF; simp only [h2, Bool.false_or, Bool.true_or] at h1)
    · rw [h1] at GT
      clear h1 h2
      go_enter Try.func58, Try.ntmps58
      go_wp2_with (first
        | (go_at_call_of 66 (L.blk); refine HF.out.mono ?_; rintro e w' ⟨rfl, rfl⟩)
        | (go_at_call_of 64 (M.blk); refine GT.out.mono ?_; rintro e w' ⟨rfl, rfl⟩))
      go_ret
      exact ret_old h hh
    · clear h1 h2
      go_enter Try.func58, Try.ntmps58
      go_wp2_with (first
        | (go_at_call_of 66 (L.blk); refine HF.out.mono ?_; rintro e w' ⟨rfl, rfl⟩)
        | (go_at_call_of 64 (M.blk); refine GT.out.mono ?_; rintro e w' ⟨rfl, rfl⟩))
      go_ret
      exact ret_old h hh
  · have h1' : isFB L.tr = false ∧ isTB M.tr = false := by simpa using h1
    rw [h1'.1] at HF
    rw [h1'.2] at GT
    by_cases h2 : (isFB M.tr || isTB L.tr) = true
    · have hT : andT L.tr M.tr = M.tr := by rw [andT, if_neg h1, if_pos h2]
      rw [hT]
      clear hT h1 h1'
      cases h3 : isFB M.tr
      all_goals (rw [h3] at GF; simp only [h3, Bool.false_or, Bool.true_or] at h2)
      · rw [h2] at HT
        clear h2 h3
        go_enter Try.func58, Try.ntmps58
        go_wp2_with (first
          | (go_at_call_of 66 (L.blk); refine HF.out.mono ?_; rintro e w' ⟨rfl, rfl⟩)
          | (go_at_call_of 64 (M.blk); refine GT.out.mono ?_; rintro e w' ⟨rfl, rfl⟩)
          | (go_at_call_of 66 (M.blk); refine GF.out.mono ?_; rintro e w' ⟨rfl, rfl⟩)
          | (go_at_call_of 64 (L.blk); refine HT.out.mono ?_; rintro e w' ⟨rfl, rfl⟩))
        go_ret
        exact ret_old g hh
      · clear h2 h3
        go_enter Try.func58, Try.ntmps58
        go_wp2_with (first
          | (go_at_call_of 66 (L.blk); refine HF.out.mono ?_; rintro e w' ⟨rfl, rfl⟩)
          | (go_at_call_of 64 (M.blk); refine GT.out.mono ?_; rintro e w' ⟨rfl, rfl⟩)
          | (go_at_call_of 66 (M.blk); refine GF.out.mono ?_; rintro e w' ⟨rfl, rfl⟩)
          | (go_at_call_of 64 (L.blk); refine HT.out.mono ?_; rintro e w' ⟨rfl, rfl⟩))
        go_ret
        exact ret_old g hh
    · have h2' : isFB M.tr = false ∧ isTB L.tr = false := by simpa using h2
      rw [h2'.1] at GF
      rw [h2'.2] at HT
      have hT : andT L.tr M.tr = .n2 4 0 L.tr M.tr := by rw [andT, if_neg h1, if_neg h2]
      rw [hT]
      clear hT h1 h1' h2 h2'
      go_enter Try.func58, Try.ntmps58
      go_wp2_with (first
        | (go_at_call_of 66 (L.blk); refine HF.out.mono ?_; rintro e w' ⟨rfl, rfl⟩)
        | (go_at_call_of 64 (M.blk); refine GT.out.mono ?_; rintro e w' ⟨rfl, rfl⟩)
        | (go_at_call_of 66 (M.blk); refine GF.out.mono ?_; rintro e w' ⟨rfl, rfl⟩)
        | (go_at_call_of 64 (L.blk); refine HT.out.mono ?_; rintro e w' ⟨rfl, rfl⟩)
        | (go_at_call 65; refine (node_any _ _ _ _ _).mono ?_; rintro e w' ⟨rfl, rfl⟩))
      go_ret
      exact ret_lit2 4 (Nat.zero_le _) (h.mono (Nat.le_refl _) hh) (g.mono (Nat.le_refl _) hh)

theorem notT_ok {facts : Int} {T : Tr} (h : T.ok facts) : (notT T).ok facts := by
  cases T with
  | n0 k f => simp only [notT]; split <;> simp [Tr.ok] at h ⊢; exact h
  | n1 k f a => simp only [notT]; split; exact h.2; exact ⟨.inl rfl, h⟩
  | n2 k f a b => exact ⟨.inl rfl, h⟩
theorem andT_ok {facts : Int} {S T : Tr} (h : S.ok facts) (g : T.ok facts) : (andT S T).ok facts := by
  simp only [andT]
  split
  · exact h
  · split
    · exact g
    · exact ⟨.inl rfl, h, g⟩

theorem or_ret (facts : Int) (L M : LT) (hi : Nat) (w : World) (h : L.In w 76 70 0 hi) (g : M.In w 76 70 0 hi) (hh : hi ≤ w.heap.size) (hok : L.tr.ok facts) (gok : M.tr.ok facts) :
    Calls Try.prog 59 #[.pointer (some ⟨L.blk, 0, none⟩), .pointer (some ⟨M.blk, 0, none⟩)] w (RetTree 76 70 0 (orT L.tr M.tr) w) := by
  have hok1 := notT_ok hok
  have gok1 := notT_ok gok
  have aok := andT_ok hok1 gok1
  go_enter Try.func59, Try.ntmps59
  go_wp2_with fail
  refine (not_ret facts L hi w h hh hok).mono ?_
  rintro e w1 ⟨L1, rfl, ht1, hL1, hb1⟩
  have g1 := g.below hb1 hh
  have hh1 := Nat.le_trans hh hb1.size
  rw [← ht1] at hok1 aok
  go_wp2_with fail
  refine (not_ret facts M hi w1 g1 hh1 gok).mono ?_
  rintro e w2 ⟨M1, rfl, ht2, hM1, hb2⟩
  have hL2 := (hL1.below hb2 (Nat.le_refl _)).mono (Nat.le_refl _) hb2.size
  rw [← ht2] at gok1 aok
  go_wp2_with fail
  refine (and_ret facts L1 M1 w2.heap.size w2 hL2 hM1 (Nat.le_refl _) hok1 gok1).mono ?_
  rintro e w3 ⟨R, rfl, ht3, hR, hb3⟩
  rw [← ht3] at aok
  go_wp2_with fail
  refine (not_ret facts R w3.heap.size w3 hR (Nat.le_refl _) aok).mono ?_
  rintro e w4 ⟨Z, rfl, ht4, hZ, hb4⟩
  go_wp2_with fail
  go_ret
  refine ⟨Z, rfl, ?_, hZ, hb1.trans ((hb2.mono hb1.size).trans ((hb3.mono (Nat.le_trans hb1.size hb2.size)).trans (hb4.mono (Nat.le_trans hb1.size (Nat.le_trans hb2.size hb3.size)))))⟩
  rw [ht4, ht3, ht2, ht1]
  rfl
end Go.Proofs.Ytdfbclkafocnpaa
