/- IsSet, Index, Contains, wPick: what each returns, for every list that lies in memory. -/
import Derived.Test.YtdfbclkafocnpaaForms
namespace Go.Proofs.Ytdfbclkafocnpaa
open Go.RowKit

/-- May the element in this place stand there? -/
def okAt (l : List Int) (n : Int) (i : Nat) : Bool :=
  decide (0 ≤ l.getD i 0) && decide (l.getD i 0 < n) && (decide (i = 0) || decide (l.getD (i - 1) 0 < l.getD i 0))
/-- Is it a strictly increasing list of facts? -/
def isSetB (l : List Int) (n : Int) : Bool := (List.range l.length).all (okAt l n)

theorem isSetB_true {l : List Int} {n : Int} (h : ∀ i, i < l.length → okAt l n i = true) : isSetB l n = true := by
  unfold isSetB
  rw [List.all_eq_true]
  intro i hi
  exact h i (List.mem_range.1 hi)
theorem isSetB_false {l : List Int} {n : Int} {i : Nat} (hi : i < l.length) (h : okAt l n i = false) : isSetB l n = false := by
  unfold isSetB
  rw [List.all_eq_false]
  exact ⟨i, List.mem_range.2 hi, by rw [h]; simp⟩

def SetRel (l : List Int) (n : Int) (i : Value) : Prop := ∃ k : Nat, i = .int .i64 k ∧ k ≤ l.length ∧ ∀ j, j < k → okAt l n j = true

set_option maxHeartbeats 800000 in
theorem isSet_any (l : List Int) (n : Int) (v : Value) (B : Nat) (w : World) (h : IntsAt w B v l) : Calls Try.prog 45 #[v, .int .i64 n] w fun e w' => e = .returned (.bool (isSetB l n)) ∧ w = w' := by
  obtain ⟨A, c, rfl, hl, hc, hat⟩ := h.form
  unfold maxLen at hc
  have HAT := Lib.hid hat
  clear hat h
  go_enter Try.func45, Try.ntmps45
  go_wp2_with fail
  go_loop [9] (SetRel l n) (fun i => l.length - (intOf i).toNat)
  case atStart => exact ⟨0, rfl, Nat.zero_le _, fun j hj => absurd hj (Nat.not_lt_zero _)⟩
  case round =>
    obtain ⟨k, rfl, hk, hok⟩ := hrel
    by_cases hlt : k < l.length
    · obtain ⟨x, hx⟩ : ∃ x, l[k]? = some x := ⟨_, List.getElem?_eq_getElem hlt⟩
      obtain ⟨b, off, rfl, hb, hcell⟩ := HAT.out k x hx
      have hxd : l.getD k 0 = x := by rw [List.getD_eq_getElem?_getD, hx]; rfl
      by_cases h1 : x < 0
      · have hf := isSetB_false (n := n) hlt (by unfold okAt; rw [hxd]; simp; omega)
        have HF := Lib.hid hf
        clear hf hxd hx hok
        go_wp2_with fail
        go_ret
        rw [HF.out]
        exact ⟨rfl, rfl⟩
      · by_cases h2 : n ≤ x
        · have hf := isSetB_false (n := n) hlt (by unfold okAt; rw [hxd]; simp; omega)
          have HF := Lib.hid hf
          clear hf hxd hx hok
          go_wp2_with fail
          go_ret
          rw [HF.out]
          exact ⟨rfl, rfl⟩
        · cases k with
          | zero =>
            rw [Nat.add_zero] at hcell
            have ho : okAt l n 0 = true := by unfold okAt; rw [hxd]; simp; omega
            have HO := Lib.hid ho
            have HK := Lib.hid hok
            clear ho hok hxd hx
            go_wp2_with fail
            go_round
            case rel => exact ⟨1, by go_num, by omega, fun j hj => by obtain rfl : j = 0 := by omega
                                                                      exact HO.out⟩
            case measure => simp [intOf]; omega
          | succ k =>
            obtain ⟨y, hy⟩ : ∃ y, l[k]? = some y := ⟨_, List.getElem?_eq_getElem (by omega)⟩
            obtain ⟨b', off', e, hb', hcell'⟩ := HAT.out k y hy
            injection e with e
            injection e with e e'
            subst e
            subst e'
            have hyd : l.getD k 0 = y := by rw [List.getD_eq_getElem?_getD, hy]; rfl
            by_cases h3 : x ≤ y
            · have hf := isSetB_false (n := n) hlt (by unfold okAt; rw [hxd, Nat.add_sub_cancel, hyd]; simp; omega)
              have HF := Lib.hid hf
              clear hf hxd hx hok hyd hy
              go_wp2_with fail
              go_ret
              rw [HF.out]
              exact ⟨rfl, rfl⟩
            · have ho : okAt l n (k + 1) = true := by unfold okAt; rw [hxd, Nat.add_sub_cancel, hyd]; simp; omega
              have HO := Lib.hid ho
              have HK := Lib.hid hok
              clear ho hok hxd hx hyd hy
              go_wp2_with fail
              go_round
              case rel => exact ⟨k + 1 + 1, by go_num, by omega, fun j hj => by
                            rcases Nat.lt_or_ge j (k + 1) with h | h
                            · exact HK.out j h
                            · obtain rfl : j = k + 1 := by omega
                              exact HO.out⟩
              case measure => simp [intOf]; omega
    · have hkk : k = l.length := by omega
      have hf := isSetB_true (l := l) (n := n) (fun i hi => hok i (by omega))
      have HF := Lib.hid hf
      clear hf hok hkk
      go_wp2_with fail
      go_ret
      rw [HF.out]
      exact ⟨rfl, rfl⟩

def IdxPost (l : List Int) (x : Int) (w : World) (e : Ending) (w' : World) : Prop := ∃ i : Int, e = .returned (.int .i64 i) ∧ Hid (decide (i ≥ 0) = l.contains x) ∧ w = w'
def IdxRel (l : List Int) (x : Int) (i : Value) : Prop := ∃ k : Nat, i = .int .i64 k ∧ k ≤ l.length ∧ ∀ (j : Nat) (y : Int), j < k → l[j]? = some y → ¬ x = y

theorem index_any (l : List Int) (x : Int) (v : Value) (B : Nat) (w : World) (h : IntsAt w B v l) : Calls Try.prog 62 #[v, .int .i64 x] w (IdxPost l x w) := by
  obtain ⟨A, c, rfl, hl, hc, hat⟩ := h.form
  unfold maxLen at hc
  have HAT := Lib.hid hat
  clear hat h
  go_enter Try.func62, Try.ntmps62
  go_wp2_with fail
  go_loop [8] (IdxRel l x) (fun i => l.length - (intOf i).toNat)
  case atStart => exact ⟨0, rfl, Nat.zero_le _, fun j _ hj => absurd hj (Nat.not_lt_zero _)⟩
  case round =>
    obtain ⟨k, rfl, hk, hno⟩ := hrel
    by_cases hlt : k < l.length
    · obtain ⟨y, hy⟩ : ∃ y, l[k]? = some y := ⟨_, List.getElem?_eq_getElem hlt⟩
      obtain ⟨b, off, rfl, hb, hcell⟩ := HAT.out k y hy
      have HY := Lib.hid hy
      have HN := Lib.hid hno
      clear hy hno
      by_cases hxy : x = y
      · subst hxy
        go_wp2_with fail
        go_ret
        refine ⟨(k : Int), rfl, ?_, rfl⟩
        have hm := List.mem_of_getElem? HY.out
        simp [Hid, hm]
      · have hb1 : (x == y) = false := by simpa using hxy
        go_wp2_with fail
        go_round
        case rel => exact ⟨k + 1, by go_num, by omega, fun j z hj hz => by
                      rcases Nat.lt_or_ge j k with h | h
                      · exact HN.out j z h hz
                      · obtain rfl : j = k := by omega
                        rw [HY.out] at hz
                        injection hz with hz
                        subst hz
                        exact hxy⟩
        case measure => simp [intOf]; omega
    · have hkk : k = l.length := by omega
      have hnm : l.contains x = false := by
        rw [List.contains_eq_mem, decide_eq_false_iff_not]
        intro hm
        obtain ⟨j, hj⟩ := List.mem_iff_getElem?.1 hm
        exact hno j x (by rw [hkk]; exact (List.getElem?_eq_some_iff.1 hj).1) hj rfl
      have HF := Lib.hid hnm
      clear hnm hno hkk
      go_wp2_with fail
      go_ret
      exact ⟨-1, rfl, by rw [HF.out]; rfl, rfl⟩

theorem contains_any (l : List Int) (x : Int) (v : Value) (B : Nat) (w : World) (h : IntsAt w B v l) : Calls Try.prog 53 #[v, .int .i64 x] w fun e w' => e = .returned (.bool (l.contains x)) ∧ w = w' := by
  have HI := Lib.hid (index_any l x v B w h)
  obtain ⟨A, c, rfl, hl, hc, hat⟩ := h.form
  clear hat h
  go_enter Try.func53, Try.ntmps53
  go_wp2_with (go_at_call 62; refine HI.out.mono ?_; rintro e w' ⟨i, rfl, hi, rfl⟩)
  all_goals
    go_ret
    rw [← hi.out]
    first | exact ⟨rfl, rfl⟩ | (refine ⟨?_, rfl⟩; simp [*])

/-- wPick's number lies below n. -/
def PickPost (n : Nat) (w : World) (e : Ending) (w' : World) : Prop := ∃ i : Nat, e = .returned (.int .i64 (i : Int)) ∧ i < n ∧ w = w'
theorem pick_any (x : Int) (n : Nat) (hn : 0 < n) (hn' : n ≤ 1000000) (w : World) : Calls Try.prog 22 #[.int .i64 x, .int .i64 (n : Int)] w (PickPost n w) := by
  go_enter Try.func22, Try.ntmps22
  go_wp2_with fail
  go_ret
  have h0 : 0 ≤ IntKind.u64.wrap x := by rw [IntKind.wrap_u64]; omega
  have h1 : (IntKind.u64.wrap x).tmod (n : Int) = (IntKind.u64.wrap x) % (n : Int) := Int.tmod_eq_emod_of_nonneg h0
  have h2 : 0 ≤ (IntKind.u64.wrap x) % (n : Int) := Int.emod_nonneg _ (by omega)
  have h3 : (IntKind.u64.wrap x) % (n : Int) < n := Int.emod_lt_of_pos _ (by omega)
  refine ⟨((IntKind.u64.wrap x) % (n : Int)).toNat, ?_, by omega, rfl⟩
  show Ending.returned (Value.int IntKind.i64 (wrap64 ((IntKind.u64.wrap x).tmod ↑n))) = _
  rw [h1, IntWalk.wrap64_in _ (by omega), Int.toNat_of_nonneg h2]
end Go.Proofs.Ytdfbclkafocnpaa
