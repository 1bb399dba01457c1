/- Eval says whether a formula is true for a list of states, or what is wrong: for every list of nodes and every list of states. -/
import Derived.Test.YtdfbclkafocnpaaVal
import Derived.Test.YtdfbclkafocnpaaEnc
import Derived.Test.YtdfbclkafocnpaaAfter
import Derived.Test.YtdfbclkafocnpaaHolds
namespace Go.Proofs.Ytdfbclkafocnpaa
open Go.RowKit

theorem holds_valid (facts : Int) (ns : List Nd) (ss : States) (T : Tr) (A : Option Addr) (c : Nat) (vs : Value) (w : World) (B : Nat) (hT : ns = enc 0 T) (hok : T.ok facts) (h60 : T.size ≤ 60) (hs1 : 0 < ss.length) (hs2 : ss.length ≤ 20)
    (hN : NodesAt w B (.slice A ns.length c) ns) (hS : StatesAt w B vs ss) (hB : B ≤ w.heap.size) :
    Calls Try.prog 46 #[.agg #[.slice A ns.length c], vs] w (HoldsPost T ss w) := by
  have hlen : ns.length = T.size := by rw [hT]; exact enc_length 0 T
  have hp := T.size_pos
  have hall : ∀ j, ∃ S : Tr, j < ns.length → SubAt ns j S ∧ S.ok facts := by
    intro j
    by_cases hj : j < ns.length
    · obtain ⟨S, h1, h2⟩ := subAt_all hok [] [] j (Nat.zero_le _) (by simp; omega)
      exact ⟨S, fun _ => ⟨by rw [hT]; simpa using h1, h2⟩⟩
    · exact ⟨T, fun h => absurd h hj⟩
  have htr := fun j => Classical.choose_spec (hall j)
  have := holds_any ns ss (fun j => Classical.choose (hall j)) facts A c vs w B (by omega) (by omega) hs1 hs2 hN hS hB htr
  have hroot : Classical.choose (hall (ns.length - 1)) = T := by
    refine subAt_det (htr (ns.length - 1) (by omega)).1 ?_
    rw [hlen, hT]
    exact subAt_root T
  rw [hroot] at this
  exact this


/-- Are these states such as Eval takes? -/
def GoodStates (facts : Int) (ss : States) : Prop := 0 < ss.length ∧ ss.length ≤ 20 ∧ ∀ s ∈ ss, isSetB s facts = true

def EvalRes (facts : Int) (ns : List Nd) (ss : States) (b : Bool) (c : Int) : Prop :=
  (c = 0 ∧ GoodStates facts ss ∧ Valid facts ns ∧ ∀ T, ns = enc 0 T → b = sem T ss) ∨
  (c ≠ 0 ∧ b = false ∧ ¬ (Valid facts ns ∧ GoodStates facts ss) ∧ (0 ≤ facts → facts ≤ 24 → 60 < ns.length → c = 2))

def EvalPost (facts : Int) (ns : List Nd) (ss : States) (w : World) (e : Ending) (w' : World) : Prop :=
  ∃ (b : Bool) (c ix : Int), e = .returned (.tuple #[.bool b, .agg #[.int .i64 c, .int .i64 ix]]) ∧ EvalRes facts ns ss b c ∧ Below w.heap.size w w'

def EvRel (facts : Int) (ss : States) (w : World) (R1 bx : Nat) (A : Option Addr) (m c : Nat) (i : Value) (wr : World) : Prop :=
  ∃ k : Nat, i = .int .i64 k ∧ k ≤ ss.length ∧ (∀ (j : Nat) (s : List Int), j < k → ss[j]? = some s → isSetB s facts = true) ∧ Below w.heap.size w wr ∧ Blk wr R1 45 #[.int .i64 0, .int .i64 0] ∧ Blk wr bx 24 #[.slice A m c]

theorem eval_fin {w w1 : World} {R1 : Nat} {a b x y : Int} (hb : Below w.heap.size w w1) (b1 : Blk w1 R1 45 #[.int .i64 a, .int .i64 b]) (h : w.heap.size ≤ R1) :
    Blk ((w1.setCell ⟨R1, 0, none⟩ (.int .i64 x)).setCell ⟨R1, 1, none⟩ (.int .i64 y)) R1 45 #[.int .i64 x, .int .i64 y] ∧ Below w.heap.size w ((w1.setCell ⟨R1, 0, none⟩ (.int .i64 x)).setCell ⟨R1, 1, none⟩ (.int .i64 y)) :=
  ⟨(b1.set_ 0 _).set_ 1 _, (hb.setCell (p := ⟨R1, 0, none⟩) h _).setCell (p := ⟨R1, 1, none⟩) h _⟩
theorem eval_fin2 {w w1 : World} {R1 : Nat} {a b x y : Int} {o : Obj} (hb : Below w.heap.size w w1) (b1 : Blk w1 R1 45 #[.int .i64 a, .int .i64 b]) (h : w.heap.size ≤ R1) :
    Blk (((w1.setCell ⟨R1, 0, none⟩ (.int .i64 x)).setCell ⟨R1, 1, none⟩ (.int .i64 y)).alloc o) R1 45 #[.int .i64 x, .int .i64 y] ∧ Below w.heap.size w (((w1.setCell ⟨R1, 0, none⟩ (.int .i64 x)).setCell ⟨R1, 1, none⟩ (.int .i64 y)).alloc o) := by
  obtain ⟨h1, h2⟩ := eval_fin (x := x) (y := y) hb b1 h
  exact ⟨h1.alloc o, h2.alloc h2.size o⟩
theorem not_good {facts : Int} {ns : List Nd} {ss : States} {k : Nat} {s : List Int} (hs : ss[k]? = some s) (h : isSetB s facts = false) : ¬ (Valid facts ns ∧ GoodStates facts ss) := by
  rintro ⟨_, _, _, hg⟩
  rw [hg s (List.mem_of_getElem? hs)] at h
  cases h
theorem enc_inj {S T : Tr} (h : enc 0 S = enc 0 T) : S = T := by
  have h1 := subAt_root S
  have h2 := subAt_root T
  have hl : S.size = T.size := by rw [← enc_length 0 S, h, enc_length]
  rw [h, hl] at h1
  exact subAt_det h1 h2

set_option maxHeartbeats 1000000 in
theorem eval_any (facts : Int) (ns : List Nd) (ss : States) (v vs : Value) (w : World) (B : Nat) (hN : NodesAt w B v ns) (hS : StatesAt w B vs ss) (hB : B ≤ w.heap.size) :
    Calls Try.prog 39 #[.agg #[v], .int .i64 facts, vs] w (EvalPost facts ns ss w) := by
  obtain ⟨A, c, rfl, hc1, hc2, _⟩ := hN.form
  obtain ⟨As, cs, rfl, hs1, hs2, hsat⟩ := hS.form
  obtain ⟨m, hm⟩ : ∃ m, ns.length = m := ⟨_, rfl⟩
  have hval := fun W (hb : Below w.heap.size w W) => validate_any facts ns _ W B (hN.below hb hB) (Nat.le_trans hB hb.size)
  have hholds := fun W (hb : Below w.heap.size w W) (T : Tr) (hT : ns = enc 0 T) (hok : T.ok facts) (h60 : T.size ≤ 60) (h1 : 0 < ss.length) (h2 : ss.length ≤ 20) => holds_valid facts ns ss T A c (.slice As ss.length cs) W B hT hok h60 h1 h2 (hN.below hb hB) (hS.below hb hB) (Nat.le_trans hB hb.size)
  rw [hm] at hval hholds hN hc1 ⊢
  have HV := Lib.hid hval
  have HH := Lib.hid hholds
  have HN := Lib.hid hN
  have HS := Lib.hid hS
  have HSAT := Lib.hid hsat
  have HM := Lib.hid hm
  clear hval hholds hN hS hsat hm
  unfold maxLen at hc2 hs2
  go_enter Try.func39, Try.ntmps39
  go_wp2_with fail
  refine (HV.out _ (((Below.refl _ w).alloc (Nat.le_refl _) _).alloc (by simp) _)).mono ?_
  rintro e w1 ⟨cc, ix, rfl, hres, hb⟩
  have hbA : Below w.heap.size w ((w.alloc (.cells #[.slice A m c] 24)).alloc (.cells #[.int .i64 0, .int .i64 0] 45)) := ((Below.refl _ w).alloc (Nat.le_refl _) _).alloc (by simp) _
  have hb' : Below w.heap.size w w1 := hbA.trans (hb.mono hbA.size)
  have b0 : Blk w1 w.heap.size 24 #[.slice A m c] := ((Blk.new w 24 #[.slice A m c]).alloc _).below hb (by simp; omega)
  have b1 : Blk w1 (w.heap.size + 1) 45 #[.int .i64 0, .int .i64 0] := by
    have := Blk.new (w.alloc (.cells #[.slice A m c] 24)) 45 #[.int .i64 0, .int .i64 0]
    rw [World.size_alloc] at this
    exact this.below hb (by simp)
  have hs3 := hb.size
  simp only [World.size_alloc] at hs3
  clear hb hbA
  obtain ⟨R1, hR1⟩ : ∃ R1, w.heap.size + 1 = R1 := ⟨_, rfl⟩
  rw [hR1] at b1 hs3
  have c1 : w1.cell? ⟨R1, 0, none⟩ = some (.int .i64 0) := b1.cell 0
  have c2 : w1.cell? ⟨R1, 1, none⟩ = some (.int .i64 0) := b1.cell 1
  have f1 := b1.frozen 0
  have f2 := b1.frozen 1
  have c0 : w1.cell? ⟨w.heap.size, 0, none⟩ = some (.slice A m c) := b0.cell 0
  simp only [hR1]
  have HB := Lib.hid hb'
  have HB1 := Lib.hid b1
  have HB0 := Lib.hid b0
  have hw1 : w.heap.size < w1.heap.size := by omega
  have hr1 : R1 < w1.heap.size := by omega
  have HR := Lib.hid hR1
  clear hb' b0 b1 hR1 hs3
  by_cases hcc : cc = 0
  · subst hcc
    have hvalid : Valid facts ns ∧ ix = 0 := by
      rcases hres with ⟨h, _, h'⟩ | ⟨_, h, _⟩
      · exact ⟨h, h'⟩
      · exact absurd rfl h
    obtain ⟨hvv, rfl⟩ := hvalid
    clear hres
    have HVV := Lib.hid hvv
    clear hvv
    have hbB : Below w.heap.size w (w1.alloc (.cells #[.int .i64 0, .int .i64 0] 45)) := HB.out.alloc HB.out.size _
    have bB1 := HB1.out.alloc (.cells #[.int .i64 0, .int .i64 0] 45)
    have bB0 := HB0.out.alloc (.cells #[.int .i64 0, .int .i64 0] 45)
    have HBB := Lib.hid hbB
    have HBB1 := Lib.hid bB1
    have HBB0 := Lib.hid bB0
    clear hbB bB1 bB0
    by_cases hl : ss.length = 0 ∨ 20 < ss.length
    · have hr : EvalRes facts ns ss false 9 := .inr ⟨by decide, rfl, fun h => by have := h.2.1; have := h.2.2.1; omega, fun _ _ h => by have := HVV.out.2.2.2.1; omega⟩
      have HRR := Lib.hid hr
      clear hr
      obtain ⟨ls, hls⟩ : ∃ ls, ss.length = ls := ⟨_, rfl⟩
      rw [hls] at hl ⊢
      have HLS := Lib.hid hls
      clear hls
      rcases hl with rfl | hl
      · go_wp2_with fail
        have hz := eval_fin2 (a := 0) (b := 0) (x := 9) (y := -3) (o := .cells #[.int .i64 0, .int .i64 0] 45) HB.out HB1.out (by rw [← HR.out]; omega)
        obtain ⟨z1, z2⟩ := hz
        have d0 := z1.cell 0
        have d1 := z1.cell 1
        generalize ((w1.setCell ⟨R1, 0, none⟩ (.int .i64 9)).setCell ⟨R1, 1, none⟩ (.int .i64 (-3))).alloc (.cells #[.int .i64 0, .int .i64 0] 45) = Z at z1 z2 d0 d1 ⊢
        have d0' : Z.cell? ⟨R1, 0, none⟩ = some (.int .i64 9) := d0
        have d1' : Z.cell? ⟨R1, 1, none⟩ = some (.int .i64 (-3)) := d1
        exact bodyPost_ret (v := .tuple #[.bool false, .agg #[.int .i64 9, .int .i64 (-3)]]) (by simp [results, Try.results39, go_sem, d0', d1']) rfl ⟨_, _, _, rfl, HRR.out, z2⟩
      · have hlb : ((ls : Int) == 0) = false := by rw [beq_eq_false_iff_ne]; omega
        have hl' : (20 : Int) < (ls : Int) := by omega
        go_wp2_with fail
        have hz := eval_fin2 (a := 0) (b := 0) (x := 9) (y := -3) (o := .cells #[.int .i64 0, .int .i64 0] 45) HB.out HB1.out (by rw [← HR.out]; omega)
        obtain ⟨z1, z2⟩ := hz
        have d0 := z1.cell 0
        have d1 := z1.cell 1
        generalize ((w1.setCell ⟨R1, 0, none⟩ (.int .i64 9)).setCell ⟨R1, 1, none⟩ (.int .i64 (-3))).alloc (.cells #[.int .i64 0, .int .i64 0] 45) = Z at z1 z2 d0 d1 ⊢
        have d0' : Z.cell? ⟨R1, 0, none⟩ = some (.int .i64 9) := d0
        have d1' : Z.cell? ⟨R1, 1, none⟩ = some (.int .i64 (-3)) := d1
        exact bodyPost_ret (v := .tuple #[.bool false, .agg #[.int .i64 9, .int .i64 (-3)]]) (by simp [results, Try.results39, go_sem, d0', d1']) rfl ⟨_, _, _, rfl, HRR.out, z2⟩
    · have hlb : ((ss.length : Int) == 0) = false := by rw [beq_eq_false_iff_ne]; omega
      have hl' : ¬ (20 : Int) < (ss.length : Int) := by omega
      have hl1 : 0 < ss.length := by omega
      have hl2 : ss.length ≤ 20 := by omega
      clear hl c0 c1 c2 f1 f2
      go_wp2_with fail
      go_loopw [29] (EvRel facts ss w R1 w.heap.size A m c) (fun i _ => ss.length - (intOf i).toNat)
      case atStart => exact ⟨0, rfl, Nat.zero_le _, fun j _ hj => absurd hj (Nat.not_lt_zero _), HBB.out, HBB1.out, HBB0.out⟩
      case round =>
        obtain ⟨k, rfl, hk, hall, hb, hb1, hb0⟩ := hrel
        have c1 : wr.cell? ⟨R1, 0, none⟩ = some (.int .i64 0) := hb1.cell 0
        have c2 : wr.cell? ⟨R1, 1, none⟩ = some (.int .i64 0) := hb1.cell 1
        have f1 := hb1.frozen 0
        have f2 := hb1.frozen 1
        have c0 : wr.cell? ⟨w.heap.size, 0, none⟩ = some (.slice A m c) := hb0.cell 0
        have hr1w := hb1.lt
        by_cases hlt : k < ss.length
        · obtain ⟨s, hs⟩ : ∃ s, ss[k]? = some s := ⟨_, List.getElem?_eq_getElem hlt⟩
          obtain ⟨bs, offs, us, rfl, hbs, hcs, his⟩ := HSAT.out k s hs
          have hsc : wr.cell? ⟨bs, offs + k, none⟩ = some us := cell_later hb hcs
          have hi := isSet_any s facts us B wr (his.below (hb.mono hB) (Nat.le_refl _))
          obtain ⟨Au, cu, rfl, _, _, _⟩ := his.form
          have HBW := Lib.hid hb
          have HBW1 := Lib.hid hb1
          have HBW0 := Lib.hid hb0
          have HA := Lib.hid hall
          have HSK := Lib.hid hs
          cases hset : isSetB s facts
          all_goals
            rw [hset] at hi
            have HI := Lib.hid hi
            have HSET := Lib.hid hset
            clear hi hset hb hb1 hb0 hall hs hcs his
          · go_wp2_with fail
            refine HI.out.mono ?_
            rintro e w' ⟨rfl, rfl⟩
            go_wp2_with fail
            have hz := eval_fin (a := 0) (b := 0) (x := 5) (y := -4) HBW.out HBW1.out (by rw [← HR.out]; omega)
            obtain ⟨z1, z2⟩ := hz
            have d0 := z1.cell 0
            have d1 := z1.cell 1
            generalize (wr.setCell ⟨R1, 0, none⟩ (.int .i64 5)).setCell ⟨R1, 1, none⟩ (.int .i64 (-4)) = Z at z1 z2 d0 d1 ⊢
            have d0' : Z.cell? ⟨R1, 0, none⟩ = some (.int .i64 5) := d0
            have d1' : Z.cell? ⟨R1, 1, none⟩ = some (.int .i64 (-4)) := d1
            exact bodyPost_ret (v := .tuple #[.bool false, .agg #[.int .i64 5, .int .i64 (-4)]]) (by simp [results, Try.results39, go_sem, d0', d1']) rfl ⟨_, _, _, rfl, .inr ⟨by decide, rfl, not_good HSK.out HSET.out, fun _ _ h => by have := HVV.out.2.2.2.1; omega⟩, z2⟩
          · go_wp2_with fail
            refine HI.out.mono ?_
            rintro e w' ⟨rfl, rfl⟩
            go_wp2_with fail
            go_roundw
            case rel => exact ⟨k + 1, by go_num, by omega, fun j s' hj hs' => by
                          rcases Nat.lt_or_ge j k with h | h
                          · exact HA.out j s' h hs'
                          · obtain rfl : j = k := by omega
                            rw [HSK.out] at hs'
                            injection hs' with hs'
                            subst hs'
                            exact HSET.out, HBW.out, HBW1.out, HBW0.out⟩
            case measure => simp [intOf]; omega
        · have hkk : k = ss.length := by omega
          subst hkk
          have hgood : GoodStates facts ss := ⟨hl1, hl2, fun s hs => by
            obtain ⟨j, hj⟩ := List.mem_iff_getElem?.1 hs
            exact hall j s (List.getElem?_eq_some_iff.1 hj).1 hj⟩
          obtain ⟨T, hT, hok, h60⟩ := enc_of_valid HVV.out
          have hh := HH.out wr hb T hT hok h60 hl1 hl2
          have HHH := Lib.hid hh
          have HBW := Lib.hid hb
          have HBW1 := Lib.hid hb1
          have HG := Lib.hid hgood
          have HT := Lib.hid hT
          have h0l : (0 : Int) < (ss.length : Int) := by omega
          clear hh hb hb1 hb0 hall hgood hT
          go_wp2_with fail
          refine HHH.out.mono ?_
          rintro e w2 ⟨g, rfl, hg, hb2⟩
          have bq := HBW1.out.below hb2 HBW1.out.lt
          have c1' : w2.cell? ⟨R1, 0, none⟩ = some (.int .i64 0) := bq.cell 0
          have c2' : w2.cell? ⟨R1, 1, none⟩ = some (.int .i64 0) := bq.cell 1
          have f1' := bq.frozen 0
          have f2' := bq.frozen 1
          have hr2 := bq.lt
          have HBQ := Lib.hid bq
          have hbz : Below w.heap.size w w2 := HBW.out.trans (hb2.mono HBW.out.size)
          have HBZ := Lib.hid hbz
          clear bq hbz hb2
          go_wp2_with fail
          have hz := eval_fin (a := 0) (b := 0) (x := 0) (y := 0) HBZ.out HBQ.out (by rw [← HR.out]; omega)
          obtain ⟨z1, z2⟩ := hz
          have d0 := z1.cell 0
          have d1 := z1.cell 1
          generalize (w2.setCell ⟨R1, 0, none⟩ (.int .i64 0)).setCell ⟨R1, 1, none⟩ (.int .i64 0) = Z at z1 z2 d0 d1 ⊢
          have d0' : Z.cell? ⟨R1, 0, none⟩ = some (.int .i64 0) := d0
          have d1' : Z.cell? ⟨R1, 1, none⟩ = some (.int .i64 0) := d1
          exact bodyPost_ret (v := .tuple #[.bool (sem T ss), .agg #[.int .i64 0, .int .i64 0]]) (by simp [results, Try.results39, go_sem, d0', d1']) rfl ⟨_, _, _, rfl, .inl ⟨rfl, HG.out, HVV.out, fun T' hT' => by rw [enc_inj (HT.out.symm.trans hT')]⟩, z2⟩
  · have hcb : (cc == 0) = false := by simpa using hcc
    have hr : EvalRes facts ns ss false cc := by
      rcases hres with ⟨_, h, _⟩ | ⟨h1, h2, h3⟩
      · exact absurd h hcc
      · exact .inr ⟨h2, rfl, fun h => h1 h.1, h3⟩
    have HRR := Lib.hid hr
    clear hr hres
    have hbB : Below w.heap.size w (w1.alloc (.cells #[.int .i64 cc, .int .i64 ix] 45)) := HB.out.alloc HB.out.size _
    have bB1 := HB1.out.alloc (.cells #[.int .i64 cc, .int .i64 ix] 45)
    have HBB := Lib.hid hbB
    have HBB1 := Lib.hid bB1
    clear hbB bB1
    go_wp2_with fail
    go_region
    all_goals
      go_wp2_with fail
      have hz := eval_fin2 (a := 0) (b := 0) (x := cc) (y := ix) (o := .cells #[.int .i64 cc, .int .i64 ix] 45) HB.out HB1.out (by rw [← HR.out]; omega)
      obtain ⟨z1, z2⟩ := And.intro hz.1.drew hz.2.drew
      have d0 := z1.cell 0
      have d1 := z1.cell 1
      generalize (((w1.setCell ⟨R1, 0, none⟩ (.int .i64 cc)).setCell ⟨R1, 1, none⟩ (.int .i64 ix)).alloc (.cells #[.int .i64 cc, .int .i64 ix] 45)).drew = Z at z1 z2 d0 d1 ⊢
      have d0' : Z.cell? ⟨R1, 0, none⟩ = some (.int .i64 cc) := d0
      have d1' : Z.cell? ⟨R1, 1, none⟩ = some (.int .i64 ix) := d1
      exact bodyPost_ret (v := .tuple #[.bool false, .agg #[.int .i64 cc, .int .i64 ix]]) (by simp [results, Try.results39, go_sem, d0', d1']) rfl ⟨_, _, _, rfl, HRR.out, z2⟩
end Go.Proofs.Ytdfbclkafocnpaa
