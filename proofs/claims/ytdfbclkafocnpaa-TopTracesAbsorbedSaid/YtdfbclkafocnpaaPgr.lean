/- Progress at a right formula and a right state: what is left of the formula, and no fault. -/
import Derived.Test.YtdfbclkafocnpaaVal
import Derived.Test.YtdfbclkafocnpaaEnc
import Derived.Test.YtdfbclkafocnpaaAfter
import Derived.Test.YtdfbclkafocnpaaFlatw
namespace Go.Proofs.Ytdfbclkafocnpaa
open Go.RowKit

/-- Nodes in rows of the call's own. -/
def OwnN (w : World) (v : Value) (ns : List Nd) : Prop := ∃ ps : List (Nd × Value), RowN w 0 v ps ∧ ps.map (·.1) = ns
theorem own_lower {w : World} {lo size n : Nat} {E : TypeId} {v : Value} {xs : List Value} (h : w.ownsRow lo E size v n xs) : w.ownsRow 0 E size v n xs := by
  refine ⟨h.1, ?_⟩
  rcases h.2 with hn | ⟨g, cap, cur, rfl, _, r⟩
  · exact .inl hn
  · exact .inr ⟨g, cap, cur, rfl, Nat.zero_le _, r⟩
theorem RowN.ownN {w : World} {lo : Nat} {v : Value} {ps : List (Nd × Value)} (h : RowN w lo v ps) : OwnN w v (ps.map (·.1)) := ⟨ps, ⟨own_lower h.1, fun p hp => own_lower (h.2 p hp)⟩, rfl⟩
theorem OwnN.nodesAt {w : World} {v : Value} {ns : List Nd} (h : OwnN w v ns) : NodesAt w w.heap.size v ns := by
  obtain ⟨ps, h1, rfl⟩ := h
  exact h1.nodesAt (Nat.le_refl _)
theorem OwnN.below {w w' : World} {v : Value} {ns : List Nd} (h : OwnN w v ns) (hb : Below w.heap.size w w') : OwnN w' v ns := by
  obtain ⟨ps, h1, rfl⟩ := h
  exact ⟨ps, ⟨own_below h1.1 hb, fun p hp => own_below (h1.2 p hp) hb⟩, rfl⟩
/-- A store into a block of another type keeps the nodes. -/
theorem OwnN.set {w w' : World} {v : Value} {ns : List Nd} {R : Nat} {t : TypeId} {cs : Array Value} (h : OwnN w v ns) (hR : Blk w R t cs) (h1 : 50 ≠ t) (h2 : 3 ≠ t) (hk : ∀ g, g ≠ R → w'.heap[g]? = w.heap[g]?) : OwnN w' v ns := by
  obtain ⟨ps, hp, rfl⟩ := h
  refine ⟨ps, hp.far fun g hg => hk g ?_, rfl⟩
  rintro rfl
  rcases hg with hg | ⟨p, hpm, hg⟩
  · exact own_ne_blk hp.1 hR h1 hg
  · exact own_ne_blk (hp.2 p hpm) hR h2 hg

/-- What Progress returns at a right formula and a right state. -/
def ProgPost (T' : Tr) (w : World) (e : Ending) (w' : World) : Prop :=
  ∃ v : Value, e = .returned (.tuple #[.agg #[v], .agg #[.int .i64 0, .int .i64 0]]) ∧ OwnN w' v (enc 0 T') ∧ Below w.heap.size w w'

theorem prog_end {T' : Tr} {w w2 w3 : World} {R1 R2 : Nat} {v : Value} {news : List (Nd × Value)} (hb : Below w.heap.size w w3) (hd : PutDone none w2 (.slice none 0 0) w2.heap.size [] news T' v w3) (q1 : Blk w3 R1 24 #[.slice none 0 0]) (q2 : Blk w3 R2 45 #[.int .i64 0, .int .i64 0])
    (h1 : w.heap.size ≤ R1) (h2 : w.heap.size ≤ R2) (l1 : R1 < w2.heap.size) (l2 : R2 < w2.heap.size) :
    OwnN (((w3.setCell ⟨R1, 0, none⟩ v).setCell ⟨R2, 0, none⟩ (.int .i64 0)).setCell ⟨R2, 1, none⟩ (.int .i64 0)) v (enc 0 T') ∧
    Below w.heap.size w (((w3.setCell ⟨R1, 0, none⟩ v).setCell ⟨R2, 0, none⟩ (.int .i64 0)).setCell ⟨R2, 1, none⟩ (.int .i64 0)) ∧
    Blk (((w3.setCell ⟨R1, 0, none⟩ v).setCell ⟨R2, 0, none⟩ (.int .i64 0)).setCell ⟨R2, 1, none⟩ (.int .i64 0)) R1 24 #[v] ∧
    Blk (((w3.setCell ⟨R1, 0, none⟩ v).setCell ⟨R2, 0, none⟩ (.int .i64 0)).setCell ⟨R2, 1, none⟩ (.int .i64 0)) R2 45 #[.int .i64 0, .int .i64 0] := by
  have hrow : RowN (((w3.setCell ⟨R1, 0, none⟩ v).setCell ⟨R2, 0, none⟩ (.int .i64 0)).setCell ⟨R2, 1, none⟩ (.int .i64 0)) w2.heap.size v news := by
    have hr := hd.row
    rw [List.nil_append] at hr
    refine hr.far fun g hg => ?_
    have hge : w2.heap.size ≤ g := by
      rcases hg with hg | ⟨p, hp, hg⟩
      · exact (hr.1.lt g hg).1
      · exact ((hr.2 p hp).lt g hg).1
    rw [Below.heap_setCell _ _ _ _ (by simp only; omega), Below.heap_setCell _ _ _ _ (by simp only; omega), Below.heap_setCell _ _ _ _ (by simp only; omega)]
  have hne := q1.ne_ q2 (by decide)
  refine ⟨?_, ((hb.setCell (p := ⟨R1, 0, none⟩) h1 _).setCell (p := ⟨R2, 0, none⟩) h2 _).setCell (p := ⟨R2, 1, none⟩) h2 _, ?_, ?_⟩
  · have := hrow.ownN
    rw [hd.nds] at this
    exact this
  · exact (((q1.set_ 0 v).far (p := ⟨R2, 0, none⟩) hne _).far (p := ⟨R2, 1, none⟩) hne _)
  · exact ((q2.far (p := ⟨R1, 0, none⟩) (Ne.symm hne) _).set_ 0 _).set_ 1 _

set_option maxHeartbeats 1000000 in
theorem progress_any (facts : Int) (T : Tr) (s : List Int) (v sv : Value) (w : World) (B : Nat) (h0 : 0 ≤ facts) (h1 : facts ≤ 24) (hok : T.ok facts) (hsz : T.size ≤ 60) (hset : isSetB s facts = true) (hN : NodesAt w B v (enc 0 T)) (hS : IntsAt w B sv s) (hB : B ≤ w.heap.size) :
    Calls Try.prog 43 #[.agg #[v], .int .i64 facts, sv] w (ProgPost (afterT s T) w) := by
  obtain ⟨A, c, rfl, hc1, hc2, _⟩ := hN.form
  obtain ⟨As, cs, rfl, hs1, hs2, _⟩ := hS.form
  have hlen := enc_length 0 T
  have hT := subAt_root T
  have hpos := T.size_pos
  obtain ⟨m, hm⟩ : ∃ m, (enc 0 T).length = m := ⟨_, rfl⟩
  have hval := fun W (hb : Below w.heap.size w W) => validate_any facts (enc 0 T) _ W B (hN.below hb hB) (Nat.le_trans hB hb.size)
  have hisset := fun W (hb : Below w.heap.size w W) => isSet_any s facts _ B W (hS.below hb hB)
  rw [hm] at hval hN hc1 ⊢
  rw [hset] at hisset
  have HV := Lib.hid hval
  have HI := Lib.hid hisset
  have HN := Lib.hid hN
  have HS := Lib.hid hS
  have HM := Lib.hid hm
  have HL := Lib.hid hlen
  have HT := Lib.hid hT
  clear hval hisset hN hS hm hlen hT hset
  unfold maxLen at hc2
  go_enter Try.func43, Try.ntmps43
  go_wp2_with fail
  refine (HV.out _ ((((Below.refl _ w).alloc (Nat.le_refl _) _).alloc (by simp) _).alloc (by simp; omega) _)).mono ?_
  rintro e w1 ⟨cc, ix, rfl, hres, hb⟩
  have hvv := valid_enc h0 h1 hok hsz
  rcases hres with ⟨_, rfl, rfl⟩ | ⟨hnv, _⟩
  rotate_left
  · exact absurd hvv hnv
  have hbA : Below w.heap.size w (((w.alloc (.cells #[.slice A m c] 24)).alloc (.cells #[.slice none 0 0] 24)).alloc (.cells #[.int .i64 0, .int .i64 0] 45)) := (((Below.refl _ w).alloc (Nat.le_refl _) _).alloc (by simp) _).alloc (by simp; omega) _
  have hb' : Below w.heap.size w w1 := hbA.trans (hb.mono hbA.size)
  have b0 : Blk w1 w.heap.size 24 #[.slice A m c] := (((Blk.new w 24 #[.slice A m c]).alloc _).alloc _).below hb (by simp; omega)
  have b1 : Blk w1 (w.heap.size + 1) 24 #[.slice none 0 0] := by
    have := (Blk.new (w.alloc (.cells #[.slice A m c] 24)) 24 #[.slice none 0 0]).alloc (.cells #[.int .i64 0, .int .i64 0] 45)
    rw [World.size_alloc] at this
    exact this.below hb (by simp)
  have b2 : Blk w1 (w.heap.size + 1 + 1) 45 #[.int .i64 0, .int .i64 0] := by
    have := Blk.new ((w.alloc (.cells #[.slice A m c] 24)).alloc (.cells #[.slice none 0 0] 24)) 45 #[.int .i64 0, .int .i64 0]
    rw [World.size_alloc, World.size_alloc] at this
    exact this.below hb (by simp)
  have hs3 := hb.size
  simp only [World.size_alloc] at hs3
  clear hb hbA hvv
  obtain ⟨R1, hR1⟩ : ∃ R1, w.heap.size + 1 = R1 := ⟨_, rfl⟩
  obtain ⟨R2, hR2⟩ : ∃ R2, R1 + 1 = R2 := ⟨_, rfl⟩
  rw [hR1, hR2] at b2
  rw [hR1] at b1
  rw [hR1, hR2] at hs3
  have c0 : w1.cell? ⟨w.heap.size, 0, none⟩ = some (.slice A m c) := b0.cell 0
  have c1 : w1.cell? ⟨R1, 0, none⟩ = some (.slice none 0 0) := b1.cell 0
  have f1 := b1.frozen 0
  have c2 : w1.cell? ⟨R2, 0, none⟩ = some (.int .i64 0) := b2.cell 0
  have c3 : w1.cell? ⟨R2, 1, none⟩ = some (.int .i64 0) := b2.cell 1
  have f2 := b2.frozen 0
  have f3 := b2.frozen 1
  simp only [hR1, hR2]
  have HB := Lib.hid hb'
  have HB1 := Lib.hid b1
  have HB2 := Lib.hid b2
  have hw1 : w.heap.size < w1.heap.size := by omega
  have hr1 : R1 < w1.heap.size := by omega
  have hr2 : R2 < w1.heap.size := by omega
  have HR := Lib.hid hR1
  have HRR := Lib.hid hR2
  clear hb' b0 b1 b2 hR1 hR2 hs3
  go_wp2_with fail
  have hbB : Below w.heap.size w (w1.alloc (.cells #[.int .i64 0, .int .i64 0] 45)) := HB.out.alloc HB.out.size _
  refine (HI.out _ hbB).mono ?_
  rintro e w' ⟨rfl, rfl⟩
  go_wp2_with fail
  have hbC : Below w.heap.size w ((w1.alloc (.cells #[.int .i64 0, .int .i64 0] 45)).alloc (.cells #[.slice A m c, .slice As s.length cs] 68)) := hbB.alloc (by rw [World.size_alloc]; omega) _
  have bp := Blk.new (w1.alloc (.cells #[.int .i64 0, .int .i64 0] 45)) 68 #[.slice A m c, .slice As s.length cs]
  rw [World.size_alloc] at bp
  have hk : ((m : Int) - 1) = ((T.size - 1 : Nat) : Int) := by have := HM.out; have := HL.out; omega
  rw [hk]
  have hsC : ((w1.alloc (.cells #[.int .i64 0, .int .i64 0] 45)).alloc (.cells #[.slice A m c, .slice As s.length cs] 68)).heap.size = w1.heap.size + 1 + 1 := by simp
  have e1 : ((w1.alloc (.cells #[.int .i64 0, .int .i64 0] 45)).alloc (.cells #[.slice A m c, .slice As s.length cs] 68)).cell? ⟨R1, 0, none⟩ = some (.slice none 0 0) := ((HB1.out.alloc _).alloc _).cell 0
  have g1 := ((HB1.out.alloc (.cells #[.int .i64 0, .int .i64 0] 45)).alloc (.cells #[.slice A m c, .slice As s.length cs] 68))
  have g2 := ((HB2.out.alloc (.cells #[.int .i64 0, .int .i64 0] 45)).alloc (.cells #[.slice A m c, .slice As s.length cs] 68))
  clear hk e1
  generalize (w1.alloc (.cells #[.int .i64 0, .int .i64 0] 45)).alloc (.cells #[.slice A m c, .slice As s.length cs] 68) = W at hbC bp hsC g1 g2 ⊢
  refine (after_any facts (enc 0 T) s T.size T (T.size - 1) (w1.heap.size + 1) B m c A (.slice As s.length cs) W (Nat.le_refl _) HT.out hok (bp.cell 0) (bp.cell 1) (HN.out.below hbC hB) (HS.out.below hbC hB) (Nat.le_trans hB hbC.size)).mono ?_
  rintro e w2 ⟨L, rfl, htr, hL, hb2⟩
  go_wp2_with fail
  have hsize := afterT_size s T hsz
  refine (flat_any L.tr.size L w2 0 w2.heap.size w2.heap.size none 0 [] (Nat.le_refl _) hL (Nat.le_refl _) (Nat.le_refl _) ⟨World.ownsRow_nil _ _ _ _, by simp⟩ (by rw [htr]; simp; omega)).mono ?_
  rintro e w3 ⟨A3, c3', news, rfl, hd⟩
  have hb3 : Below w2.heap.size w2 w3 := hd.kept.below (fun f e => by cases e) (fun g e => by simp [Value.ownBlock] at e) (Nat.le_refl _)
  have q1 : Blk w3 R1 24 #[.slice none 0 0] := (g1.below hb2 g1.lt).below hb3 (Nat.lt_of_lt_of_le g1.lt hb2.size)
  have q2 : Blk w3 R2 45 #[.int .i64 0, .int .i64 0] := (g2.below hb2 g2.lt).below hb3 (Nat.lt_of_lt_of_le g2.lt hb2.size)
  have c1' : w3.cell? ⟨R1, 0, none⟩ = some (.slice none 0 0) := q1.cell 0
  have f1' := q1.frozen 0
  have c2' : w3.cell? ⟨R2, 0, none⟩ = some (.int .i64 0) := q2.cell 0
  have c3'' : w3.cell? ⟨R2, 1, none⟩ = some (.int .i64 0) := q2.cell 1
  have f2' := q2.frozen 0
  have f3' := q2.frozen 1
  have hfin := prog_end (w := w) (R1 := R1) (R2 := R2) (T' := afterT s T) (hbC.trans ((hb2.mono hbC.size).trans (hb3.mono (Nat.le_trans hbC.size hb2.size)))) (by rw [htr] at hd; exact hd) q1 q2 (by rw [← HR.out]; omega) (by rw [← HRR.out, ← HR.out]; omega) (Nat.lt_of_lt_of_le g1.lt hb2.size) (Nat.lt_of_lt_of_le g2.lt hb2.size)
  have HF := Lib.hid hfin
  have r1l := q1.lt
  have r2l := q2.lt
  have hne : R1 ≠ R2 := by rw [← HRR.out]; omega
  clear hd hfin q1 q2 g1 g2 hb2 hb3 hbC bp hsC
  go_wp2_with fail
  obtain ⟨z1, z2, z3, z4⟩ := HF.out
  rw [List.nil_append] at z1 z2 z3 z4
  have d1 := z3.cell 0
  have d2 := z4.cell 0
  have d3 := z4.cell 1
  have Z1 := Lib.hid z1
  have Z2 := Lib.hid z2
  clear z1 z2 z3 z4
  generalize ((w3.setCell ⟨R1, 0, none⟩ (.slice A3 news.length c3')).setCell ⟨R2, 0, none⟩ (.int .i64 0)).setCell ⟨R2, 1, none⟩ (.int .i64 0) = Z at Z1 Z2 d1 d2 d3 ⊢
  have d1' : Z.cell? ⟨R1, 0, none⟩ = some (.slice A3 news.length c3') := d1
  have d2' : Z.cell? ⟨R2, 0, none⟩ = some (.int .i64 0) := d2
  have d3' : Z.cell? ⟨R2, 1, none⟩ = some (.int .i64 0) := d3
  exact bodyPost_ret (v := .tuple #[.agg #[.slice A3 news.length c3'], .agg #[.int .i64 0, .int .i64 0]]) (by simp [results, Try.results43, go_sem, d1', d2', d3']) rfl ⟨_, rfl, Z1.out, Z2.out⟩
end Go.Proofs.Ytdfbclkafocnpaa
