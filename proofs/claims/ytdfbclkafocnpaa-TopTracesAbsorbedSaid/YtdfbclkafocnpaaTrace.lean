/- wTrace: a formula that is changed so that it says the same is true for the same lists of states, also state by state: for every list of nodes and of states, and every change with a contract. -/
import Derived.Test.YtdfbclkafocnpaaEval
import Derived.Test.YtdfbclkafocnpaaPgr
import Derived.Test.YtdfbclkafocnpaaPut
namespace Go.Proofs.Ytdfbclkafocnpaa
open Go.RowKit

/-- A change with what it captured. -/
structure ChangeOk (facts : Int) (kc : Nat) (caps : Array Value) (w0 : World) : Prop where
  ent : Enters Try.prog kc
  run : ∀ (L : LT) (w : World) (lo : Nat), Below w0.heap.size w0 w → w0.heap.size ≤ lo → L.In w 38 29 lo w.heap.size → L.tr.ok facts → L.tr.size ≤ 60 →
    Calls Try.prog kc (#[.pointer (some ⟨L.blk, 0, none⟩)] ++ caps) w (ChangePost facts L lo w)

/-- The formula that is always true, over the one state without facts. -/
theorem true_eval (w : World) : Calls Try.prog 39 #[.agg #[.slice (some ⟨w.heap.size, 0, none⟩) 1 1], .int .i64 0, .slice (some ⟨w.heap.size + 1, 0, none⟩) 1 1] ((w.alloc (.cells #[.int .i64 1, .slice none 0 0, .int .i64 0] 50)).alloc (.cells #[.slice none 0 0] 48))
    fun e w' => ∃ ix : Int, e = .returned (.tuple #[.bool true, .agg #[.int .i64 0, .int .i64 ix]]) ∧ Below w.heap.size w w' := by
  have b1 : Blk ((w.alloc (.cells #[.int .i64 1, .slice none 0 0, .int .i64 0] 50)).alloc (.cells #[.slice none 0 0] 48)) w.heap.size 50 #[.int .i64 1, .slice none 0 0, .int .i64 0] := (Blk.new w 50 _).alloc _
  have b2 : Blk ((w.alloc (.cells #[.int .i64 1, .slice none 0 0, .int .i64 0] 50)).alloc (.cells #[.slice none 0 0] 48)) (w.heap.size + 1) 48 #[.slice none 0 0] := by
    have := Blk.new (w.alloc (.cells #[.int .i64 1, .slice none 0 0, .int .i64 0] 50)) 48 #[.slice none 0 0]
    rw [World.size_alloc] at this
    exact this
  have hsz : ((w.alloc (.cells #[.int .i64 1, .slice none 0 0, .int .i64 0] 50)).alloc (.cells #[.slice none 0 0] 48)).heap.size = w.heap.size + 2 := by simp
  have hbw : Below w.heap.size w ((w.alloc (.cells #[.int .i64 1, .slice none 0 0, .int .i64 0] 50)).alloc (.cells #[.slice none 0 0] 48)) := ((Below.refl _ w).alloc (Nat.le_refl _) _).alloc (by simp) _
  generalize ((w.alloc (.cells #[.int .i64 1, .slice none 0 0, .int .i64 0] 50)).alloc (.cells #[.slice none 0 0] 48)) = W at *
  have hi : IntsAt W (w.heap.size + 2) (.slice none 0 0) [] := ⟨none, 0, rfl, Nat.le_refl _, Nat.zero_le _, fun j u h => by simp at h⟩
  have hN : NodesAt W (w.heap.size + 2) (.slice (some ⟨w.heap.size, 0, none⟩) ([⟨1, [], 0⟩] : List Nd).length 1) [⟨1, [], 0⟩] := by
    refine ⟨_, 1, [.slice none 0 0], rfl, by simp, by decide, rfl, fun j u h => ⟨w.heap.size, 0, rfl, by omega, ?_⟩, fun i n u h1 h2 => ?_⟩
    · rw [Nat.zero_add, b1.cell j]
      match j, h with
      | 0, h => exact h
      | 1, h => exact h
      | 2, h => exact h
      | j + 3, h => simp [flatN] at h
    · match i, h1, h2 with
      | 0, h1, h2 => simp at h1 h2; subst h1; subst h2; exact hi
      | i + 1, h1, _ => simp at h1
  have hS : StatesAt W (w.heap.size + 2) (.slice (some ⟨w.heap.size + 1, 0, none⟩) ([[]] : States).length 1) [[]] := by
    refine ⟨_, 1, [.slice none 0 0], rfl, by simp, by decide, rfl, fun j u h => ⟨w.heap.size + 1, 0, rfl, by omega, ?_⟩, fun i n u h1 h2 => ?_⟩
    · rw [Nat.zero_add, b2.cell j]
      match j, h with
      | 0, h => exact h
      | j + 1, h => simp at h
    · match i, h1, h2 with
      | 0, h1, h2 => simp at h1 h2; subst h1; subst h2; exact hi
      | i + 1, h1, _ => simp at h1
  refine (eval_any 0 _ _ _ _ W _ hN hS (by omega)).mono ?_
  rintro e w' ⟨b, c, ix, rfl, hres, hb⟩
  have hv : Valid 0 [⟨1, [], 0⟩] := valid_enc (T := .n0 1 0) (by decide) (by decide) (.inl rfl) (by decide)
  have hg : GoodStates 0 [[]] := ⟨by decide, by decide, fun s hs => by simp at hs; subst hs; rfl⟩
  rcases hres with ⟨rfl, _, _, hT⟩ | ⟨_, _, hn, _⟩
  · refine ⟨ix, ?_, hbw.trans (hb.mono (by omega))⟩
    rw [hT (.n0 1 0) rfl]
    rfl
  · exact absurd ⟨hv, hg⟩ hn

def lenOf : Value → Nat
  | .slice _ n _ => n
  | _ => 0

/-- The loop over the states. -/
def TrRel (facts : Int) (want : Bool) (w : World) (B R F : Nat) (v : Value) (wr : World) : Prop :=
  ∃ (sj : States) (T : Tr) (gv : Value) (e0 e1 : Int), 0 < sj.length ∧ sj.length ≤ 20 ∧ (∀ s ∈ sj, isSetB s facts = true) ∧ StatesAt wr B v sj ∧ Blk wr F 24 #[gv] ∧ OwnN wr gv (enc 0 T) ∧ T.ok facts ∧ T.size ≤ 60 ∧ want = sem T sj ∧
    Blk wr R 45 #[.int .i64 e0, .int .i64 e1] ∧ Below w.heap.size w wr

/-- What lies in memory behind the two stores of one round. -/
theorem trace_step {w wr w8 : World} {F R : Nat} {v nv : Value} {e0 e1 : Int} {ns' : List Nd} (hbw : Below w.heap.size w wr) (hwF : w.heap.size ≤ F) (hwR : w.heap.size ≤ R) (hFB : Blk wr F 24 #[v]) (hRB : Blk wr R 45 #[.int .i64 e0, .int .i64 e1])
    (hb8 : Below wr.drew.heap.size wr.drew w8) (hO : OwnN w8 nv ns') :
    Blk (((w8.setCell ⟨F, 0, none⟩ nv).setCell ⟨R, 0, none⟩ (.int .i64 0)).setCell ⟨R, 1, none⟩ (.int .i64 0)) F 24 #[nv] ∧
    Blk (((w8.setCell ⟨F, 0, none⟩ nv).setCell ⟨R, 0, none⟩ (.int .i64 0)).setCell ⟨R, 1, none⟩ (.int .i64 0)) R 45 #[.int .i64 0, .int .i64 0] ∧
    OwnN (((w8.setCell ⟨F, 0, none⟩ nv).setCell ⟨R, 0, none⟩ (.int .i64 0)).setCell ⟨R, 1, none⟩ (.int .i64 0)) nv ns' ∧
    Below w.heap.size w (((w8.setCell ⟨F, 0, none⟩ nv).setCell ⟨R, 0, none⟩ (.int .i64 0)).setCell ⟨R, 1, none⟩ (.int .i64 0)) ∧
    Below w.heap.size wr (((w8.setCell ⟨F, 0, none⟩ nv).setCell ⟨R, 0, none⟩ (.int .i64 0)).setCell ⟨R, 1, none⟩ (.int .i64 0)) := by
  have hb' : Below w.heap.size wr w8 := (Below.refl _ wr).drew.trans (hb8.mono hbw.size)
  have z1 : Blk w8 F 24 #[v] := hFB.drew.below hb8 hFB.drew.lt
  have z2 : Blk w8 R 45 #[.int .i64 e0, .int .i64 e1] := hRB.drew.below hb8 hRB.drew.lt
  have hne := z1.ne_ z2 (by decide)
  have hb : Below w.heap.size w w8 := hbw.drew.trans (hb8.mono hbw.size)
  have y1 : Blk (w8.setCell ⟨F, 0, none⟩ nv) F 24 #[nv] := z1.set_ 0 nv
  have y2 : Blk (w8.setCell ⟨F, 0, none⟩ nv) R 45 #[.int .i64 e0, .int .i64 e1] := z2.far (p := ⟨F, 0, none⟩) (Ne.symm hne) _
  have o1 : OwnN (w8.setCell ⟨F, 0, none⟩ nv) nv ns' := hO.set z1 (by decide) (by decide) fun g hg => Below.heap_setCell _ ⟨F, 0, none⟩ _ g hg
  refine ⟨(y1.far (p := ⟨R, 0, none⟩) hne _).far (p := ⟨R, 1, none⟩) hne _, (y2.set_ 0 _).set_ 1 _, ?_, ((hb.setCell (p := ⟨F, 0, none⟩) hwF _).setCell (p := ⟨R, 0, none⟩) hwR _).setCell (p := ⟨R, 1, none⟩) hwR _, ((hb'.setCell (p := ⟨F, 0, none⟩) hwF _).setCell (p := ⟨R, 0, none⟩) hwR _).setCell (p := ⟨R, 1, none⟩) hwR _⟩
  exact o1.set y2 (by decide) (by decide) fun g hg => (Below.heap_setCell _ ⟨R, 1, none⟩ _ g hg).trans (Below.heap_setCell _ ⟨R, 0, none⟩ _ g hg)

theorem StatesAt.tail {w : World} {B b off n c : Nat} {s : List Int} {rr : States} (h : StatesAt w B (.slice (some ⟨b, off, none⟩) n c) (s :: rr)) : StatesAt w B (.slice (some ⟨b, off + 1, none⟩) rr.length (c - 1)) rr := by
  obtain ⟨A, c', vs, h1, h2, h3, h4, h5, h6⟩ := h
  injection h1 with hA hn hc
  subst hA; subst hc
  match vs, h4 with
  | u :: us, h4 =>
    simp only [List.length_cons] at h2 h4
    refine ⟨_, _, us, rfl, by omega, by omega, by omega, fun j x hx => ?_, fun i t x ht hx => h6 (i + 1) t x (by simpa using ht) (by simpa using hx)⟩
    obtain ⟨b', off', e, hb, hc⟩ := h5 (j + 1) x (by simpa using hx)
    injection e with e
    injection e with e1 e2
    subst e1; subst e2
    exact ⟨b, off + 1, rfl, hb, by rw [Nat.add_assoc, Nat.add_comm 1 j]; exact hc⟩

set_option maxHeartbeats 8000000 in
theorem trace_any (facts : Int) (ns : List Nd) (ss : States) (v vs : Value) (kc : Nat) (caps : Array Value) (w : World) (B : Nat) (hN : NodesAt w B v ns) (hS : StatesAt w B vs ss) (hB : B ≤ w.heap.size) (hch : ChangeOk facts kc caps w) :
    Calls Try.prog 15 #[.agg #[v], .int .i64 facts, vs, .func (.func kc) #[] caps] w (fun e w' => e = .returned (.bool true) ∧ Below w.heap.size w w') := by
  obtain ⟨A, c, rfl, hc1, hc2, _⟩ := hN.form
  obtain ⟨As, cs, rfl, hs1, hs2, _⟩ := hS.form
  obtain ⟨m, hm⟩ : ∃ m, ns.length = m := ⟨_, rfl⟩
  have heval := fun W (hb : Below w.heap.size w W) => eval_any facts ns ss _ _ W B (hN.below hb hB) (hS.below hb hB) (Nat.le_trans hB hb.size)
  rw [hm] at heval hN hc1 ⊢
  have HE := Lib.hid heval
  have HN := Lib.hid hN
  have HS := Lib.hid hS
  have HM := Lib.hid hm
  have HC := Lib.hid hch
  have hent : ∀ (args : Array Value) (w : World), (callFunc kc args).run Try.prog w = .ok (.enter kc args) w := hch.ent
  clear heval hN hS hm hch
  unfold maxLen at hc2 hs2
  go_enter Try.func15, Try.ntmps15
  go_wp2_with fail
  refine (by have := true_eval (w.alloc (.cells #[.slice A m c] 24)); rw [World.size_alloc] at this; exact this : Calls _ _ _ _ _).mono ?_
  rintro e w1 ⟨ix, rfl, hb⟩
  have b4 : Blk w1 w.heap.size 24 #[.slice A m c] := (Blk.new w 24 _).below hb (by omega)
  have hb1 : Below w.heap.size w w1 := ((Below.refl _ w).alloc (Nat.le_refl _) _).trans (hb.mono (by omega))
  have hw1 := b4.lt
  have c4 : w1.cell? ⟨w.heap.size, 0, none⟩ = some (.slice A m c) := b4.cell 0
  clear hb
  have HB4 := Lib.hid b4
  clear b4
  go_wp2_with fail
  have hb2 : Below w.heap.size w (w1.alloc (.cells #[.int .i64 0, .int .i64 ix] 45)) := hb1.alloc hb1.size _
  refine (HE.out _ hb2).mono ?_
  rintro e w2 ⟨want, cc, ix2, rfl, hres, hb3⟩
  have hb4 : Below w.heap.size w w2 := hb2.trans (hb3.mono hb2.size)
  have b4 : Blk w2 w.heap.size 24 #[.slice A m c] := (HB4.out.alloc _).below hb3 (by rw [World.size_alloc]; omega)
  have c4 : w2.cell? ⟨w.heap.size, 0, none⟩ = some (.slice A m c) := b4.cell 0
  have hw2 := b4.lt
  clear hb1 hb2 hb3 hw1
  have HB := Lib.hid hb4
  have HB4 := Lib.hid b4
  clear hb4 b4
  rcases hres with ⟨rfl, hg, hv, hT⟩ | ⟨hcc, rfl, -⟩
  rotate_left
  · go_wp2_with fail
    go_ret
    exact ⟨rfl, (HB.out.alloc HB.out.size _)⟩
  obtain ⟨T, hnT, hok, h60⟩ := enc_of_valid hv
  have hwant := hT T hnT
  have hmT : m = T.size := by rw [← HM.out, hnT, enc_length]
  have hpos := T.size_pos
  have hm1 : (m : Int) - 1 = ((m - 1 : Nat) : Int) := by omega
  have hsub : SubAt ns (m - 1) T := by rw [hmT, hnT]; exact subAt_root T
  have HSUB := Lib.hid hsub
  have HT := Lib.hid hnT
  have HOK := Lib.hid hok
  have HG := Lib.hid hg
  have HW := Lib.hid hwant
  have HV := Lib.hid hv
  clear hnT hok hg hwant hT hv hmT hsub
  go_wp2_with fail
  obtain ⟨R, hR⟩ : ∃ R, w2.heap.size = R := ⟨_, rfl⟩
  have hbR : Below w.heap.size w (w2.alloc (.cells #[.int .i64 0, .int .i64 ix2] 45)) := HB.out.alloc HB.out.size _
  refine (tree_any T.size ns T (m - 1) A m c _ B (Nat.le_refl _) (HN.out.below hbR hB) HSUB.out (Nat.le_trans hB hbR.size)).mono ?_
  rintro e w3 ⟨L, rfl, hLT, hL, hb5⟩
  have bR : Blk w3 R 45 #[.int .i64 0, .int .i64 ix2] := by
    have := (Blk.new w2 45 #[.int .i64 0, .int .i64 ix2]).below hb5 (by rw [World.size_alloc]; omega)
    rw [hR] at this
    exact this
  rw [World.size_alloc, hR] at hL
  have hb6 : Below w.heap.size w w3 := hbR.trans (hb5.mono hbR.size)
  have hwR : w.heap.size ≤ R := by rw [← hR]; exact HB.out.size
  have hR1 := bR.lt
  have HOKL := Lib.hid (by rw [hLT]; exact HOK.out : L.tr.ok facts)
  have HB := Lib.hid hb6
  have HBR := Lib.hid bR
  have HL := Lib.hid hL
  have HLT := Lib.hid hLT
  simp only [hR]
  clear hbR hb5 bR hL hb6 hR hLT HB4 hw2 c4
  go_wp2_with fail
  have h60L : L.tr.size ≤ 60 := by rw [HLT.out]; exact h60
  refine (HC.out.run L w3 (R + 1) HB.out (by omega) HL.out HOKL.out h60L).mono ?_
  rintro e w4 ⟨hb6, rfl | ⟨rfl, X, hXb, hXs, hXok, hXsz, hX⟩⟩
  · go_wp2_with fail
    go_ret
    exact ⟨rfl, HB.out.trans (hb6.mono (by omega))⟩
  have HB := Lib.hid (HB.out.trans (hb6.mono (by omega)) : Below w.heap.size w w4)
  have HBR := Lib.hid (HBR.out.below hb6 (Nat.lt_succ_self R))
  have HX := Lib.hid hX
  have HXok := Lib.hid hXok
  have HXs := Lib.hid (by rw [HLT.out] at hXs; exact hXs : Same X.tr T)
  simp only [← hXb]
  have hR4 := HBR.out.lt
  clear hb6 hX hXok hXs hXb HL HOKL hR1 h60L HLT
  obtain ⟨F, hF⟩ : ∃ F, w4.heap.size = F := ⟨_, rfl⟩
  go_wp2_with fail
  have hXF : X.In (w4.alloc (.cells #[.slice none 0 0] 24)) 38 29 (R + 1) F := by
    rw [← hF]; exact HX.out.below ((Below.refl _ _).alloc (Nat.le_refl _) _) (Nat.le_refl _)
  have hFb : Blk (w4.alloc (.cells #[.slice none 0 0] 24)) F 24 #[.slice none 0 0] := by rw [← hF]; exact Blk.new _ _ _
  have hszn : ([] : List (Nd × Value)).length + X.tr.size ≤ 1000000 := by simp; omega
  refine (nodes_any X.tr.size X _ (R + 1) F (.slice none 0 0) [] (Nat.le_refl _) hXF ⟨World.ownsRow_nil _ _ _ _, by simp⟩ hFb hszn).mono ?_
  rintro e w5 ⟨gv, news, r, rfl, -, hd⟩
  have hb7 : Below F (w4.alloc (.cells #[.slice none 0 0] 24)) w5 := hd.kept.below (fun f e => by injection e with e; omega) (fun g e => by simp [Value.ownBlock] at e) (by rw [World.size_alloc]; omega)
  have hgF : Blk w5 F 24 #[gv] := hd.hF F rfl
  have hgO : OwnN w5 gv (enc 0 X.tr) := by
    have := hd.row.ownN
    rw [List.nil_append, hd.nds] at this
    exact this
  have hgN := hgO.nodesAt
  have hb8 : Below F w4 w5 := by
    refine Below.trans ?_ hb7
    rw [← hF]; exact (Below.refl _ _).alloc (Nat.le_refl _) _
  have hwF : w.heap.size ≤ F := by rw [← hF]; exact HB.out.size
  have hRF : R < F := by rw [← hF]; exact hR4
  have HB := Lib.hid (HB.out.trans (hb8.mono hwF))
  have HBR := Lib.hid (HBR.out.below hb8 hRF)
  obtain ⟨gA, gc, hgv, hgc1, hgc2, -⟩ := hgN.form
  obtain ⟨gm, hgm⟩ : ∃ gm, (enc 0 X.tr).length = gm := ⟨_, rfl⟩
  rw [hgm] at hgv
  subst hgv
  have cF : w5.cell? ⟨F, 0, none⟩ = some (.slice gA gm gc) := hgF.cell 0
  have hF5 := hgF.lt
  have HGF := Lib.hid hgF
  have HGN := Lib.hid hgN
  have HGO := Lib.hid hgO
  have HGM := Lib.hid hgm
  clear hd hb7 hb8 hgF hgN hgO hgm hXF hFb hszn HX hF hR4
  go_wp2_with fail
  refine (validate_any facts (enc 0 X.tr) _ w5 w5.heap.size HGN.out (Nat.le_refl _)).mono ?_
  rintro e w6 ⟨vc, vix, rfl, hres, hb9⟩
  have HB := Lib.hid (HB.out.trans (hb9.mono HB.out.size))
  have HBR := Lib.hid (HBR.out.below hb9 (Nat.lt_trans hRF hF5))
  have HGF := Lib.hid (HGF.out.below hb9 hF5)
  have HGO := Lib.hid (HGO.out.below hb9)
  have HGN := Lib.hid (HGN.out.below hb9 (Nat.le_refl _))
  obtain ⟨B5, hB5⟩ : ∃ B5, w5.heap.size = B5 := ⟨_, rfl⟩
  rw [hB5] at HGN hb9 hF5
  have hB6 : B5 ≤ w6.heap.size := by rw [← hB5]; exact hb9.size
  have h0 : 0 ≤ facts := HV.out.1
  have h1 : facts ≤ 24 := HV.out.2.1
  clear hb9 hB5 cF
  rcases hres with ⟨hvX, rfl, rfl⟩ | ⟨hnv, hc0, hc22⟩
  rotate_left
  · have hbig : 60 < (enc 0 X.tr).length := by
      rw [enc_length]
      refine Nat.lt_of_not_le fun h => hnv (valid_enc h0 h1 HXok.out h)
    have hvc := hc22 h0 h1 hbig
    subst hvc
    clear hc22 hc0 hnv
    go_wp2_with fail
    go_ret
    exact ⟨rfl, HB.out.alloc HB.out.size _⟩
  have h60X : X.tr.size ≤ 60 := by
    have := hvX.2.2.2.1
    rw [enc_length] at this
    exact this
  have cF : w6.cell? ⟨F, 0, none⟩ = some (.slice gA gm gc) := HGF.out.cell 0
  have hF6 := HGF.out.lt
  have HVX := Lib.hid hvX
  clear hvX
  go_wp2_with fail
  have hbV : Below w.heap.size w (w6.alloc (.cells #[.int .i64 0, .int .i64 0] 45)) := HB.out.alloc HB.out.size _
  have hbV2 : Below B5 w6 (w6.alloc (.cells #[.int .i64 0, .int .i64 0] 45)) := (Below.refl _ _).alloc hB6 _
  refine (eval_any facts (enc 0 X.tr) ss _ _ _ w6.heap.size ((HGN.out.below hbV2 (Nat.le_refl _)).mono hB6) ((HS.out.below hbV hB).mono (Nat.le_trans hB HB.out.size)) (by rw [World.size_alloc]; omega)).mono ?_
  rintro e w7 ⟨got, gcode, gix, rfl, hres, hb10⟩
  have hb7 : Below w6.heap.size w6 w7 := ((Below.refl _ _).alloc (Nat.le_refl _) _).trans (hb10.mono (by rw [World.size_alloc]; omega))
  have HB := Lib.hid (HB.out.trans (hb7.mono HB.out.size))
  have HBR := Lib.hid (HBR.out.below hb7 HBR.out.lt)
  have HGF := Lib.hid (HGF.out.below hb7 hF6)
  have HGO := Lib.hid (HGO.out.below hb7)
  have HGN := Lib.hid (HGN.out.below hb7 hB6)
  have hB7 : B5 ≤ w7.heap.size := Nat.le_trans hB6 hb7.size
  rcases hres with ⟨rfl, -, -, hT'⟩ | ⟨hc', -, hnn, -⟩
  rotate_left
  · exact absurd ⟨HVX.out, HG.out⟩ hnn
  have hgot : got = want := by
    rw [hT' X.tr rfl, HW.out]
    have := HG.out.1
    match ss, this with
    | s :: r, _ => exact HXs.out s r
  subst hgot
  have cR0 : w7.cell? ⟨R, 0, none⟩ = some (.int .i64 0) := HBR.out.cell 0
  have cR1 : w7.cell? ⟨R, 1, none⟩ = some (.int .i64 ix2) := HBR.out.cell 1
  have fR0 := HBR.out.frozen 0
  have fR1 := HBR.out.frozen 1
  have HSEM := Lib.hid (hT' X.tr rfl)
  have hlen1 := HG.out.1
  clear hb7 hb10 hbV hbV2 cF hT' hF6 hB6
  go_wp2_with fail
  go_loopw [2] (TrRel facts got w B R F) (fun v _ => lenOf v)
  case atStart =>
    have hbs : Below w.heap.size w ((w7.setCell ⟨R, 0, none⟩ (.int .i64 0)).setCell ⟨R, 1, none⟩ (.int .i64 gix)) :=
      Below.setCell (p := ⟨R, 1, none⟩) (Below.setCell (p := ⟨R, 0, none⟩) HB.out hwR _) hwR _
    refine ⟨ss, X.tr, _, 0, gix, HG.out.1, HG.out.2.1, HG.out.2.2, HS.out.below hbs hB, (HGF.out.far (p := ⟨R, 0, none⟩) (by show F ≠ R; omega) _).far (p := ⟨R, 1, none⟩) (by show F ≠ R; omega) _, ?_, HXok.out, h60X, HSEM.out, ?_, hbs⟩
    · exact HGO.out.set HBR.out (by decide) (by decide) fun g hg => (Below.heap_setCell _ ⟨R, 1, none⟩ _ g hg).trans (Below.heap_setCell _ ⟨R, 0, none⟩ _ g hg)
    · exact (HBR.out.set_ 0 (.int .i64 0)).set_ 1 (.int .i64 gix)
  case round =>
    obtain ⟨sj, T', gv', e0, e1, hl0, hl1, hset, hSj, hFb, hNg, hok', h60', hsem, hRb, hbw⟩ := hrel
    clear HBR HGF HGO HGN HB cR0 cR1 fR0 fR1 hlen1
    obtain ⟨jA, jc, rfl, hj1, hj2, hjat⟩ := hSj.form
    obtain ⟨qA, qc, rfl, hq1, hq2, -⟩ := hNg.nodesAt.form
    have hqpos : 0 < (enc 0 T').length := by rw [enc_length]; exact T'.size_pos
    obtain ⟨qm, hqm⟩ : ∃ qm, (enc 0 T').length = qm := ⟨_, rfl⟩
    rw [hqm] at hNg hFb hq1
    unfold maxLen at hj2
    have hBr : B ≤ wr.heap.size := Nat.le_trans hB hbw.size
    by_cases hlt : 1 < sj.length
    · have hltI : (1 : Int) < (sj.length : Int) := by omega
      obtain ⟨s, rr, rfl⟩ : ∃ s rr, sj = s :: rr := by
        match sj, hl0 with
        | s :: rr, _ => exact ⟨s, rr, rfl⟩
      obtain ⟨jb, joff, sv, rfl, hjb, hcs, hsv⟩ := hjat 0 s rfl
      obtain ⟨sA, sc, rfl, hsv1, hsv2, -⟩ := hsv.form
      have hcs' : wr.cell? ⟨jb, joff, none⟩ = some (.slice sA s.length sc) := hcs
      have cF : wr.drew.cell? ⟨F, 0, none⟩ = some (.slice qA qm qc) := hFb.cell 0
      have hcsd : wr.drew.cell? ⟨jb, joff, none⟩ = some (.slice sA s.length sc) := hcs'
      have hFl : F < wr.drew.heap.size := hFb.lt
      have hRl : R < wr.drew.heap.size := hRb.lt
      have cR0 : wr.drew.cell? ⟨R, 0, none⟩ = some (.int .i64 e0) := hRb.cell 0
      have cR1 : wr.drew.cell? ⟨R, 1, none⟩ = some (.int .i64 e1) := hRb.cell 1
      have fR0 : wr.drew.frozen? ⟨R, 0, none⟩ = false := hRb.frozen 0
      have fR1 : wr.drew.frozen? ⟨R, 1, none⟩ = false := hRb.frozen 1
      have fF0 : wr.drew.frozen? ⟨F, 0, none⟩ = false := hFb.frozen 0
      unfold maxLen at hsv2
      have hcs0 : s.length < 9223372036854775808 := by omega
      obtain ⟨slen, hslen⟩ : ∃ l, (s :: rr).length = l := ⟨_, rfl⟩
      have hsl0 : (0 : Int) < (slen : Int) := by rw [← hslen]; omega
      have hsl2 : 0 < slen := by omega
      have hsl1 : (1 : Int) < (slen : Int) := by rw [← hslen]; omega
      have hprog := progress_any facts T' s _ _ wr.drew wr.drew.heap.size h0 h1 hok' h60' (hset s (by simp)) (by have := hNg.nodesAt; exact this.below ((Below.refl _ _).drew) (Nat.le_refl _)) ((hsv.below ((Below.refl B wr).drew) (Nat.le_refl _)).mono hBr) (Nat.le_refl _)
      have HPR := Lib.hid hprog
      have HSJ := Lib.hid hSj
      have HFB := Lib.hid hFb
      have HRB := Lib.hid hRb
      have HNG := Lib.hid hNg
      have HSET := Lib.hid hset
      have HSEMJ := Lib.hid hsem
      have HBW := Lib.hid hbw
      have HSV := Lib.hid hsv
      clear hprog hSj hFb hRb hNg hset hsem hbw hsv hjat hcs
      go_wp2_with fail
      go_region_law (first
         | (go_simp; go_at_call 43; refine HPR.out.mono ?_; rintro e w8 ⟨nv, rfl, hO, hb8⟩; obtain ⟨nA, nc, rfl, hn1, hn2, -⟩ := hO.nodesAt.form; have cF8 := cell_later hb8 cF; have fF8 := frozen_later hb8 hFl fF0; have cR8 := cell_later hb8 cR0; have cR9 := cell_later hb8 cR1; have fR8 := frozen_later hb8 hRl fR0; have fR9 := frozen_later hb8 hRl fR1; have hFl8 := lt_later hb8 hFl; have hRl8 := lt_later hb8 hRl))
      all_goals
        obtain ⟨t1, t2, t3, t4, t5⟩ := trace_step HBW.out hwF hwR HFB.out HRB.out hb8 hO
        generalize (((w8.setCell ⟨F, 0, none⟩ (.slice nA (enc 0 (afterT s T')).length nc)).setCell ⟨R, 0, none⟩ (.int .i64 0)).setCell ⟨R, 1, none⟩ (.int .i64 0)) = W9 at *
        have d1 : W9.cell? ⟨F, 0, none⟩ = some (.slice nA (enc 0 (afterT s T')).length nc) := t1.cell 0
        have d2 : W9.cell? ⟨R, 0, none⟩ = some (.int .i64 0) := t2.cell 0
        have d3 : W9.cell? ⟨R, 1, none⟩ = some (.int .i64 0) := t2.cell 1
        have T1 := Lib.hid t1
        have T2 := Lib.hid t2
        have T3 := Lib.hid t3
        have T4 := Lib.hid t4
        have hst := ((HSJ.out.tail).below t5 hB).mono (Nat.le_trans hB t4.size)
        have HST0 := Lib.hid ((HSJ.out.tail).below t5 hB)
        have HST := Lib.hid hst
        clear t1 t2 t3 t4 t5 hst hO hb8 cF8 fF8 cR8 cR9 fR8 fR9 hFl8 hRl8
        go_wp2_with fail
        have hrl : slen - 1 = rr.length := by rw [← hslen]; simp
        have hgr : GoodStates facts rr := ⟨by omega, by omega, fun x hx => HSET.out x (List.mem_cons_of_mem _ hx)⟩
        have HGR := Lib.hid hgr
        rw [hrl]
        clear hgr
        refine (eval_any facts (enc 0 (afterT s T')) rr _ _ W9 W9.heap.size T3.out.nodesAt HST.out (Nat.le_refl _)).mono ?_
        rintro e w10 ⟨got2, cc2, ix3, rfl, hres2, hb11⟩
        have HST0 := Lib.hid (HST0.out.below (hb11.mono T4.out.size) hB)
        have T4 := Lib.hid (T4.out.trans (hb11.mono T4.out.size))
        have T1 := Lib.hid (T1.out.below hb11 T1.out.lt)
        have T2 := Lib.hid (T2.out.below hb11 T2.out.lt)
        have T3 := Lib.hid (T3.out.below hb11)
        clear hb11 HST d1 d2 d3
        rcases hres2 with ⟨rfl, -, hvx2, hT2⟩ | ⟨hcc, rfl, hnn2, hbig2⟩
        rotate_left
        · have hbig : 60 < (enc 0 (afterT s T')).length := by
            rw [enc_length]
            exact Nat.lt_of_not_le fun h => hnn2 ⟨valid_enc h0 h1 (afterT_ok hok') h, HGR.out⟩
          have hc2 := hbig2 h0 h1 hbig
          subst hc2
          clear hbig2 hcc hnn2 hbig
          go_wp2_with fail
          go_ret
          exact ⟨rfl, T4.out.alloc T4.out.size _⟩
        have hg2 : got2 = got := by
          rw [hT2 _ rfl, HSEMJ.out]
          match rr, HGR.out.1 with
          | t :: r', _ => exact sem_afterT hok' t r'
        subst hg2
        have h60n : (afterT s T').size ≤ 60 := by
          have := hvx2.2.2.2.1
          rw [enc_length] at this
          exact this
        have HS2 := Lib.hid (hT2 _ rfl)
        clear hvx2 hT2
        go_wp2_with fail
        go_roundw
        case rel =>
          have hbA : Below w10.heap.size w10 (w10.alloc (.cells #[.int .i64 0, .int .i64 ix3] 45)) := (Below.refl _ _).alloc (Nat.le_refl _) _
          exact ⟨rr, afterT s T', _, 0, 0, HGR.out.1, HGR.out.2.1, HGR.out.2.2, HST0.out.below (hbA.mono T4.out.size) hB, T1.out.alloc _, T3.out.below hbA, afterT_ok hok', h60n, HS2.out, T2.out.alloc _, T4.out.trans (hbA.mono T4.out.size)⟩
        case measure => simp [lenOf]
    · have hltI : ¬ (1 : Int) < (sj.length : Int) := by omega
      have HBW := Lib.hid hbw
      clear hSj hFb hNg hsem hRb hjat hqm hset
      go_wp2_with fail
      go_ret
      exact ⟨rfl, HBW.out⟩
end Go.Proofs.Ytdfbclkafocnpaa
