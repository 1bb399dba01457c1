/- Validate tells the right formulas from the others: for every formula that lies in memory. -/
import Derived.Test.YtdfbclkafocnpaaValp
import Derived.Laws.EntriesVeiled
import Derived.Deep.CutBlock
namespace Go.Proofs.Ytdfbclkafocnpaa
open Go.RowKit Go.Shelf
attribute [local go_sem] Oper.semAt_some

def ValPost (facts : Int) (ns : List Nd) (w : World) (e : Ending) (w' : World) : Prop :=
  ∃ c ix : Int, e = .returned (.agg #[.int .i64 c, .int .i64 ix]) ∧ ValRes facts ns c ix ∧ Below w.heap.size w w'

theorem val_range (facts : Int) (ns : List Nd) (A : Option Addr) (c : Nat) (w : World) (hf : facts < 0 ∨ 24 < facts) : Calls Try.prog 42 #[.agg #[.slice A ns.length c], .int .i64 facts] w (ValPost facts ns w) := by
  have hr : ValRes facts ns 3 (-1) := .inr ⟨fun h => by unfold Valid at h; omega, by decide, fun h1 h2 => by omega⟩
  have HR := Lib.hid hr
  clear hr
  obtain ⟨m, hm⟩ : ∃ m, ns.length = m := ⟨_, rfl⟩
  rw [hm]
  clear hm
  rcases hf with hf | hf
  · go_enter Try.func42, Try.ntmps42
    go_wp2_with fail
    exact bodyPost_ret (v := .agg #[.int .i64 3, .int .i64 (-1)]) (by simp [results, Try.results42, go_sem]) rfl ⟨_, _, rfl, HR.out, ((Below.refl _ _).alloc (Nat.le_refl _) _).alloc (by simp) _⟩
  · have hf' : ¬ facts < 0 := by omega
    go_enter Try.func42, Try.ntmps42
    go_wp2_with fail
    exact bodyPost_ret (v := .agg #[.int .i64 3, .int .i64 (-1)]) (by simp [results, Try.results42, go_sem]) rfl ⟨_, _, rfl, HR.out, ((Below.refl _ _).alloc (Nat.le_refl _) _).alloc (by simp) _⟩

theorem val_many (facts : Int) (ns : List Nd) (A : Option Addr) (c : Nat) (w : World) (h0 : 0 ≤ facts) (h1 : facts ≤ 24) (hl : ns.length = 0 ∨ 60 < ns.length) : Calls Try.prog 42 #[.agg #[.slice A ns.length c], .int .i64 facts] w (ValPost facts ns w) := by
  have hr : ValRes facts ns 2 (-2) := .inr ⟨fun h => by
    obtain ⟨_, _, h3, h4, _⟩ := h
    rcases hl with hl | hl
    · exact h3 (List.eq_nil_of_length_eq_zero hl)
    · omega, by decide, fun _ _ _ => rfl⟩
  have HR := Lib.hid hr
  clear hr
  obtain ⟨m, hm⟩ : ∃ m, ns.length = m := ⟨_, rfl⟩
  rw [hm] at hl ⊢
  clear hm
  have hf1 : ¬ facts < 0 := by omega
  have hf2 : ¬ 24 < facts := by omega
  rcases hl with rfl | hl
  · go_enter Try.func42, Try.ntmps42
    go_wp2_with fail
    exact bodyPost_ret (v := .agg #[.int .i64 2, .int .i64 (-2)]) (by simp [results, Try.results42, go_sem]) rfl ⟨_, _, rfl, HR.out, ((Below.refl _ _).alloc (Nat.le_refl _) _).alloc (by simp) _⟩
  · have hb : ((m : Int) == 0) = false := by rw [beq_eq_false_iff_ne]; omega
    have hl' : (60 : Int) < (m : Int) := by omega
    go_enter Try.func42, Try.ntmps42
    go_wp2_with fail
    exact bodyPost_ret (v := .agg #[.int .i64 2, .int .i64 (-2)]) (by simp [results, Try.results42, go_sem]) rfl ⟨_, _, rfl, HR.out, ((Below.refl _ _).alloc (Nat.le_refl _) _).alloc (by simp) _⟩


theorem fault_any (code i : Int) (b : Nat) (w : World) (hi : w.cell? ⟨b, 0, none⟩ = some (.int .i64 i)) : Calls Try.prog 47 #[.int .i64 code, .pointer (some ⟨b, 0, none⟩)] w fun e w' => e = .returned (.agg #[.int .i64 code, .int .i64 i]) ∧ w.alloc (.cells #[.int .i64 code, .int .i64 i] 45) = w' := by
  have hb := World.block_lt_of_cell? w _ hi
  go_enter Try.func47, Try.ntmps47
  go_wp2_with fail
  exact bodyPost_ret (v := .agg #[.int .i64 code, .int .i64 i]) (by simp [results, Try.results47, go_sem]) rfl ⟨rfl, rfl⟩

theorem blk_of_own_row {w : World} {base g n : Nat} {E : TypeId} {xs : List Value} (h : w.ownsRow base E 1 (.slice (some ⟨g, 0, none⟩) n n) n xs) : Blk w g E xs.toArray := by
  rcases h.2 with ⟨e, _⟩ | ⟨g', cap, cur, e, _, hg, _, _, hs, ht⟩
  · cases e
  · injection e with e1 e2 e3
    injection e1 with e1
    injection e1 with e1
    subst e1; subst e3
    have : xs.toArray = cur := by
      rw [← ht, List.take_of_length_le (by rw [Array.length_toList]; omega)]
    rw [this]
    exact hg

/-- The state of the loop over the nodes. -/
structure VSt (facts : Int) (ns : List Nd) (w : World) (b6 k : Nat) (st : List Nat) (arr : List Int) (Ds : List Nat) (wr : World) : Prop where
  chk : chkV facts 0 [] (ns.take k) = some st
  alen : arr.length = ns.length
  abd : ∀ (j : Nat) (x : Int), arr[j]? = some x → 0 ≤ x ∧ x ≤ j
  stk : StkF arr k st
  ablk : Blk wr (w.heap.size + 2) 3 (arr.map (Value.int .i64)).toArray
  res : Blk wr (w.heap.size + 1) 45 #[.int .i64 0, .int .i64 0]
  fst : Blk wr b6 48 #[.slice (some ⟨w.heap.size + 2, 0, none⟩) ns.length ns.length]
  below : Below w.heap.size w wr
  nod : Ds.Nodup
  mks : ∀ D ∈ Ds, w.heap.size ≤ D ∧ wr.heap[D]? = some (.deferred (some []))

def VRel (facts : Int) (ns : List Nd) (w : World) (b6 : Nat) (i : Value) (ds : List Deferred) (wr : World) : Prop :=
  ∃ (k : Nat) (st : List Nat) (arr : List Int) (Ds : List Nat), i = .int .i64 k ∧ k ≤ ns.length ∧ ds = Ds.map markOf ∧ VSt facts ns w b6 k st arr Ds wr

/-- The way out. -/
theorem val_exit {facts c ix : Int} {ns : List Nd} {w W : World} {tmps : Array Value} {Ds : List Nat} (hn : Ds.Nodup) (hm : ∀ D ∈ Ds, w.heap.size ≤ D ∧ W.heap[D]? = some (.deferred (some []))) (hr : Blk W (w.heap.size + 1) 45 #[.int .i64 c, .int .i64 ix])
    (h4 : tmps.getD 4 undef = .pointer (some ⟨w.heap.size + 1, 0, none⟩)) (hv : ValRes facts ns c ix) (hb : Below w.heap.size w W) :
    LeavesInM Fence.wide 5 Try.prog Try.f42 tmps (ValPost facts ns w) (Ds.map markOf) .returning W := by
  refine leaves_marks Ds W hn (fun D hD => (hm D hD).2) fun W' e1 e2 e3 e4 e5 => ?_
  have hr' : Blk W' (w.heap.size + 1) 45 #[.int .i64 c, .int .i64 ix] := by
    refine (e5 _ fun hD => ?_).trans hr
    have := (hm _ hD).2
    unfold Blk at hr
    rw [hr] at this
    cases this
  have c0 : W'.cell? ⟨w.heap.size + 1, 0, none⟩ = some (.int .i64 c) := hr'.cell 0
  have c1 : W'.cell? ⟨w.heap.size + 1, 1, none⟩ = some (.int .i64 ix) := hr'.cell 1
  have h4' : tmps[4]?.getD undef = .pointer (some ⟨w.heap.size + 1, 0, none⟩) := by simpa using h4
  refine ⟨.agg #[.int .i64 c, .int .i64 ix], ?_, c, ix, rfl, hv, e1.trans hb.os, e2.trans hb.tape, e3.trans hb.output, by rw [e4]; exact hb.size, fun b hl => ?_⟩
  · simp [results, Try.f42, go_sem, h4', c0, c1]
  · rw [e5 b (fun hD => by have := (hm b hD).1; omega)]
    exact hb.block b hl

theorem fault_ret (code i : Int) (b : Nat) (w : World) (hi : w.cell? ⟨b, 0, none⟩ = some (.int .i64 i)) : Calls Try.prog 47 #[.int .i64 code, .pointer (some ⟨b, 0, none⟩)] w fun e w' => e = .returned (.agg #[.int .i64 code, .int .i64 i]) ∧ Below w.heap.size w w' :=
  (fault_any code i b w hi).mono fun e w' ⟨h1, h2⟩ => ⟨h1, by subst h2; exact (Below.refl _ _).alloc (Nat.le_refl _) _⟩

/-- The way out by a fault of a node. -/
theorem fault_exit {facts c i : Int} {ns : List Nd} {w wr w' : World} {b6 k R : Nat} {st : List Nat} {arr : List Int} {tmps : Array Value} {Ds : List Nat} (hP : VSt facts ns w b6 k st arr Ds wr) (hR : w.heap.size + 1 = R) (hb : Below wr.heap.size wr w')
    (h4 : tmps.getD 4 undef = .pointer (some ⟨R, 0, none⟩)) (hv : ¬ Valid facts ns) (hc : c ≠ 0) (hl : ns.length ≤ 60) :
    LeavesInM Fence.wide 5 Try.prog Try.f42 tmps (ValPost facts ns w) (Ds.map markOf) .returning ((w'.setCell ⟨R, 0, none⟩ (.int .i64 c)).setCell ⟨R, 1, none⟩ (.int .i64 i)) := by
  subst hR
  have hr : Blk w' (w.heap.size + 1) 45 #[.int .i64 0, .int .i64 0] := hP.res.below hb hP.res.lt
  refine val_exit hP.nod (fun D hD => ⟨(hP.mks D hD).1, ?_⟩) ((hr.set_ 0 _).set_ 1 _) h4 (.inr ⟨hv, hc, fun _ _ h => by omega⟩) ?_
  · have hD' := (hP.mks D hD).2
    have hl := (Array.getElem?_eq_some_iff.1 hD').1
    have hne : D ≠ w.heap.size + 1 := by
      rintro rfl
      have := hP.res
      unfold Blk at this
      rw [hD'] at this
      cases this
    rw [Below.heap_setCell _ _ _ _ hne, Below.heap_setCell _ _ _ _ hne, hb.block D hl]
    exact hD'
  · exact ((hP.below.trans (hb.mono hP.below.size)).setCell (p := ⟨w.heap.size + 1, 0, none⟩) (Nat.le_succ _) _).setCell (p := ⟨w.heap.size + 1, 1, none⟩) (Nat.le_succ _) _

theorem below_drewN {B : Nat} {a w : World} (h : Below B a w) (n : Nat) : Below B a (w.drewN n) := ⟨h.os, h.tape, h.output, h.size, h.block⟩
theorem arity_any (k : Int) (w : World) : Calls Try.prog 48 #[.int .i64 k] w fun e w' => e = .returned (.int .i64 (arityOf k)) ∧ w' = w := by
  go_enter Try.func48, Try.ntmps48
  go_wp2_with fail
  all_goals
    go_ret
    refine ⟨?_, rfl⟩
    unfold arityOf
    first
      | (rw [if_pos (by simp_all)]; rfl)
      | (rw [if_neg (by simp_all), if_pos (by simp_all)]; rfl)
      | (rw [if_neg (by simp_all), if_neg (by simp_all)]; rfl)

theorem arityOf_le (k : Int) : arityOf k ≤ 2 := by unfold arityOf; split; omega; split <;> omega

/-- The world behind a round's first boxes: the index, the node, the fault's function value. -/
structure GenW (wr : World) (n : Nd) (u : Value) (k H0 H1 H2 : Nat) (W : World) : Prop where
  below : Below wr.heap.size wr W
  lt0 : wr.heap.size ≤ H0
  lt1 : H0 < H1
  lt2 : H1 < H2
  lt3 : H2 < W.heap.size
  b0 : Blk W H0 3 #[.int .i64 (k : Int)]
  b1 : Blk W H1 50 #[.int .i64 n.kind, u, .int .i64 n.fact]
  b2 : Blk W H2 61 #[.func (.func 47) #[] #[.pointer (some ⟨H0, 0, none⟩)]]
theorem GenW.drewN {wr : World} {n : Nd} {u : Value} {k H0 H1 H2 : Nat} {W : World} (h : GenW wr n u k H0 H1 H2 W) (m : Nat) : GenW wr n u k H0 H1 H2 (W.drewN m) :=
  ⟨below_drewN h.below m, h.lt0, h.lt1, h.lt2, h.lt3, h.b0, h.b1, h.b2⟩
theorem genW_mk (wr : World) (n : Nd) (u : Value) (k : Nat) : GenW wr n u k wr.heap.size (wr.heap.size + 1) (wr.heap.size + 1 + 1)
    (((wr.alloc (.cells #[.int .i64 (k : Int)] 3)).alloc (.cells #[.int .i64 n.kind, u, .int .i64 n.fact] 50)).alloc (.cells #[.func (.func 47) #[] #[.pointer (some ⟨wr.heap.size, 0, none⟩)]] 61)) := by
  have h1 := Blk.new (wr.alloc (.cells #[.int .i64 (k : Int)] 3)) 50 #[.int .i64 n.kind, u, .int .i64 n.fact]
  have h2 := Blk.new ((wr.alloc (.cells #[.int .i64 (k : Int)] 3)).alloc (.cells #[.int .i64 n.kind, u, .int .i64 n.fact] 50)) 61 #[.func (.func 47) #[] #[.pointer (some ⟨wr.heap.size, 0, none⟩)]]
  simp only [World.size_alloc] at h1 h2
  exact ⟨(((Below.refl _ wr).alloc (Nat.le_refl _) _).alloc (by simp) _).alloc (by simp; omega) _, Nat.le_refl _, by omega, by omega, by simp, ((Blk.new _ _ _).alloc _).alloc _, h1.alloc _, h2⟩

/-- The world in which the loop over a node's children begins. -/
structure VSt0 (facts : Int) (ns : List Nd) (w : World) (b6 k : Nat) (st : List Nat) (arr : List Int) (Ds : List Nat) (n : Nd) (u : Value) (B R H0 H2 PB SB : Nat) (V : World) : Prop where
  vst : VSt facts ns w b6 k st arr Ds V
  hR : w.heap.size + 1 = R
  b0 : Blk V H0 3 #[.int .i64 (k : Int)]
  b2 : Blk V H2 61 #[.func (.func 47) #[] #[.pointer (some ⟨H0, 0, none⟩)]]
  pb : Blk V PB 3 #[.int .i64 (k : Int)]
  sb : Blk V SB 48 #[u]
  sbl : SB < V.heap.size
  sbp : SB ≠ PB
  keepB : ∀ b, b < B → b < V.heap.size ∧ b ≠ PB
  bl : B ≤ V.heap.size
  ints : IntsAt V B u n.kids
  rl : R < V.heap.size
  rp : R ≠ PB
  h0p : H0 ≠ PB
  h2p : H2 ≠ PB
  b6p : b6 ≠ PB
  fbp : w.heap.size + 2 ≠ PB
  pbw : w.heap.size ≤ PB

theorem VSt.later {facts : Int} {ns : List Nd} {w wr W : World} {b6 k : Nat} {st : List Nat} {arr : List Int} {Ds : List Nat} (h : VSt facts ns w b6 k st arr Ds wr) (hb : Below wr.heap.size wr W) : VSt facts ns w b6 k st arr Ds W :=
  ⟨h.chk, h.alen, h.abd, h.stk, h.ablk.below hb h.ablk.lt, h.res.below hb h.res.lt, h.fst.below hb h.fst.lt, h.below.trans (hb.mono h.below.size), h.nod, fun D hD => by
    obtain ⟨h1, h2⟩ := h.mks D hD
    exact ⟨h1, (hb.block D (Array.getElem?_eq_some_iff.1 h2).1).trans h2⟩⟩

theorem vst0_mk {facts : Int} {ns : List Nd} {w wr W : World} {b6 k R B H0 H1 H2 : Nat} {st : List Nat} {arr : List Int} {Ds : List Nat} {n : Nd} {u : Value} (hP : VSt facts ns w b6 k st arr Ds wr) (hG : GenW wr n u k H0 H1 H2 W) (hR : w.heap.size + 1 = R)
    (hI : IntsAt w B u n.kids) (hB : B ≤ w.heap.size) :
    VSt0 facts ns w b6 k st arr Ds n u B R H0 H2 W.heap.size (W.heap.size + 1) ((W.alloc (.cells #[.int .i64 (k : Int)] 3)).alloc (.cells #[u] 48)) := by
  have hb : Below W.heap.size W ((W.alloc (.cells #[.int .i64 (k : Int)] 3)).alloc (.cells #[u] 48)) := ((Below.refl _ _).alloc (Nat.le_refl _) _).alloc (by simp) _
  have hs : ((W.alloc (.cells #[.int .i64 (k : Int)] 3)).alloc (.cells #[u] 48)).heap.size = W.heap.size + 1 + 1 := by simp
  have hbw := hG.below.mono (Nat.le_refl _)
  have e1 := hP.below.size
  have e2 := hG.below.size
  have e3 := hP.res.lt
  have e4 := hP.fst.lt
  have e5 := hP.ablk.lt
  have e6 := hG.lt0
  have e7 := hG.lt1
  have e8 := hG.lt2
  have e9 := hG.lt3
  subst hR
  have hsb := Blk.new (W.alloc (.cells #[.int .i64 (k : Int)] 3)) 48 #[u]
  rw [World.size_alloc] at hsb
  refine ⟨(hP.later hG.below).later hb, rfl, hG.b0.below hb (by omega), hG.b2.below hb (by omega), (Blk.new _ _ _).alloc _, hsb, by omega, by omega, fun b hb' => by omega, by omega, ?_, by omega, by omega, by omega, by omega, by omega, by omega, by omega⟩
  exact ((hI.below (hP.below.mono hB) (Nat.le_refl _)).below (hG.below.mono (by omega)) (Nat.le_refl _)).below (hb.mono (by omega : B ≤ _)) (Nat.le_refl _)

/-- All that lay in V0 lies as it lay, but for some blocks. -/
structure OldBut (X : Nat → Prop) (V0 V : World) : Prop where
  os : V.os = V0.os
  tape : V.tape = V0.tape
  output : V.output = V0.output
  size : V0.heap.size ≤ V.heap.size
  block : ∀ g, g < V0.heap.size → ¬ X g → V.heap[g]? = V0.heap[g]?

theorem OldBut.grown {X : Nat → Prop} {V0 V V' : World} {row : Option Nat} (h : OldBut X V0 V) (hg : V.grownBy V' row) (hr : ∀ r, row = some r → V0.heap.size ≤ r) : OldBut X V0 V' :=
  ⟨hg.os.trans h.os, hg.tape.trans h.tape, hg.output.trans h.output, Nat.le_trans h.size hg.size, fun g hl hX => (hg.block g (Nat.lt_of_lt_of_le hl h.size) (fun e => by have := hr g e.symm; omega)).trans (h.block g hl hX)⟩

/-- Between two rounds. -/
def RI (arr : List Int) (k PB : Nat) (V0 : World) (pre : List (Int × Int)) (V : World) : Prop :=
  ∃ a : Int, runK arr k pre = some a ∧ Blk V PB 3 #[.int .i64 a] ∧ OldBut (· = PB) V0 V ∧ PB < V0.heap.size
/-- A round has returned. -/
def RX (arr : List Int) (k PB R : Nat) (V0 : World) (c : Code) (pre : List (Int × Int)) (V : World) : Prop :=
  c = .ret ∧ runK arr k pre = none ∧ Blk V R 45 #[.int .i64 5, .int .i64 (k : Int)] ∧ OldBut (fun g => g = PB ∨ g = R) V0 V

theorem ri_own (arr : List Int) (k PB : Nat) (V0 : World) : OwnFrom V0.heap.size (RI arr k PB V0) := by
  rintro pre V V' row ⟨a, h1, h2, h3, h4⟩ hg hr
  refine ⟨a, h1, (hg.block PB h2.lt (fun e => ?_)).trans h2, h3.grown hg fun r e => (hr r e).1, h4⟩
  have := (hr PB e.symm).1
  omega
theorem rx_own (arr : List Int) (k PB R : Nat) (V0 : World) (hR : R < V0.heap.size) (c : Code) : OwnFrom V0.heap.size (RX arr k PB R V0 c) := by
  rintro pre V V' row ⟨h0, h1, h2, h3⟩ hg hr
  refine ⟨h0, h1, (hg.block R h2.lt (fun e => ?_)).trans h2, h3.grown hg fun r e => (hr r e).1⟩
  have := (hr R e.symm).1
  omega
theorem ri_start {facts : Int} {ns : List Nd} {w : World} {b6 k R B H0 H2 PB SB : Nat} {st : List Nat} {arr : List Int} {Ds : List Nat} {n : Nd} {u : Value} {V : World} (h : VSt0 facts ns w b6 k st arr Ds n u B R H0 H2 PB SB V) : RI arr k PB V [] V :=
  ⟨k, rfl, h.pb, ⟨rfl, rfl, rfl, Nat.le_refl _, fun _ _ _ => rfl⟩, h.pb.lt⟩
theorem keepsIn_b {PB : Nat} (V0 : World) (W : World) (l : Nat) (o o' : Obj) (hl : V0.heap.size ≤ l) (_ : W.heap[l]? = some o) (_ : o.isCells = false) (_ : o.isWalk = false) : KeepsIn (fun g => g < V0.heap.size ∧ g ≠ PB) W (W.putObj l o') := fun p hp => by
  refine World.cell?_of_block ?_
  exact World.putObj_heap_other (by have := hp.1; omega)

theorem rx_mk {arr : List Int} {k PB R : Nat} {V0 V w' : World} {pre : List (Int × Int)} {x : Int × Int} {a : Int} (ho : OldBut (· = PB) V0 V) (hR : R < V0.heap.size) (hb : Below V.heap.size V w') (bR : Blk V R 45 #[.int .i64 0, .int .i64 0])
    (hr : runK arr k pre = some a) (hx : runK arr a [x] = none) :
    KeepsFrom V0.heap.size V ((w'.setCell ⟨R, 0, none⟩ (.int .i64 5)).setCell ⟨R, 1, none⟩ (.int .i64 (k : Int))) ∧ RX arr k PB R V0 .ret (pre ++ [x]) ((w'.setCell ⟨R, 0, none⟩ (.int .i64 5)).setCell ⟨R, 1, none⟩ (.int .i64 (k : Int))) := by
  have hs := hb.size
  have h0 := ho.size
  refine ⟨⟨by simp [World.setCell]; omega, fun g o hg hgo hc => ?_⟩, rfl, by rw [runK_append, hr]; exact hx, ((bR.below hb bR.lt).set_ 0 _).set_ 1 _, ?_⟩
  · have hne : g ≠ R := by omega
    rw [Below.heap_setCell _ _ _ _ hne, Below.heap_setCell _ _ _ _ hne]
    exact (hb.block g (Array.getElem?_eq_some_iff.1 hgo).1).trans hgo
  · refine ⟨hb.os.trans ho.os, hb.tape.trans ho.tape, hb.output.trans ho.output, by simp [World.setCell]; omega, fun g hl hX => ?_⟩
    have hne : g ≠ R := fun e => hX (.inr e)
    rw [Below.heap_setCell _ _ _ _ hne, Below.heap_setCell _ _ _ _ hne, hb.block g (by omega)]
    exact ho.block g hl (fun e => hX (.inl e))
theorem ri_mk {arr : List Int} {k PB : Nat} {V0 V : World} {pre : List (Int × Int)} {x : Int × Int} {a y : Int} (ho : OldBut (· = PB) V0 V) (hpl : PB < V0.heap.size) (hpb : Blk V PB 3 #[.int .i64 a])
    (hr : runK arr k pre = some a) (hx : runK arr a [x] = some y) :
    KeepsFrom V0.heap.size V (V.setCell ⟨PB, 0, none⟩ (.int .i64 y)) ∧ KeepsIn (fun g => g < V0.heap.size ∧ g ≠ PB) V (V.setCell ⟨PB, 0, none⟩ (.int .i64 y)) ∧ RI arr k PB V0 (pre ++ [x]) (V.setCell ⟨PB, 0, none⟩ (.int .i64 y)) := by
  refine ⟨(KeepsOthers.setCell _ _ _).from _, fun p hp => World.cell?_of_block (Below.heap_setCell _ _ _ _ hp.2), y, by rw [runK_append, hr]; exact hx, hpb.set_ 0 _, ?_, hpl⟩
  refine ⟨ho.os, ho.tape, ho.output, by simp [World.setCell]; exact ho.size, fun g hl hX => ?_⟩
  rw [Below.heap_setCell _ _ _ _ (fun e => hX e)]
  exact ho.block g hl hX

theorem not_valid_step {facts : Int} {ns : List Nd} {k : Nat} {st : List Nat} {n : Nd} (h : chkV facts 0 [] (ns.take k) = some st) (hn : ns[k]? = some n) (hs : stepV facts k st n = none) : ¬ Valid facts ns := by
  rintro ⟨_, _, _, _, hc⟩
  have e : ns = ns.take k ++ n :: ns.drop (k + 1) := by
    have hk : k < ns.length := (List.getElem?_eq_some_iff.1 hn).1
    have hg : ns[k] = n := (List.getElem?_eq_some_iff.1 hn).2
    rw [← hg, ← List.drop_eq_getElem_cons hk, List.take_append_drop]
  have hk : k ≤ ns.length := Nat.le_of_lt (List.getElem?_eq_some_iff.1 hn).1
  rw [e, chkV_append, h, Option.bind_some] at hc
  simp only [chkV, List.length_take, Nat.min_eq_left hk, Nat.zero_add, hs] at hc
  cases hc
theorem chk_step {facts : Int} {ns : List Nd} {k : Nat} {st st' : List Nat} {n : Nd} (h : chkV facts 0 [] (ns.take k) = some st) (hn : ns[k]? = some n) (hs : stepV facts k st n = some st') : chkV facts 0 [] (ns.take (k + 1)) = some st' := by
  have hk : k ≤ ns.length := Nat.le_of_lt (List.getElem?_eq_some_iff.1 hn).1
  rw [List.take_add_one, hn, Option.toList_some, chkV_append, h, Option.bind_some]
  simp only [chkV, List.length_take, Nat.min_eq_left hk, Nat.zero_add, hs]

theorem upto_split {α : Type} (f : Nat → α) {j m : Nat} (h : j ≤ m) : ∃ q, upto f m = upto f j ++ q := by
  refine ⟨(upto f m).drop j, ?_⟩
  have : (upto f m).take j = upto f j := by
    unfold upto
    rw [← List.map_take, List.take_range, Nat.min_eq_left h]
  rw [← this, List.take_append_drop]

theorem vst_next {facts : Int} {ns : List Nd} {w : World} {b6 k R B H0 H2 PB SB D s : Nat} {st r : List Nat} {arr : List Int} {Ds : List Nat} {n : Nd} {u : Value} {V0 V : World} (h : VSt0 facts ns w b6 k st arr Ds n u B R H0 H2 PB SB V0)
    (ho : OldBut (· = PB) V0 V) (hD : V0.heap.size ≤ D) (hK : V.heap[D]? = some (.deferred (some []))) (hn : ns[k]? = some n) (hs : stepV facts k st n = some (s :: r)) (hk : StkF arr s r) (hsk : s ≤ k) (hlt : k < ns.length) :
    VSt facts ns w b6 (k + 1) (s :: r) (arr.set k (s : Int)) (D :: Ds) (V.setCell ⟨w.heap.size + 2, k, none⟩ (.int .i64 (s : Int))) := by
  have hv := h.vst
  have h0 := ho.size
  have hal := hv.alen
  have bF : Blk V (w.heap.size + 2) 3 (arr.map (Value.int .i64)).toArray := (ho.block _ hv.ablk.lt h.fbp).trans hv.ablk
  have b6' : Blk V b6 48 #[.slice (some ⟨w.heap.size + 2, 0, none⟩) ns.length ns.length] := (ho.block _ hv.fst.lt h.b6p).trans hv.fst
  have bR : Blk V (w.heap.size + 1) 45 #[.int .i64 0, .int .i64 0] := (ho.block _ hv.res.lt (by have := h.rp; rw [← h.hR] at this; exact this)).trans hv.res
  have hmk : ∀ D' ∈ Ds, D' < V0.heap.size ∧ D' ≠ PB ∧ D' ≠ w.heap.size + 2 := fun D' hD' => by
    have h2 := (hv.mks D' hD').2
    refine ⟨(Array.getElem?_eq_some_iff.1 h2).1, ?_, ?_⟩
    · rintro rfl
      have := h.pb
      unfold Blk at this
      rw [h2] at this
      cases this
    · rintro rfl
      have := hv.ablk
      unfold Blk at this
      rw [h2] at this
      cases this
  refine ⟨chk_step hv.chk hn hs, by rw [List.length_set]; exact hal, fun j x hx => ?_, ⟨by omega, ?_, StkF.set hk hsk⟩, ?_, bR.far (by simp) _, b6'.far ?_ _, ?_, ?_, fun D' hD' => ?_⟩
  · rw [List.getElem?_set] at hx
    split at hx
    · rename_i e
      subst e
      split at hx
      · injection hx with hx; omega
      · cases hx
    · exact hv.abd j x hx
  · rw [Nat.add_sub_cancel, List.getElem?_set_self (by omega)]
  · have := bF.set_ k (.int .i64 (s : Int))
    simpa [List.map_set] using this
  · exact b6'.ne_ bF (by decide)
  · refine Below.setCell (p := ⟨w.heap.size + 2, k, none⟩) ?_ (by exact Nat.le_add_right _ _) _
    exact ⟨ho.os.trans hv.below.os, ho.tape.trans hv.below.tape, ho.output.trans hv.below.output, Nat.le_trans hv.below.size ho.size, fun g hg => (ho.block g (Nat.lt_of_lt_of_le hg hv.below.size) (by have := h.pbw; omega)).trans (hv.below.block g hg)⟩
  · rw [List.nodup_cons]
    exact ⟨fun hD' => by have := (hmk D hD').1; omega, hv.nod⟩
  · rcases List.mem_cons.1 hD' with rfl | hD'
    · refine ⟨by have := hv.below.size; omega, (Below.heap_setCell _ _ _ _ ?_).trans hK⟩
      have := hv.ablk.lt
      simp only
      omega
    · obtain ⟨g1, g2, g3⟩ := hmk D' hD'
      exact ⟨(hv.mks D' hD').1, (Below.heap_setCell _ _ _ _ g3).trans ((ho.block D' g1 g2).trans (hv.mks D' hD').2)⟩

theorem stop_exit {facts : Int} {ns : List Nd} {w : World} {b6 k R B H0 H2 PB SB D : Nat} {st : List Nat} {arr : List Int} {Ds : List Nat} {n : Nd} {u : Value} {V0 V : World} (h : VSt0 facts ns w b6 k st arr Ds n u B R H0 H2 PB SB V0)
    (ho : OldBut (fun g => g = PB ∨ g = R) V0 V) (hD : V0.heap.size ≤ D) (hK : V.heap[D]? = some (.deferred (some []))) (hbR : Blk V R 45 #[.int .i64 5, .int .i64 (k : Int)]) (hnv : ¬ Valid facts ns) (hl : ns.length ≤ 60) :
    ∀ tmps : Array Value, tmps.getD 4 undef = .pointer (some ⟨R, 0, none⟩) → LeavesInM Fence.wide 5 Try.prog Try.f42 tmps (ValPost facts ns w) (markOf D :: Ds.map markOf) .returning V := by
  intro tmps h4
  have hv := h.vst
  have hR := h.hR
  have h0 := ho.size
  subst hR
  refine val_exit (Ds := D :: Ds) ?_ (fun D' hD' => ?_) hbR h4 (.inr ⟨hnv, by decide, fun _ _ h => by omega⟩) ?_
  · rw [List.nodup_cons]
    exact ⟨fun hD' => by have := (Array.getElem?_eq_some_iff.1 (hv.mks D hD').2).1; omega, hv.nod⟩
  · rcases List.mem_cons.1 hD' with rfl | hD'
    · exact ⟨by have := hv.below.size; omega, hK⟩
    · have h2 := (hv.mks D' hD').2
      refine ⟨(hv.mks D' hD').1, (ho.block D' (Array.getElem?_eq_some_iff.1 h2).1 ?_).trans h2⟩
      rintro (rfl | rfl)
      · have := h.pb
        unfold Blk at this
        rw [h2] at this
        cases this
      · have := hv.res
        unfold Blk at this
        rw [h2] at this
        cases this
  · exact ⟨ho.os.trans hv.below.os, ho.tape.trans hv.below.tape, ho.output.trans hv.below.output, Nat.le_trans hv.below.size ho.size, fun g hg => (ho.block g (Nat.lt_of_lt_of_le hg hv.below.size) (by have := h.pbw; omega)).trans (hv.below.block g hg)⟩

theorem last_exit {facts c ix : Int} {ns : List Nd} {w wr : World} {b6 k R : Nat} {st : List Nat} {arr : List Int} {tmps : Array Value} {Ds : List Nat} (hP : VSt facts ns w b6 k st arr Ds wr) (hR : w.heap.size + 1 = R)
    (h4 : tmps.getD 4 undef = .pointer (some ⟨R, 0, none⟩)) (hv : ValRes facts ns c ix) :
    LeavesInM Fence.wide 5 Try.prog Try.f42 tmps (ValPost facts ns w) (Ds.map markOf) .returning ((wr.setCell ⟨R, 0, none⟩ (.int .i64 c)).setCell ⟨R, 1, none⟩ (.int .i64 ix)) := by
  subst hR
  refine val_exit hP.nod (fun D hD => ⟨(hP.mks D hD).1, ?_⟩) ((hP.res.set_ 0 _).set_ 1 _) h4 hv ?_
  · have hD' := (hP.mks D hD).2
    have hne : D ≠ w.heap.size + 1 := by
      rintro rfl
      have := hP.res
      unfold Blk at this
      rw [hD'] at this
      cases this
    rw [Below.heap_setCell _ _ _ _ hne, Below.heap_setCell _ _ _ _ hne]
    exact hD'
  · exact (hP.below.setCell (p := ⟨w.heap.size + 1, 0, none⟩) (Nat.le_succ _) _).setCell (p := ⟨w.heap.size + 1, 1, none⟩) (Nat.le_succ _) _
theorem last_ok {facts : Int} {ns : List Nd} {w wr : World} {b6 R : Nat} {r : List Nat} {arr : List Int} {tmps : Array Value} {Ds : List Nat} (hP : VSt facts ns w b6 ns.length (0 :: r) arr Ds wr) (hR : w.heap.size + 1 = R)
    (h4 : tmps.getD 4 undef = .pointer (some ⟨R, 0, none⟩)) (h0 : 0 ≤ facts) (h1 : facts ≤ 24) (hl1 : 0 < ns.length) (hl2 : ns.length ≤ 60) :
    LeavesInM Fence.wide 5 Try.prog Try.f42 tmps (ValPost facts ns w) (Ds.map markOf) .returning ((wr.setCell ⟨R, 0, none⟩ (.int .i64 0)).setCell ⟨R, 1, none⟩ (.int .i64 0)) := by
  refine last_exit hP hR h4 (.inl ⟨⟨h0, h1, fun e => by rw [e] at hl1; simp at hl1, hl2, ?_⟩, rfl, rfl⟩)
  have hc := hP.chk
  rw [List.take_length] at hc
  rw [hc]
  cases r with
  | nil => rfl
  | cons s' r' => exact absurd hP.stk.2.2.1 (Nat.not_lt_zero _)
theorem last_bad {facts : Int} {ns : List Nd} {w wr : World} {b6 R s : Nat} {r : List Nat} {arr : List Int} {tmps : Array Value} {Ds : List Nat} (hP : VSt facts ns w b6 ns.length (s :: r) arr Ds wr) (hR : w.heap.size + 1 = R)
    (h4 : tmps.getD 4 undef = .pointer (some ⟨R, 0, none⟩)) (hs : s ≠ 0) (hl2 : ns.length ≤ 60) :
    LeavesInM Fence.wide 5 Try.prog Try.f42 tmps (ValPost facts ns w) (Ds.map markOf) .returning ((wr.setCell ⟨R, 0, none⟩ (.int .i64 5)).setCell ⟨R, 1, none⟩ (.int .i64 (-2))) := by
  refine last_exit hP hR h4 (.inr ⟨fun hv => ?_, by decide, fun _ _ h => by omega⟩)
  have hc := hP.chk
  rw [List.take_length] at hc
  have := hv.2.2.2.2
  rw [hc] at this
  simp at this
  exact hs this.1

set_option maxHeartbeats 4000000 in
set_option maxRecDepth 100000 in
theorem val_main (facts : Int) (ns : List Nd) (A : Option Addr) (c : Nat) (w : World) (B : Nat) (h0 : 0 ≤ facts) (h1 : facts ≤ 24) (hl1 : 0 < ns.length) (hl2 : ns.length ≤ 60) (hN : NodesAt w B (.slice A ns.length c) ns) (hB : B ≤ w.heap.size) :
    Calls Try.prog 42 #[.agg #[.slice A ns.length c], .int .i64 facts] w (ValPost facts ns w) := by
  obtain ⟨A', c', hv, hc1, hc2, hat⟩ := hN.form
  injection hv with hA hm hc
  subst hA; subst hc
  unfold maxLen at hc2
  have HAT := Lib.hid hat
  clear hat hm
  obtain ⟨i0, hi0, hz0, hz1, hz2⟩ := info_parts Try.info3
  have hby : i0.bytes * ns.length ≤ 281474976710656 := by rw [hz2]; omega
  have hmx : ns.length ≤ maxLen := by unfold maxLen; omega
  have hf1 : ¬ facts < 0 := by omega
  have hf2 : ¬ 24 < facts := by omega
  have hb0 : ((ns.length : Int) == 0) = false := by rw [beq_eq_false_iff_ne]; omega
  have hb1 : ¬ (60 : Int) < (ns.length : Int) := by omega
  refine (callsIn_wide (n := 5)).1 (callsIn_of_wp_marks Try.func42 rfl trivial (wpIn_wide.2 ?_) rfl)
  simp only [Try.ntmps42, List.size_toArray, List.length_cons, List.length_nil, Nat.reduceAdd, Nat.reduceSub, Array.replicate_succ, Array.replicate_zero, List.push_toArray, List.append_toArray, List.nil_append, List.cons_append]
  go_wp2_with (at_make; refine wpList_make_full _ rfl _ _ _ rfl (w.heap.size + 2) 3 i0 _ 1 Try.underlying48 hi0 hz0 hz1 .i64 .i64 _ _ ns.length rfl rfl rfl rfl hby hmx (by simp) ?_; intro w1 hown hgrow; have hsz1 := hgrow.size)
  simp only [World.size_alloc] at hsz1
  have hst : VSt facts ns w w1.heap.size 0 [] (List.replicate ns.length 0) [] (w1.alloc (.cells #[.slice (some ⟨w.heap.size + 1 + 1, 0, none⟩) ns.length ns.length] 48)) := by
    have hrow : Blk w1 (w.heap.size + 2) 3 ((List.replicate ns.length (0 : Int)).map (Value.int .i64)).toArray := by
      have := blk_of_own_row hown
      simp only [World.size_alloc] at this
      rw [show Value.cells (.int .i64 0) = #[.int .i64 0] from rfl, toList_madeCells_one, Nat.mul_one] at this
      rw [List.map_replicate]
      exact this
    have hres : Blk w1 (w.heap.size + 1) 45 #[.int .i64 0, .int .i64 0] := by
      refine (hgrow.block _ (by simp) (by simp)).trans ?_
      have := Blk.new (w.alloc (.cells #[.slice A ns.length c] 24)) 45 #[.int .i64 0, .int .i64 0]
      rw [World.size_alloc] at this
      exact this
    refine ⟨rfl, by simp, fun j x hx => ?_, rfl, hrow.alloc _, hres.alloc _, Blk.new _ _ _, ?_, List.nodup_nil, fun D hD => by cases hD⟩
    · have := List.mem_of_getElem? hx
      have := List.eq_of_mem_replicate this
      omega
    · exact ((((Below.refl _ w).alloc (Nat.le_refl _) _).alloc (by simp) _).grown hgrow (by simp; omega) (fun g e => by cases e)).alloc (by omega) _
  have HST := Lib.hid hst
  clear hst hown hgrow
  obtain ⟨R, hR⟩ : ∃ R, w.heap.size + 1 = R := ⟨_, rfl⟩
  have HR := Lib.hid hR
  clear hR
  refine wp_loop (fun a wr => ∃ u7 u8 u9 u10 u12 u36 u37 u38 u39 u40 u41 u42 u43 u44 u45 u46 u47 u48 u49 u50 u51 u52 u53 u54 u55 u56 u57 u58 u59 u60 u61 u62 u63 u64 u65 u66 u67 u68 u69 u70 u71 u72 u73 u74 u75 u76 u77 u78 u79 u80 u81 u82 u83 u84 u85 u86 u87 u88 u89 u90 u91 u92 u93 u94 u95 u96 u97 u98 u99 u100 u101 u102 u103 u104 : Value, ∃ ds : List Deferred, VRel facts ns w w1.heap.size u36 ds wr ∧ a = { tmps := #[.agg #[.slice A ns.length c], .int .i64 facts, .pointer (some ⟨w.heap.size, 0, none⟩), undef, .pointer (some ⟨R, 0, none⟩), .slice A ns.length c, .pointer (some ⟨w1.heap.size, 0, none⟩), u7, u8, u9, u10, undef, u12, .pointer (some ⟨w.heap.size, 0, none⟩), .slice A ns.length c, .int .i64 facts, .bool false, .bool false, .int .i64 facts, .bool false, .bool false, undef, .slice A ns.length c, .int .i64 (ns.length : Int), .bool false, .bool false, .slice A ns.length c, .int .i64 (ns.length : Int), .bool false, .bool false, undef, .slice A ns.length c, .int .i64 (ns.length : Int), .slice (some ⟨w.heap.size + 1 + 1, 0, none⟩) ns.length ns.length, .slice A ns.length c, .int .i64 (ns.length : Int), u36, u37, u38, u39, u40, u41, u42, u43, u44, u45, u46, u47, u48, u49, u50, u51, u52, u53, u54, u55, u56, u57, u58, u59, u60, u61, u62, u63, u64, u65, u66, u67, u68, u69, u70, u71, u72, u73, u74, u75, u76, u77, u78, u79, u80, u81, u82, u83, u84, u85, u86, u87, u88, u89, u90, u91, u92, u93, u94, u95, u96, u97, u98, u99, u100, u101, u102, u103, u104, undef, undef, undef, undef, undef, undef, undef, undef, undef], defers := ds }) (fun a _ => ns.length - (intOf (a.tmps.getD 36 undef)).toNat) ?start ?round
  case start =>
    have hR := HR.out
    subst hR
    exact ⟨undef, undef, undef, undef, undef, .int .i64 0, undef, undef, undef, undef, undef, undef, undef, undef, undef, undef, undef, undef, undef, undef, undef, undef, undef, undef, undef, undef, undef, undef, undef, undef, undef, undef, undef, undef, undef, undef, undef, undef, undef, undef, undef, undef, undef, undef, undef, undef, undef, undef, undef, undef, undef, undef, undef, undef, undef, undef, undef, undef, undef, undef, undef, undef, undef, undef, undef, undef, undef, undef, undef, undef, undef, undef, undef, undef, [], ⟨0, [], _, [], rfl, Nat.zero_le _, rfl, HST.out⟩, rfl⟩
  case round =>
    intro a wr hinv
    obtain ⟨u7, hinv⟩ := hinv
    obtain ⟨u8, hinv⟩ := hinv
    obtain ⟨u9, hinv⟩ := hinv
    obtain ⟨u10, hinv⟩ := hinv
    obtain ⟨u12, hinv⟩ := hinv
    obtain ⟨u36, hinv⟩ := hinv
    obtain ⟨u37, hinv⟩ := hinv
    obtain ⟨u38, hinv⟩ := hinv
    obtain ⟨u39, hinv⟩ := hinv
    obtain ⟨u40, hinv⟩ := hinv
    obtain ⟨u41, hinv⟩ := hinv
    obtain ⟨u42, hinv⟩ := hinv
    obtain ⟨u43, hinv⟩ := hinv
    obtain ⟨u44, hinv⟩ := hinv
    obtain ⟨u45, hinv⟩ := hinv
    obtain ⟨u46, hinv⟩ := hinv
    obtain ⟨u47, hinv⟩ := hinv
    obtain ⟨u48, hinv⟩ := hinv
    obtain ⟨u49, hinv⟩ := hinv
    obtain ⟨u50, hinv⟩ := hinv
    obtain ⟨u51, hinv⟩ := hinv
    obtain ⟨u52, hinv⟩ := hinv
    obtain ⟨u53, hinv⟩ := hinv
    obtain ⟨u54, hinv⟩ := hinv
    obtain ⟨u55, hinv⟩ := hinv
    obtain ⟨u56, hinv⟩ := hinv
    obtain ⟨u57, hinv⟩ := hinv
    obtain ⟨u58, hinv⟩ := hinv
    obtain ⟨u59, hinv⟩ := hinv
    obtain ⟨u60, hinv⟩ := hinv
    obtain ⟨u61, hinv⟩ := hinv
    obtain ⟨u62, hinv⟩ := hinv
    obtain ⟨u63, hinv⟩ := hinv
    obtain ⟨u64, hinv⟩ := hinv
    obtain ⟨u65, hinv⟩ := hinv
    obtain ⟨u66, hinv⟩ := hinv
    obtain ⟨u67, hinv⟩ := hinv
    obtain ⟨u68, hinv⟩ := hinv
    obtain ⟨u69, hinv⟩ := hinv
    obtain ⟨u70, hinv⟩ := hinv
    obtain ⟨u71, hinv⟩ := hinv
    obtain ⟨u72, hinv⟩ := hinv
    obtain ⟨u73, hinv⟩ := hinv
    obtain ⟨u74, hinv⟩ := hinv
    obtain ⟨u75, hinv⟩ := hinv
    obtain ⟨u76, hinv⟩ := hinv
    obtain ⟨u77, hinv⟩ := hinv
    obtain ⟨u78, hinv⟩ := hinv
    obtain ⟨u79, hinv⟩ := hinv
    obtain ⟨u80, hinv⟩ := hinv
    obtain ⟨u81, hinv⟩ := hinv
    obtain ⟨u82, hinv⟩ := hinv
    obtain ⟨u83, hinv⟩ := hinv
    obtain ⟨u84, hinv⟩ := hinv
    obtain ⟨u85, hinv⟩ := hinv
    obtain ⟨u86, hinv⟩ := hinv
    obtain ⟨u87, hinv⟩ := hinv
    obtain ⟨u88, hinv⟩ := hinv
    obtain ⟨u89, hinv⟩ := hinv
    obtain ⟨u90, hinv⟩ := hinv
    obtain ⟨u91, hinv⟩ := hinv
    obtain ⟨u92, hinv⟩ := hinv
    obtain ⟨u93, hinv⟩ := hinv
    obtain ⟨u94, hinv⟩ := hinv
    obtain ⟨u95, hinv⟩ := hinv
    obtain ⟨u96, hinv⟩ := hinv
    obtain ⟨u97, hinv⟩ := hinv
    obtain ⟨u98, hinv⟩ := hinv
    obtain ⟨u99, hinv⟩ := hinv
    obtain ⟨u100, hinv⟩ := hinv
    obtain ⟨u101, hinv⟩ := hinv
    obtain ⟨u102, hinv⟩ := hinv
    obtain ⟨u103, hinv⟩ := hinv
    obtain ⟨u104, hinv⟩ := hinv
    obtain ⟨ds, hinv⟩ := hinv
    obtain ⟨⟨k, st, arr, Ds, rfl, hk, rfl, hP⟩, ha⟩ := hinv
    subst ha
    by_cases hlt : k < ns.length
    · obtain ⟨n, hn⟩ : ∃ n, ns[k]? = some n := ⟨_, List.getElem?_eq_getElem hlt⟩
      obtain ⟨b, off, u, rfl, hbB, k0, k1, k2, hI⟩ := HAT.out k n hn
      have hIw := hI
      obtain ⟨A2, c2, rfl, hlk, hc22, hkid⟩ := hI.form
      have hbw : b < w.heap.size := by omega
      have hszw := hP.below.size
      have k0r : wr.cell? ⟨b, off + k * 3, none⟩ = some (.int .i64 n.kind) := cell_later hP.below k0
      have k1r : wr.cell? ⟨b, off + k * 3 + 1, none⟩ = some (.slice A2 n.kids.length c2) := cell_later hP.below k1
      have k2r : wr.cell? ⟨b, off + k * 3 + 2, none⟩ = some (.int .i64 n.fact) := cell_later hP.below k2
      have hbr : b < wr.heap.size := by omega
      have hresR := hP.res
      rw [HR.out] at hresR
      have hrl := hresR.lt
      have r0 : wr.cell? ⟨R, 0, none⟩ = some (.int .i64 0) := hresR.cell 0
      have r1 : wr.cell? ⟨R, 1, none⟩ = some (.int .i64 0) := hresR.cell 1
      have rf0 := hresR.frozen 0
      have rf1 := hresR.frozen 1
      have HRES := Lib.hid hresR
      clear hresR
      unfold maxLen at hc22
      have HP := Lib.hid hP
      have HN := Lib.hid hn
      have HK := Lib.hid hkid
      have HIW := Lib.hid hIw
      clear hP hn hkid hI hIw k0 k1 k2
      go_upto_block 2 with (fail)
      have gW : GenW wr n (.slice A2 n.kids.length c2) k wr.heap.size (wr.heap.size + 1) (wr.heap.size + 1 + 1) (((wr.alloc (.cells #[.int .i64 (k : Int)] 3)).alloc (.cells #[.int .i64 n.kind, .slice A2 n.kids.length c2, .int .i64 n.fact] 50)).alloc (.cells #[.func (.func 47) #[] #[.pointer (some ⟨wr.heap.size, 0, none⟩)]] 61)) := genW_mk _ _ _ _
      have GW := Lib.hid gW
      clear gW
      generalize ((wr.alloc (.cells #[.int .i64 (k : Int)] 3)).alloc (.cells #[.int .i64 n.kind, .slice A2 n.kids.length c2, .int .i64 n.fact] 50)).alloc (.cells #[.func (.func 47) #[] #[.pointer (some ⟨wr.heap.size, 0, none⟩)]] 61) = W at GW ⊢
      generalize wr.heap.size + 1 + 1 = H2 at GW ⊢
      generalize wr.heap.size + 1 = H1 at GW ⊢
      obtain ⟨H0, hH0⟩ : ∃ H0, wr.heap.size = H0 := ⟨_, rfl⟩
      rw [hH0] at GW ⊢
      have c0W : W.cell? ⟨H0, 0, none⟩ = some (.int .i64 (k : Int)) := GW.out.b0.cell 0
      have n0W : W.cell? ⟨H1, 0, none⟩ = some (.int .i64 n.kind) := GW.out.b1.cell 0
      have n1W : W.cell? ⟨H1, 1, none⟩ = some (.slice A2 n.kids.length c2) := GW.out.b1.cell 1
      have n2W : W.cell? ⟨H1, 2, none⟩ = some (.int .i64 n.fact) := GW.out.b1.cell 2
      have fW : W.cell? ⟨H2, 0, none⟩ = some (.func (.func 47) #[] #[.pointer (some ⟨H0, 0, none⟩)]) := GW.out.b2.cell 0
      have hWs : wr.heap.size ≤ W.heap.size := GW.out.below.size
      by_cases hk1 : n.kind < 1
      · go_wp2_with fail
        refine (fault_ret _ (k : Int) H0 _ ?_).mono ?_
        · exact c0W
        rintro e w' ⟨rfl, hb⟩
        have hb' : Below wr.heap.size wr w' := GW.out.below.trans (hb.mono hWs)
        clear hb
        have r0' := cell_later hb' r0
        have r1' := cell_later hb' r1
        have rf0' := frozen_later hb' hrl rf0
        have rf1' := frozen_later hb' hrl rf1
        have hrl' := lt_later hb' hrl
        have HB := Lib.hid hb'
        clear hb'
        go_wp2_with fail
        exact fault_exit HP.out HR.out HB.out rfl (not_valid_step HP.out.chk HN.out (by unfold stepV; rw [if_pos (.inl hk1)])) (by decide) hl2
      by_cases hk2 : 9 < n.kind
      · go_wp2_with fail
        refine (fault_ret _ (k : Int) H0 _ ?_).mono ?_
        · exact c0W
        rintro e w' ⟨rfl, hb⟩
        have hb' : Below wr.heap.size wr w' := GW.out.below.trans (hb.mono hWs)
        clear hb
        have r0' := cell_later hb' r0
        have r1' := cell_later hb' r1
        have rf0' := frozen_later hb' hrl rf0
        have rf1' := frozen_later hb' hrl rf1
        have hrl' := lt_later hb' hrl
        have HB := Lib.hid hb'
        clear hb'
        go_wp2_with fail
        exact fault_exit HP.out HR.out HB.out rfl (not_valid_step HP.out.chk HN.out (by unfold stepV; rw [if_pos (.inr hk2)])) (by decide) hl2
      obtain ⟨ar, har⟩ : ∃ ar, arityOf n.kind = ar := ⟨_, rfl⟩
      have har' := arity_any n.kind
      rw [har] at har'
      have HAR := Lib.hid har
      have HCA := Lib.hid har'
      clear har har'
      by_cases hk3 : ¬ ((n.kids.length : Int) = ar)
      · have hk3' : ((n.kids.length : Int) == ar) = false := by simpa using hk3
        have hk3'' : ((n.kids.length : Int) != ar) = true := by simpa using hk3
        go_wp2_with fail
        go_quiet ((go_at_call 48; exact Calls.quiet_of_same (HCA.out _)))
        go_wp2_with fail
        refine (fault_ret _ (k : Int) H0 _ ?_).mono ?_
        · exact c0W
        rintro e w' ⟨rfl, hb⟩
        have hb' : Below wr.heap.size wr w' := (below_drewN GW.out.below _).trans (hb.mono hWs)
        clear hb
        have r0' := cell_later hb' r0
        have r1' := cell_later hb' r1
        have rf0' := frozen_later hb' hrl rf0
        have rf1' := frozen_later hb' hrl rf1
        have hrl' := lt_later hb' hrl
        have HB := Lib.hid hb'
        clear hb'
        go_wp2_with fail
        exact fault_exit HP.out HR.out HB.out rfl (not_valid_step HP.out.chk HN.out (by unfold stepV; rw [if_neg (by omega), HAR.out, if_pos hk3])) (by decide) hl2
      have hk3' : (n.kids.length : Int) = ar := by omega
      clear hk3
      have hk3a : ((n.kids.length : Int) == ar) = true := by simpa using hk3'
      have hk3b : ((n.kids.length : Int) != ar) = false := by simpa using hk3'
      have HK3 := Lib.hid hk3'
      clear hk3'
      by_cases hk4 : n.kind = 2 ∧ n.fact < 0
      · obtain ⟨hk4a, hk4b⟩ := hk4
        have hk4c : (n.kind == 2) = true := by simpa using hk4a
        have HK4 := Lib.hid hk4a
        clear hk4a
        go_wp2_with fail
        go_quiet ((go_at_call 48; exact Calls.quiet_of_same (HCA.out _)))
        go_wp2_with fail
        refine (fault_ret _ (k : Int) H0 _ ?_).mono ?_
        · exact c0W
        rintro e w' ⟨rfl, hb⟩
        have hb' : Below wr.heap.size wr w' := (below_drewN GW.out.below _).trans (hb.mono hWs)
        clear hb
        have r0' := cell_later hb' r0
        have r1' := cell_later hb' r1
        have rf0' := frozen_later hb' hrl rf0
        have rf1' := frozen_later hb' hrl rf1
        have hrl' := lt_later hb' hrl
        have HB := Lib.hid hb'
        clear hb'
        go_wp2_with fail
        exact fault_exit HP.out HR.out HB.out rfl (not_valid_step HP.out.chk HN.out (by unfold stepV; rw [if_neg (by omega), HAR.out, if_neg (by rw [HK3.out]; simp), if_pos ⟨HK4.out, .inl hk4b⟩])) (by decide) hl2
      by_cases hk5 : n.kind = 2 ∧ facts ≤ n.fact
      · obtain ⟨hk4a, hk4b⟩ := hk5
        have hk4c : (n.kind == 2) = true := by simpa using hk4a
        have hk4d : ¬ n.fact < 0 := by omega
        have HK4 := Lib.hid hk4a
        clear hk4a hk4
        go_wp2_with fail
        go_quiet ((go_at_call 48; exact Calls.quiet_of_same (HCA.out _)))
        go_wp2_with fail
        refine (fault_ret _ (k : Int) H0 _ ?_).mono ?_
        · exact c0W
        rintro e w' ⟨rfl, hb⟩
        have hb' : Below wr.heap.size wr w' := (below_drewN GW.out.below _).trans (hb.mono hWs)
        clear hb
        have r0' := cell_later hb' r0
        have r1' := cell_later hb' r1
        have rf0' := frozen_later hb' hrl rf0
        have rf1' := frozen_later hb' hrl rf1
        have hrl' := lt_later hb' hrl
        have HB := Lib.hid hb'
        clear hb'
        go_wp2_with fail
        exact fault_exit HP.out HR.out HB.out rfl (not_valid_step HP.out.chk HN.out (by unfold stepV; rw [if_neg (by omega), HAR.out, if_neg (by rw [HK3.out]; simp), if_pos ⟨HK4.out, .inr hk4b⟩])) (by decide) hl2
      have hle : n.kids.length ≤ 2 := by
        have := arityOf_le n.kind
        rw [HAR.out, ← HK3.out] at this
        omega
      have hstep := runK_step (facts := facts) (arr := arr) (k := k) (st := st) (n := n) (by omega) (by rw [HAR.out]; exact HK3.out) (by omega) hle HP.out.stk
      have HSTEP := Lib.hid hstep
      clear hstep
      by_cases hk6 : n.kind = 2
      · have hk6a : (n.kind == 2) = true := by simpa using hk6
        have hk6b : ¬ n.fact < 0 := by omega
        have hk6c : ¬ facts ≤ n.fact := by omega
        clear hk6 hk4 hk5
        go_wp2_with fail
        go_quiet ((go_at_call 48; exact Calls.quiet_of_same (HCA.out _)))
        have gW2 := GW.out.drewN nq
        generalize W.drewN nq = W2 at gW2 ⊢
        have d0W : W2.cell? ⟨H0, 0, none⟩ = some (.int .i64 (k : Int)) := gW2.b0.cell 0
        have m0W : W2.cell? ⟨H1, 0, none⟩ = some (.int .i64 n.kind) := gW2.b1.cell 0
        have m1W : W2.cell? ⟨H1, 1, none⟩ = some (.slice A2 n.kids.length c2) := gW2.b1.cell 1
        have m2W : W2.cell? ⟨H1, 2, none⟩ = some (.int .i64 n.fact) := gW2.b1.cell 2
        have hl0 : H0 < W2.heap.size := gW2.b0.lt
        have hl1' : H1 < W2.heap.size := gW2.b1.lt
        have GW2 := Lib.hid gW2
        clear gW2 c0W n0W n1W n2W fW hWs
        go_wp2_with fail
        refine ((callsIn_wide (n := 0)).1 (back_in Fence.wide 0 trivial rfl _ _ _ _)).mono ?_
        rintro e w' ⟨rfl, rfl⟩
        go_wp2_with fail
        have hV := vst0_mk HP.out GW2.out HR.out HIW.out hB
        have HV := Lib.hid hV
        clear hV
        generalize (W2.alloc (.cells #[.int .i64 (k : Int)] 3)).alloc (.cells #[.slice A2 n.kids.length c2] 48) = V0 at HV ⊢
        generalize W2.heap.size + 1 = SB at HV ⊢
        obtain ⟨PB, hPB⟩ : ∃ PB, W2.heap.size = PB := ⟨_, rfl⟩
        rw [hPB] at HV ⊢
        clear d0W m0W m1W m2W hl0 hl1' hPB r0 r1 rf0 rf1 hrl
        refine (wpIn_wide (n := 5)).1 ?_
        have hsb := HV.out.sb
        refine wpIn_rangeFunc_ownG rfl (by omega) (gf := 54) (lb := #[.pointer (some ⟨SB, 0, none⟩)]) rfl trivial (enters_of Try.func54 (by kernel_rfl) rfl)
          (back_stops Fence.wide 4 trivial rfl (by omega) SB B c2 A2 n.kids hle (fun g => g < V0.heap.size ∧ g ≠ PB) HV.out.keepB ⟨HV.out.sbl, HV.out.sbp⟩ V0 HV.out.sbl HV.out.bl (hsb.cell 0) HV.out.ints)
          (fun h g => KeepsIn.trans h g) (keepsIn_b _) (Below.refl _ _) (fun _ => rfl)
          (RI arr k PB V0) (RX arr k PB R V0) (ri_own _ _ _ _) (rx_own _ _ _ _ _ HV.out.rl) (ri_start HV.out) ?a1 ?assign ?body ?done ?stop
        case assign =>
          intro l x V K hK
          gi_wp2
          exact hK
        case body =>
          rintro l pre ⟨x1, x2⟩ V ⟨a, hr, hpb, hold, hpl⟩ hlen
          have hra := runK_le HV.out.vst.abd _ _ _ (Int.natCast_nonneg k) (Int.le_refl _) hr
          obtain ⟨ha0, hak⟩ := hra
          have cPB : V.cell? ⟨PB, 0, none⟩ = some (.int .i64 a) := hpb.cell 0
          have fPB := hpb.frozen 0
          have bR : Blk V R 45 #[.int .i64 0, .int .i64 0] := (hold.block R HV.out.rl HV.out.rp).trans (by have := HV.out.vst.res; rw [HV.out.hR] at this; exact this)
          have s0 : V.cell? ⟨R, 0, none⟩ = some (.int .i64 0) := bR.cell 0
          have s1 : V.cell? ⟨R, 1, none⟩ = some (.int .i64 0) := bR.cell 1
          have sf0 := bR.frozen 0
          have sf1 := bR.frozen 1
          have b0 : Blk V H0 3 #[.int .i64 (k : Int)] := (hold.block H0 HV.out.b0.lt HV.out.h0p).trans HV.out.b0
          have c0 : V.cell? ⟨H0, 0, none⟩ = some (.int .i64 (k : Int)) := b0.cell 0
          have b2 : Blk V H2 61 #[.func (.func 47) #[] #[.pointer (some ⟨H0, 0, none⟩)]] := (hold.block H2 HV.out.b2.lt HV.out.h2p).trans HV.out.b2
          have f2 : V.cell? ⟨H2, 0, none⟩ = some (.func (.func 47) #[] #[.pointer (some ⟨H0, 0, none⟩)]) := b2.cell 0
          have b6 : Blk V w1.heap.size 48 #[.slice (some ⟨w.heap.size + 2, 0, none⟩) ns.length ns.length] := (hold.block _ HV.out.vst.fst.lt HV.out.b6p).trans HV.out.vst.fst
          have c6 : V.cell? ⟨w1.heap.size, 0, none⟩ = some (.slice (some ⟨w.heap.size + 2, 0, none⟩) ns.length ns.length) := b6.cell 0
          have bF : Blk V (w.heap.size + 2) 3 (arr.map (Value.int .i64)).toArray := (hold.block _ HV.out.vst.ablk.lt HV.out.fbp).trans HV.out.vst.ablk
          have HPB := Lib.hid hpb
          have HBR := Lib.hid bR
          have HBF := Lib.hid bF
          have HO := Lib.hid hold
          have HRUN := Lib.hid hr
          clear hpb bR bF hold hr b0 b2 b6
          by_cases hx1 : x2 < 0
          · have hxn : runK arr a [(x1, x2)] = none := by simp only [runK]; rw [if_pos (.inl hx1)]
            have HX := Lib.hid hxn
            clear hxn
            dsimp only
            gi_wp2
            refine ⟨trivial, (CallsIn.inRound l ((callsIn_wide (n := 2)).2 (fault_ret _ (k : Int) H0 _ c0))).mono ?_⟩
            rintro e w' ⟨rfl, hb⟩
            have hrl := HBR.out.lt
            have s0' := cell_later hb s0
            have s1' := cell_later hb s1
            have sf0' := frozen_later hb hrl sf0
            have sf1' := frozen_later hb hrl sf1
            have hrl' := lt_later hb hrl
            have HB := Lib.hid hb
            clear hb
            gi_wp2
            exact rx_mk HO.out HV.out.rl HB.out HBR.out HRUN.out (HX.out)
          by_cases hx2 : ¬ x2 = a - 1
          · have hxn : runK arr a [(x1, x2)] = none := by simp only [runK]; rw [if_pos (.inr hx2)]
            have HX := Lib.hid hxn
            have hx2a : (x2 == a - 1) = false := by simpa using hx2
            have hx2b : (x2 != a - 1) = true := by simpa using hx2
            clear hxn
            dsimp only
            gi_wp2
            refine ⟨trivial, (CallsIn.inRound l ((callsIn_wide (n := 2)).2 (fault_ret _ (k : Int) H0 _ c0))).mono ?_⟩
            rintro e w' ⟨rfl, hb⟩
            have hrl := HBR.out.lt
            have s0' := cell_later hb s0
            have s1' := cell_later hb s1
            have sf0' := frozen_later hb hrl sf0
            have sf1' := frozen_later hb hrl sf1
            have hrl' := lt_later hb hrl
            have HB := Lib.hid hb
            clear hb
            gi_wp2
            exact rx_mk HO.out HV.out.rl HB.out HBR.out HRUN.out (HX.out)
          have hx2' : x2 = a - 1 := by omega
          clear hx2
          obtain ⟨j, rfl⟩ : ∃ j : Nat, x2 = (j : Int) := ⟨x2.toNat, by omega⟩
          have hjl : j < arr.length := by rw [HV.out.vst.alen]; omega
          obtain ⟨y, hy⟩ : ∃ y, arr[j]? = some y := ⟨_, List.getElem?_eq_getElem hjl⟩
          have hxn : runK arr a [(x1, (j : Int))] = some y := by simp only [runK]; rw [if_neg (by omega), Int.toNat_natCast, hy]; rfl
          have cj : V.cell? ⟨w.heap.size + 2, j, none⟩ = some (.int .i64 y) := by rw [HBF.out.cell j]; simp [hy]
          have hjn : (j : Int) < (ns.length : Int) := by have := HV.out.vst.alen; omega
          have hj0 : (0 : Int) ≤ (j : Int) := Int.natCast_nonneg j
          have HX := Lib.hid hxn
          have hx2a : ((j : Int) == a - 1) = true := by simpa using hx2'
          have hx2b : ((j : Int) != a - 1) = false := by simpa using hx2'
          have HX2 := Lib.hid hx2'
          clear hxn hy hjl hx2'
          dsimp only
          gi_wp2
          exact ri_mk HO.out hpl HPB.out HRUN.out HX.out
        case done =>
          rintro D ys V hD rfl ⟨a, hr, hpb, hold, hpl⟩ hK
          obtain ⟨s, r, rfl, hs1, hs2, hs3⟩ := HSTEP.out.2 a hr
          have cPB : V.cell? ⟨PB, 0, none⟩ = some (.int .i64 (s : Int)) := hpb.cell 0
          have b0 : Blk V H0 3 #[.int .i64 (k : Int)] := (hold.block H0 HV.out.b0.lt HV.out.h0p).trans HV.out.b0
          have c0 : V.cell? ⟨H0, 0, none⟩ = some (.int .i64 (k : Int)) := b0.cell 0
          have b6 : Blk V w1.heap.size 48 #[.slice (some ⟨w.heap.size + 2, 0, none⟩) ns.length ns.length] := (hold.block _ HV.out.vst.fst.lt HV.out.b6p).trans HV.out.vst.fst
          have c6 : V.cell? ⟨w1.heap.size, 0, none⟩ = some (.slice (some ⟨w.heap.size + 2, 0, none⟩) ns.length ns.length) := b6.cell 0
          have bF : Blk V (w.heap.size + 2) 3 (arr.map (Value.int .i64)).toArray := (hold.block _ HV.out.vst.ablk.lt HV.out.fbp).trans HV.out.vst.ablk
          obtain ⟨y, hy⟩ : ∃ y, arr[k]? = some y := ⟨_, List.getElem?_eq_getElem (by rw [HV.out.vst.alen]; exact hlt)⟩
          have cj : V.cell? ⟨w.heap.size + 2, k, none⟩ = some (.int .i64 y) := by rw [bF.cell k]; simp [hy]
          have fj := bF.frozen k
          have hn' := vst_next HV.out hold hD hK HN.out hs1 hs2 hs3 hlt
          have HN' := Lib.hid hn'
          clear hr hpb hold hK b0 b6 bF hy hs1 hs2 hn'
          go_wp2_with fail
          exact ⟨⟨_, _, _, _, _, _, _, _, _, _, _, _, _, _, _, _, _, _, _, _, _, _, _, _, _, _, _, _, _, _, _, _, _, _, _, _, _, _, _, _, _, _, _, _, _, _, _, _, _, _, _, _, _, _, _, _, _, _, _, _, _, _, _, _, _, _, _, _, _, _, _, _, _, _, markOf D :: Ds.map markOf, ⟨k + 1, s :: r, arr.set k (s : Int), D :: Ds, by go_num, by omega, rfl, HN'.out⟩, rfl⟩, by simp [intOf]; omega⟩
        case stop =>
          rintro D c pre V hD ⟨j, hj, rfl⟩ ⟨rfl, hr, hbR, hold⟩ hK
          have hnone : runK arr k (upto (backF n.kids) n.kids.length) = none := by
            obtain ⟨q, hq⟩ := upto_split (backF n.kids) hj
            rw [hq, runK_append, hr]
            rfl
          have hnv := not_valid_step HP.out.chk HN.out (HSTEP.out.1 hnone)
          have hex := stop_exit HV.out hold hD hK hbR hnv hl2
          have HEX := Lib.hid hex
          clear hex hnone hnv hr hbR hold hK
          gi_wp2
          exact HEX.out _ rfl
      · have hk6a : (n.kind == 2) = false := by simpa using hk6
        clear hk6 hk4 hk5
        go_wp2_with fail
        go_quiet ((go_at_call 48; exact Calls.quiet_of_same (HCA.out _)))
        have gW2 := GW.out.drewN nq
        generalize W.drewN nq = W2 at gW2 ⊢
        have d0W : W2.cell? ⟨H0, 0, none⟩ = some (.int .i64 (k : Int)) := gW2.b0.cell 0
        have m0W : W2.cell? ⟨H1, 0, none⟩ = some (.int .i64 n.kind) := gW2.b1.cell 0
        have m1W : W2.cell? ⟨H1, 1, none⟩ = some (.slice A2 n.kids.length c2) := gW2.b1.cell 1
        have m2W : W2.cell? ⟨H1, 2, none⟩ = some (.int .i64 n.fact) := gW2.b1.cell 2
        have hl0 : H0 < W2.heap.size := gW2.b0.lt
        have hl1' : H1 < W2.heap.size := gW2.b1.lt
        have GW2 := Lib.hid gW2
        clear gW2 c0W n0W n1W n2W fW hWs
        go_wp2_with fail
        refine ((callsIn_wide (n := 0)).1 (back_in Fence.wide 0 trivial rfl _ _ _ _)).mono ?_
        rintro e w' ⟨rfl, rfl⟩
        go_wp2_with fail
        have hV := vst0_mk HP.out GW2.out HR.out HIW.out hB
        have HV := Lib.hid hV
        clear hV
        generalize (W2.alloc (.cells #[.int .i64 (k : Int)] 3)).alloc (.cells #[.slice A2 n.kids.length c2] 48) = V0 at HV ⊢
        generalize W2.heap.size + 1 = SB at HV ⊢
        obtain ⟨PB, hPB⟩ : ∃ PB, W2.heap.size = PB := ⟨_, rfl⟩
        rw [hPB] at HV ⊢
        clear d0W m0W m1W m2W hl0 hl1' hPB r0 r1 rf0 rf1 hrl
        refine (wpIn_wide (n := 5)).1 ?_
        have hsb := HV.out.sb
        refine wpIn_rangeFunc_ownG rfl (by omega) (gf := 54) (lb := #[.pointer (some ⟨SB, 0, none⟩)]) rfl trivial (enters_of Try.func54 (by kernel_rfl) rfl)
          (back_stops Fence.wide 4 trivial rfl (by omega) SB B c2 A2 n.kids hle (fun g => g < V0.heap.size ∧ g ≠ PB) HV.out.keepB ⟨HV.out.sbl, HV.out.sbp⟩ V0 HV.out.sbl HV.out.bl (hsb.cell 0) HV.out.ints)
          (fun h g => KeepsIn.trans h g) (keepsIn_b _) (Below.refl _ _) (fun _ => rfl)
          (RI arr k PB V0) (RX arr k PB R V0) (ri_own _ _ _ _) (rx_own _ _ _ _ _ HV.out.rl) (ri_start HV.out) ?a12 ?assign2 ?body2 ?done2 ?stop2
        case assign2 =>
          intro l x V K hK
          gi_wp2
          exact hK
        case body2 =>
          rintro l pre ⟨x1, x2⟩ V ⟨a, hr, hpb, hold, hpl⟩ hlen
          have hra := runK_le HV.out.vst.abd _ _ _ (Int.natCast_nonneg k) (Int.le_refl _) hr
          obtain ⟨ha0, hak⟩ := hra
          have cPB : V.cell? ⟨PB, 0, none⟩ = some (.int .i64 a) := hpb.cell 0
          have fPB := hpb.frozen 0
          have bR : Blk V R 45 #[.int .i64 0, .int .i64 0] := (hold.block R HV.out.rl HV.out.rp).trans (by have := HV.out.vst.res; rw [HV.out.hR] at this; exact this)
          have s0 : V.cell? ⟨R, 0, none⟩ = some (.int .i64 0) := bR.cell 0
          have s1 : V.cell? ⟨R, 1, none⟩ = some (.int .i64 0) := bR.cell 1
          have sf0 := bR.frozen 0
          have sf1 := bR.frozen 1
          have b0 : Blk V H0 3 #[.int .i64 (k : Int)] := (hold.block H0 HV.out.b0.lt HV.out.h0p).trans HV.out.b0
          have c0 : V.cell? ⟨H0, 0, none⟩ = some (.int .i64 (k : Int)) := b0.cell 0
          have b2 : Blk V H2 61 #[.func (.func 47) #[] #[.pointer (some ⟨H0, 0, none⟩)]] := (hold.block H2 HV.out.b2.lt HV.out.h2p).trans HV.out.b2
          have f2 : V.cell? ⟨H2, 0, none⟩ = some (.func (.func 47) #[] #[.pointer (some ⟨H0, 0, none⟩)]) := b2.cell 0
          have b6 : Blk V w1.heap.size 48 #[.slice (some ⟨w.heap.size + 2, 0, none⟩) ns.length ns.length] := (hold.block _ HV.out.vst.fst.lt HV.out.b6p).trans HV.out.vst.fst
          have c6 : V.cell? ⟨w1.heap.size, 0, none⟩ = some (.slice (some ⟨w.heap.size + 2, 0, none⟩) ns.length ns.length) := b6.cell 0
          have bF : Blk V (w.heap.size + 2) 3 (arr.map (Value.int .i64)).toArray := (hold.block _ HV.out.vst.ablk.lt HV.out.fbp).trans HV.out.vst.ablk
          have HPB := Lib.hid hpb
          have HBR := Lib.hid bR
          have HBF := Lib.hid bF
          have HO := Lib.hid hold
          have HRUN := Lib.hid hr
          clear hpb bR bF hold hr b0 b2 b6
          by_cases hx1 : x2 < 0
          · have hxn : runK arr a [(x1, x2)] = none := by simp only [runK]; rw [if_pos (.inl hx1)]
            have HX := Lib.hid hxn
            clear hxn
            dsimp only
            gi_wp2
            refine ⟨trivial, (CallsIn.inRound l ((callsIn_wide (n := 2)).2 (fault_ret _ (k : Int) H0 _ c0))).mono ?_⟩
            rintro e w' ⟨rfl, hb⟩
            have hrl := HBR.out.lt
            have s0' := cell_later hb s0
            have s1' := cell_later hb s1
            have sf0' := frozen_later hb hrl sf0
            have sf1' := frozen_later hb hrl sf1
            have hrl' := lt_later hb hrl
            have HB := Lib.hid hb
            clear hb
            gi_wp2
            exact rx_mk HO.out HV.out.rl HB.out HBR.out HRUN.out (HX.out)
          by_cases hx2 : ¬ x2 = a - 1
          · have hxn : runK arr a [(x1, x2)] = none := by simp only [runK]; rw [if_pos (.inr hx2)]
            have HX := Lib.hid hxn
            have hx2a : (x2 == a - 1) = false := by simpa using hx2
            have hx2b : (x2 != a - 1) = true := by simpa using hx2
            clear hxn
            dsimp only
            gi_wp2
            refine ⟨trivial, (CallsIn.inRound l ((callsIn_wide (n := 2)).2 (fault_ret _ (k : Int) H0 _ c0))).mono ?_⟩
            rintro e w' ⟨rfl, hb⟩
            have hrl := HBR.out.lt
            have s0' := cell_later hb s0
            have s1' := cell_later hb s1
            have sf0' := frozen_later hb hrl sf0
            have sf1' := frozen_later hb hrl sf1
            have hrl' := lt_later hb hrl
            have HB := Lib.hid hb
            clear hb
            gi_wp2
            exact rx_mk HO.out HV.out.rl HB.out HBR.out HRUN.out (HX.out)
          have hx2' : x2 = a - 1 := by omega
          clear hx2
          obtain ⟨j, rfl⟩ : ∃ j : Nat, x2 = (j : Int) := ⟨x2.toNat, by omega⟩
          have hjl : j < arr.length := by rw [HV.out.vst.alen]; omega
          obtain ⟨y, hy⟩ : ∃ y, arr[j]? = some y := ⟨_, List.getElem?_eq_getElem hjl⟩
          have hxn : runK arr a [(x1, (j : Int))] = some y := by simp only [runK]; rw [if_neg (by omega), Int.toNat_natCast, hy]; rfl
          have cj : V.cell? ⟨w.heap.size + 2, j, none⟩ = some (.int .i64 y) := by rw [HBF.out.cell j]; simp [hy]
          have hjn : (j : Int) < (ns.length : Int) := by have := HV.out.vst.alen; omega
          have hj0 : (0 : Int) ≤ (j : Int) := Int.natCast_nonneg j
          have HX := Lib.hid hxn
          have hx2a : ((j : Int) == a - 1) = true := by simpa using hx2'
          have hx2b : ((j : Int) != a - 1) = false := by simpa using hx2'
          have HX2 := Lib.hid hx2'
          clear hxn hy hjl hx2'
          dsimp only
          gi_wp2
          exact ri_mk HO.out hpl HPB.out HRUN.out HX.out
        case done2 =>
          rintro D ys V hD rfl ⟨a, hr, hpb, hold, hpl⟩ hK
          obtain ⟨s, r, rfl, hs1, hs2, hs3⟩ := HSTEP.out.2 a hr
          have cPB : V.cell? ⟨PB, 0, none⟩ = some (.int .i64 (s : Int)) := hpb.cell 0
          have b0 : Blk V H0 3 #[.int .i64 (k : Int)] := (hold.block H0 HV.out.b0.lt HV.out.h0p).trans HV.out.b0
          have c0 : V.cell? ⟨H0, 0, none⟩ = some (.int .i64 (k : Int)) := b0.cell 0
          have b6 : Blk V w1.heap.size 48 #[.slice (some ⟨w.heap.size + 2, 0, none⟩) ns.length ns.length] := (hold.block _ HV.out.vst.fst.lt HV.out.b6p).trans HV.out.vst.fst
          have c6 : V.cell? ⟨w1.heap.size, 0, none⟩ = some (.slice (some ⟨w.heap.size + 2, 0, none⟩) ns.length ns.length) := b6.cell 0
          have bF : Blk V (w.heap.size + 2) 3 (arr.map (Value.int .i64)).toArray := (hold.block _ HV.out.vst.ablk.lt HV.out.fbp).trans HV.out.vst.ablk
          obtain ⟨y, hy⟩ : ∃ y, arr[k]? = some y := ⟨_, List.getElem?_eq_getElem (by rw [HV.out.vst.alen]; exact hlt)⟩
          have cj : V.cell? ⟨w.heap.size + 2, k, none⟩ = some (.int .i64 y) := by rw [bF.cell k]; simp [hy]
          have fj := bF.frozen k
          have hn' := vst_next HV.out hold hD hK HN.out hs1 hs2 hs3 hlt
          have HN' := Lib.hid hn'
          clear hr hpb hold hK b0 b6 bF hy hs1 hs2 hn'
          go_wp2_with fail
          exact ⟨⟨_, _, _, _, _, _, _, _, _, _, _, _, _, _, _, _, _, _, _, _, _, _, _, _, _, _, _, _, _, _, _, _, _, _, _, _, _, _, _, _, _, _, _, _, _, _, _, _, _, _, _, _, _, _, _, _, _, _, _, _, _, _, _, _, _, _, _, _, _, _, _, _, _, _, markOf D :: Ds.map markOf, ⟨k + 1, s :: r, arr.set k (s : Int), D :: Ds, by go_num, by omega, rfl, HN'.out⟩, rfl⟩, by simp [intOf]; omega⟩
        case stop2 =>
          rintro D c pre V hD ⟨j, hj, rfl⟩ ⟨rfl, hr, hbR, hold⟩ hK
          have hnone : runK arr k (upto (backF n.kids) n.kids.length) = none := by
            obtain ⟨q, hq⟩ := upto_split (backF n.kids) hj
            rw [hq, runK_append, hr]
            rfl
          have hnv := not_valid_step HP.out.chk HN.out (HSTEP.out.1 hnone)
          have hex := stop_exit HV.out hold hD hK hbR hnv hl2
          have HEX := Lib.hid hex
          clear hex hnone hnv hr hbR hold hK
          gi_wp2
          exact HEX.out _ rfl
    · have hkk : k = ns.length := by omega
      subst hkk
      cases st with
      | nil => exact absurd hP.stk (by show ¬ ns.length = 0; omega)
      | cons s r =>
        have hres := hP.res
        rw [HR.out] at hres
        have hrl := hres.lt
        have r0 : wr.cell? ⟨R, 0, none⟩ = some (.int .i64 0) := hres.cell 0
        have r1 : wr.cell? ⟨R, 1, none⟩ = some (.int .i64 0) := hres.cell 1
        have rf0 := hres.frozen 0
        have rf1 := hres.frozen 1
        have c6 : wr.cell? ⟨w1.heap.size, 0, none⟩ = some (.slice (some ⟨w.heap.size + 2, 0, none⟩) ns.length ns.length) := hP.fst.cell 0
        have g2 := hP.stk.2.1
        have cm : wr.cell? ⟨w.heap.size + 2, ns.length - 1, none⟩ = some (.int .i64 (s : Int)) := by rw [hP.ablk.cell (ns.length - 1)]; simp [g2]
        have hm0 : (0 : Int) ≤ (ns.length : Int) - 1 := by omega
        have hml : (ns.length : Int) - 1 < (ns.length : Int) := by omega
        have hmt : ((ns.length : Int) - 1).toNat = ns.length - 1 := by omega
        have HP := Lib.hid hP
        clear hP hres g2
        by_cases hs0 : s = 0
        · subst hs0
          go_wp2_with fail
          exact last_ok HP.out HR.out rfl h0 h1 hl1 hl2
        · have hsb : ((s : Int) == 0) = false := by rw [beq_eq_false_iff_ne]; omega
          have hsc : ((s : Int) != 0) = true := by rw [bne_iff_ne]; omega
          go_wp2_with fail
          exact last_bad HP.out HR.out rfl hs0 hl2

theorem validate_any (facts : Int) (ns : List Nd) (v : Value) (w : World) (B : Nat) (hN : NodesAt w B v ns) (hB : B ≤ w.heap.size) : Calls Try.prog 42 #[.agg #[v], .int .i64 facts] w (ValPost facts ns w) := by
  obtain ⟨A, c, rfl, _, _, _⟩ := hN.form
  by_cases h0 : 0 ≤ facts ∧ facts ≤ 24
  · by_cases hl : 0 < ns.length ∧ ns.length ≤ 60
    · exact val_main facts ns A c w B h0.1 h0.2 hl.1 hl.2 hN hB
    · exact val_many facts ns A c w h0.1 h0.2 (by omega)
  · exact val_range facts ns A c w (by omega)
end Go.Proofs.Ytdfbclkafocnpaa
