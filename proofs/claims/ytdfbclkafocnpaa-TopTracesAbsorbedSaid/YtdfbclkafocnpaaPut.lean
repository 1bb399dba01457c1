/- wPut: one of the nodes of a tree is overwritten by a rewriting that says the same: for every rewriting with a contract and every tree that lies in memory. -/
import Derived.Test.YtdfbclkafocnpaaForms
import Derived.Test.YtdfbclkafocnpaaSet
import Derived.Test.YtdfbclkafocnpaaSame
import Derived.Laws.EntriesVeiled
import Derived.Deep.Cut
import Derived.Shelf.Abstract
namespace Go.Proofs.Ytdfbclkafocnpaa
open Go.RowKit

theorem LT.subst_size {x : Nat} {X : LT} (L : LT) : (L.subst x X).tr.size ≤ L.tr.size * X.tr.size := by
  have hp := X.tr.size_pos
  induction L with
  | n0 b k f v =>
    simp only [LT.subst]
    split
    · simp [LT.tr, Tr.size]
    · simp [LT.tr, Tr.size]; omega
  | n1 b k f v a ih =>
    simp only [LT.subst]
    split
    · simp only [LT.tr, Tr.size]; exact Nat.le_mul_of_pos_left _ (by omega)
    · simp only [LT.tr, Tr.size, Nat.add_mul]; omega
  | n2 b k f v a c ih ih' =>
    simp only [LT.subst]
    split
    · simp only [LT.tr, Tr.size]; exact Nat.le_mul_of_pos_left _ (by omega)
    · simp only [LT.tr, Tr.size, Nat.add_mul]; omega

theorem LT.sub_size {L a : LT} (h : a ∈ L.sub) : a.tr.size ≤ L.tr.size := by
  induction L with
  | n0 => simp [LT.sub] at h; subst h; exact Nat.le_refl _
  | n1 _ _ _ _ _ ih =>
    simp only [LT.sub, List.mem_cons] at h
    rcases h with rfl | h
    · exact Nat.le_refl _
    · have := ih h; simp only [LT.tr, Tr.size]; omega
  | n2 _ _ _ _ _ _ ih ih' =>
    simp only [LT.sub, List.mem_cons, List.mem_append] at h
    rcases h with rfl | h | h
    · exact Nat.le_refl _
    · have := ih h; simp only [LT.tr, Tr.size]; omega
    · have := ih' h; simp only [LT.tr, Tr.size]; omega

/-- What a rewriting returns: nil, or a tree that says the same; it writes only from lo on. -/
def ByPost (facts : Int) (app : Tr → Bool) (L : LT) (lo : Nat) (w : World) (e : Ending) (w' : World) : Prop :=
  Below lo w w' ∧ ((app L.tr = false ∧ e = .returned (.pointer none)) ∨
    (app L.tr = true ∧ ∃ X : LT, e = .returned (.pointer (some ⟨X.blk, 0, none⟩)) ∧ Same X.tr L.tr ∧ X.tr.ok facts ∧ X.tr.size ≤ 3 * L.tr.size + 200 ∧ X.In w' 38 29 lo w'.heap.size))

/-- The rewriting kf with what it captured: it rewrites every tree of its own. -/
structure ByOk (facts : Int) (app : Tr → Bool) (kf : Nat) (caps : Array Value) (B : Nat) (w0 : World) : Prop where
  ent : Enters Try.prog kf
  run : ∀ (L : LT) (w : World) (lo : Nat), Below B w0 w → B ≤ lo → L.In w 38 29 lo w.heap.size → L.tr.ok facts → L.tr.size ≤ 60 →
    Calls Try.prog kf (#[.pointer (some ⟨L.blk, 0, none⟩)] ++ caps) w (ByPost facts app L lo w)

theorem ByOk.no {facts : Int} {app : Tr → Bool} {kf : Nat} {caps : Array Value} {B : Nat} {w0 : World} (h : ByOk facts app kf caps B w0) (L : LT) (w : World) (lo : Nat) (T : Tr) (hT : L.tr = T) (hn : app T = false) (hb : Below B w0 w) (hB : B ≤ lo) (hL : L.In w 38 29 lo w.heap.size) (hok : T.ok facts) (h60 : T.size ≤ 60) :
    Calls Try.prog kf (#[.pointer (some ⟨L.blk, 0, none⟩)] ++ caps) w fun e w' => e = .returned (.pointer none) ∧ Below lo w w' := by
  subst hT
  refine (h.run L w lo hb hB hL hok h60).mono ?_
  rintro e w' ⟨h1, ⟨_, h2⟩ | ⟨h2, _⟩⟩
  · exact ⟨h2, h1⟩
  · rw [hn] at h2; cases h2
def ByYes (facts : Int) (T : Tr) (lo : Nat) (w : World) (e : Ending) (w' : World) : Prop :=
  ∃ X : LT, e = .returned (.pointer (some ⟨X.blk, 0, none⟩)) ∧ Same X.tr T ∧ X.tr.ok facts ∧ X.tr.size ≤ 3 * T.size + 200 ∧ X.In w' 38 29 lo w'.heap.size ∧ Below lo w w'
theorem ByOk.yes {facts : Int} {app : Tr → Bool} {kf : Nat} {caps : Array Value} {B : Nat} {w0 : World} (h : ByOk facts app kf caps B w0) (L : LT) (w : World) (lo : Nat) (T : Tr) (hT : L.tr = T) (hn : app T = true) (hb : Below B w0 w) (hB : B ≤ lo) (hL : L.In w 38 29 lo w.heap.size) (hok : T.ok facts) (h60 : T.size ≤ 60) :
    Calls Try.prog kf (#[.pointer (some ⟨L.blk, 0, none⟩)] ++ caps) w (ByYes facts T lo w) := by
  subst hT
  refine (h.run L w lo hb hB hL hok h60).mono ?_
  rintro e w' ⟨h1, ⟨h2, _⟩ | ⟨_, X, h3, h4, h5, h6, h7⟩⟩
  · rw [hn] at h2; cases h2
  · exact ⟨X, h3, h4, h5, h6, h7, h1⟩

/-- What a change of a tree in place returns: whether there was a place; the tree says the same. -/
def ChangePost (facts : Int) (L : LT) (lo : Nat) (w : World) (e : Ending) (w' : World) : Prop :=
  Below lo w w' ∧ (e = .returned (.bool false) ∨ (e = .returned (.bool true) ∧ ∃ X : LT, X.blk = L.blk ∧ Same X.tr L.tr ∧ X.tr.ok facts ∧ X.tr.size ≤ 100000 ∧ X.In w' 38 29 lo w'.heap.size))


/-- One node is overwritten by what a rewriting returned. -/
theorem put_done {facts : Int} {L z X : LT} {w W0 w3 : World} {lo : Nat} {v : Value} {cs : Array Value} (hL : L.In w 38 29 lo w.heap.size) (hok : L.tr.ok facts) (h60 : L.tr.size ≤ 60) (hbr : Below w.heap.size w W0) (hb13 : Below W0.heap.size W0 w3) (hz : z ∈ L.sub)
    (hzb : Blk W0 z.blk 38 cs) (hSX : Same X.tr z.tr) (hokX : X.tr.ok facts) (hszX : X.tr.size ≤ 3 * z.tr.size + 200) (hX : X.In w3 38 29 W0.heap.size w3.heap.size) (hv : X.kidsV = v) (hcs : cs.size = 3) :
    ChangePost facts L lo w (.returned (.bool true)) (((w3.setCell ⟨z.blk, 0, none⟩ (.int .i64 X.tr.kind)).setCell ⟨z.blk, 1, none⟩ (.int .i64 X.tr.fact)).setCell ⟨z.blk, 2, none⟩ v) := by
  have hz60 : z.tr.size ≤ 60 := Nat.le_trans (LT.sub_size hz) h60
  have hz0 := hL.sub hz
  have hzl : z.blk < W0.heap.size := hzb.lt
  have hzlo : lo ≤ z.blk := hz0.node.1
  have hzlt : z.blk < w.heap.size := hz0.node.2.1
  have hb3 : Below w.heap.size w w3 := hbr.trans (hb13.mono hbr.size)
  have hLo := hL.le
  have hzb3 : Blk w3 z.blk 38 cs := hzb.below hb13 hzl
  have hfar : ∀ g, g ≠ z.blk → ((((w3.setCell ⟨z.blk, 0, none⟩ (.int .i64 X.tr.kind)).setCell ⟨z.blk, 1, none⟩ (.int .i64 X.tr.fact)).setCell ⟨z.blk, 2, none⟩ v)).heap[g]? = w3.heap[g]? := fun g hg =>
    (Below.heap_setCell _ ⟨z.blk, 2, none⟩ _ g hg).trans ((Below.heap_setCell _ ⟨z.blk, 1, none⟩ _ g hg).trans (Below.heap_setCell _ ⟨z.blk, 0, none⟩ _ g hg))
  have hb4 : Below lo w (((w3.setCell ⟨z.blk, 0, none⟩ (.int .i64 X.tr.kind)).setCell ⟨z.blk, 1, none⟩ (.int .i64 X.tr.fact)).setCell ⟨z.blk, 2, none⟩ v) :=
    Below.setCell (p := ⟨z.blk, 2, none⟩) (Below.setCell (p := ⟨z.blk, 1, none⟩) (Below.setCell (p := ⟨z.blk, 0, none⟩) (hb3.mono hLo) hzlo _) hzlo _) hzlo _
  have hblk : Blk (((w3.setCell ⟨z.blk, 0, none⟩ (.int .i64 X.tr.kind)).setCell ⟨z.blk, 1, none⟩ (.int .i64 X.tr.fact)).setCell ⟨z.blk, 2, none⟩ v) z.blk 38 #[.int .i64 X.tr.kind, .int .i64 X.tr.fact, X.kidsV] := by
    have := ((hzb3.set_ 0 (.int .i64 X.tr.kind)).set_ 1 (.int .i64 X.tr.fact)).set_ 2 v
    rw [hv]
    match cs, hcs with
    | ⟨[c0, c1, c2]⟩, _ => exact this
  have hsz : (((w3.setCell ⟨z.blk, 0, none⟩ (.int .i64 X.tr.kind)).setCell ⟨z.blk, 1, none⟩ (.int .i64 X.tr.fact)).setCell ⟨z.blk, 2, none⟩ v).heap.size = w3.heap.size := by simp
  generalize (((w3.setCell ⟨z.blk, 0, none⟩ (.int .i64 X.tr.kind)).setCell ⟨z.blk, 1, none⟩ (.int .i64 X.tr.fact)).setCell ⟨z.blk, 2, none⟩ v) = w4 at *
  have hlW : lo ≤ W0.heap.size := by omega
  have hXn := hX.node
  have hX' : (LT.mk z.blk X.tr.kind X.tr.fact X.kidsV X.kids).In w4 38 29 lo w4.heap.size := by
    refine LT.In.mk ⟨hzlo, hblk.lt, hblk, ?_⟩ (fun a ha => ?_) X.kids_le
    · refine (hXn.2.2.2.same fun g hg => hfar g ?_).mono hlW (by rw [hsz]; exact Nat.le_refl _)
      have := (hXn.2.2.2.1.lt g hg).1
      omega
    · exact ((hX.kid ha).keep fun g h1 h2 => hfar g (by omega)).mono hlW (by rw [hsz]; exact Nat.le_refl _)
  have htr : (LT.mk z.blk X.tr.kind X.tr.fact X.kidsV X.kids).tr = X.tr := by rw [LT.mk_tr, LT.tr_mk]
  have hbk : (LT.mk z.blk X.tr.kind X.tr.fact X.kidsV X.kids).blk = z.blk := LT.mk_blk _ _ _ _ _
  generalize LT.mk z.blk X.tr.kind X.tr.fact X.kidsV X.kids = Y at *
  refine ⟨hb4, .inr ⟨rfl, L.subst z.blk Y, LT.subst_blk hbk L, LT.same_subst hL hz0 (by rw [htr]; exact hSX), LT.ok_subst hok (by rw [htr]; exact hokX), ?_, ?_⟩⟩
  · refine Nat.le_trans (LT.subst_size L) ?_
    rw [htr]
    exact Nat.le_trans (Nat.mul_le_mul h60 (Nat.le_trans hszX (by omega : 3 * z.tr.size + 200 ≤ 380))) (by decide)
  · exact LT.In.subst (hL.below hb3 (Nat.le_refl _)) hzb3 (by decide) hbk hX' (Nat.le_refl _) (by rw [hsz]; exact hb3.size) (fun g o hg ho => (hfar g hg).trans ho)

/-- The loop over all nodes: some of those for which there is a rewriting are gathered. -/
def PutRel (app : Tr → Bool) (L : LT) (w : World) (B : Nat) (v i : Value) (wr : World) : Prop :=
  ∃ (k : Nat) (zs : List LT), i = .int .i64 k ∧ k ≤ L.tr.size ∧ zs.length ≤ k ∧ (∀ z ∈ zs, z ∈ L.sub ∧ app z.tr = true) ∧ wr.ownsRow B 29 1 v zs.length (zs.map LT.ptr) ∧ Below B w wr

set_option maxHeartbeats 20000000 in
set_option maxRecDepth 20000 in
theorem put_any (facts : Int) (app : Tr → Bool) (kf : Nat) (caps : Array Value) (L : LT) (w : World) (lo tb wb : Nat) (x : Int) (hL : L.In w 38 29 lo w.heap.size) (hok : L.tr.ok facts) (h60 : L.tr.size ≤ 60)
    (htb : Blk w tb 30 #[.func (.func kf) #[] caps]) (hwb : Blk w wb 3 #[.int .i64 x]) (hby : ByOk facts app kf caps w.heap.size w) :
    Calls Try.prog 44 #[.pointer (some ⟨L.blk, 0, none⟩), .pointer (some ⟨tb, 0, none⟩), .pointer (some ⟨wb, 0, none⟩)] w (ChangePost facts L lo w) := by
  obtain ⟨i0, hi0, hz0, hz1, hz2⟩ := info_parts Try.info29
  have htbl := htb.lt
  have hwbl := hwb.lt
  have ctb : w.cell? ⟨tb, 0, none⟩ = some (.func (.func kf) #[] caps) := htb.cell 0
  have cwb : w.cell? ⟨wb, 0, none⟩ = some (.int .i64 x) := hwb.cell 0
  have hLo := hL.le
  have hL1 : ∀ o, L.In (w.alloc o) 38 29 lo w.heap.size := fun o => hL.below ((Below.refl _ w).alloc (Nat.le_refl _) o) (Nat.le_refl _)
  have hC0 : Coll w.heap.size (.slice none 0 0) [] (w.alloc (.cells #[.slice none 0 0] 33)) (w.alloc (.cells #[.slice none 0 0] 33)) := ⟨Blk.new _ _ _, World.ownsRow_nil _ _ _ _, Below.refl _ _⟩
  have hszz : ([] : List Value).length + L.tr.size ≤ 1000000 := by simp; omega
  go_enter Try.func44, Try.ntmps44
  go_wp2_with (go_at_call 26; refine (forms_any _ L _ lo w.heap.size _ [] (Nat.le_refl _) (hL1 _) hC0 hszz).mono ?_; rintro e w1 ⟨⟨r, rfl⟩, av, hA⟩; rw [List.nil_append] at hA; have hR := (Row.of_own hA.own (Nat.le_refl _)); obtain ⟨Aa, ca, rfl, hc1, hc2, hcell⟩ := hR.form; have cAll := hA.blk.cell 0)
  simp only [List.length_map, LT.sub_length] at *
  have hbw : Below w.heap.size w w1 := ((Below.refl _ w).alloc (Nat.le_refl _) _).trans hA.below
  have HC := Lib.hid hcell
  have HA := Lib.hid hA
  have HB := Lib.hid hby
  have hent : ∀ (args : Array Value) (w : World), (callFunc kf args).run Try.prog w = .ok (.enter kf args) w := hby.ent
  clear hcell hA hby hR hC0 hL1
  go_loopw [6, 14] (PutRel app L w1 w1.heap.size) (fun _ i _ => L.tr.size - (intOf i).toNat)
  case atStart => exact ⟨0, [], rfl, Nat.zero_le _, Nat.le_refl _, by simp, World.ownsRow_nil _ _ _ _, Below.refl _ _⟩
  case round =>
    obtain ⟨k, zs, rfl, hk, hzk, hzs, hown, hb⟩ := hrel
    have hbr : Below w.heap.size w wr := hbw.trans (hb.mono hbw.size)
    have HZ := Lib.hid hzs
    clear hzs
    obtain ⟨As, cs, rfl⟩ := own_form hown
    have hb63 : zs.length + 1 ≤ maxLen := by unfold maxLen; omega
    have hbby : (zs.length + 1) * 8 ≤ 140737488355328 := by omega
    by_cases hlt : k < L.tr.size
    · have hlt' : k < L.sub.length := by rw [LT.sub_length]; exact hlt
      obtain ⟨g, rfl, g1, g2, g3, g4, g5⟩ := HC.out k (L.sub[k]).ptr (by simp [hlt'])
      have hzin : (L.sub[k]).In wr.drew 38 29 lo w.heap.size := ((hL.sub (List.getElem_mem hlt')).below hbr (Nat.le_refl _)).drew
      have hzok : (L.sub[k]).tr.ok facts := LT.ok_sub hok (List.getElem_mem hlt')
      have hz60 : (L.sub[k]).tr.size ≤ 60 := Nat.le_trans (LT.sub_size (List.getElem_mem hlt')) h60
      rw [LT.ptr] at g4
      have c5 : wr.cell? ⟨g, k, none⟩ = some (.pointer (some ⟨(L.sub[k]).blk, 0, none⟩)) := (hb.cell (by exact g3)).trans g4
      have ctbr : wr.drew.cell? ⟨tb, 0, none⟩ = some (.func (.func kf) #[] caps) := (hbr.cell (by exact htbl)).trans ctb
      have hszr : w.heap.size ≤ wr.drew.heap.size := hbr.size
      have hbrd : Below w.heap.size w wr.drew := hbr.drew
      have happ0 : ∀ b : Bool, app (L.sub[k]).tr = b → app (L.sub[k]).tr = b := fun _ h => h
      have hszb : w1.heap.size ≤ wr.drew.heap.size := hb.size
      have hownd := hown.drew
      by_cases happ : app (L.sub[k]).tr = true
      · go_wp2_with fail
        go_region_law (first
           | (go_simp; go_at_call 20; refine (same_any _ (L.sub[k]) _ lo w.heap.size (Nat.le_refl _) hzin hszr).mono ?_; rintro e w2 ⟨L', rfl, ht, hL', hb2⟩; have ctb2 := cell_later hb2 ctbr; have hbr2 := hbrd.trans (hb2.mono hszr))
           | (go_simp; refine (HB.out.yes L' w2 wr.drew.heap.size _ ht happ hbr2 hszr hL' hzok hz60).mono ?_; rintro e w3 ⟨X, rfl, _, _, _, _, hb3⟩; have hb13 := hb2.trans hb3))
        all_goals
          have hown3 := own_below hownd hb13
          have hB3 := hb.drew.trans (hb13.mono hszb)
          have hbs := alloc_ge hszb hb13 (.cells #[.pointer (some ⟨(L.sub[k]).blk, 0, none⟩)] 29)
          have hB4 := hB3.alloc (Nat.le_trans hszb hb13.size) (.cells #[.pointer (some ⟨(L.sub[k]).blk, 0, none⟩)] 29)
          have HO3 := Lib.hid hown3
          go_wp2_with (at_builtin; refine wpList_append_lies _ rfl _ _ _ rfl w1.heap.size 29 i0 _ 1 8 Try.underlying33 hi0 hz0 hz1 hz2 rfl (by omega) (.slice As zs.length cs) zs.length (zs.map LT.ptr) rfl (hown3.alloc _) ⟨w3.heap.size, 0, none⟩ 1 1 [.pointer (some ⟨(L.sub[k]).blk, 0, none⟩)] rfl rfl (World.news_of_block (cs := #[.pointer (some ⟨(L.sub[k]).blk, 0, none⟩)]) (t := 29) (fr := (0, 0)) (heap_alloc_new _ _)) (by simp [Value.oneCell']) (by omega) hb63 hbby hbs (w3.heap.size + 1) (by simp) ?_; intro gg cap2 w4 hown4 hgrow hat hlt4)
          go_roundw
          case rel =>
            refine ⟨k + 1, zs ++ [L.sub[k]], by go_num, by omega, by simp; omega, ?_, by simpa [LT.ptr] using hown4, hB4.grown hgrow hbs fun g e => ((HO3.out).lt g e).1⟩
            intro z hz
            rcases List.mem_append.1 hz with hz | hz
            · exact HZ.out z hz
            · simp at hz; subst hz; exact ⟨List.getElem_mem hlt', happ⟩
          case measure => simp [intOf]; omega
      · have happ' : app (L.sub[k]).tr = false := by simpa using happ
        go_wp2_with fail
        go_region_law (first
           | (go_simp; go_at_call 20; refine (same_any _ (L.sub[k]) _ lo w.heap.size (Nat.le_refl _) hzin hszr).mono ?_; rintro e w2 ⟨L', rfl, ht, hL', hb2⟩; have ctb2 := cell_later hb2 ctbr; have hbr2 := hbrd.trans (hb2.mono hszr))
           | (go_simp; refine (HB.out.no L' w2 wr.drew.heap.size _ ht happ' hbr2 hszr hL' hzok hz60).mono ?_; rintro e w3 ⟨rfl, hb3⟩; have hb13 := hb2.trans hb3))
        all_goals
          have hown3 := own_below hownd hb13
          have hB3 := hb.drew.trans (hb13.mono hszb)
          go_wp2_with fail
          go_roundw
          case rel => exact ⟨k + 1, zs, by go_num, by omega, by omega, HZ.out, hown3, hB3⟩
          case measure => simp [intOf]; omega
    · have cwbr : wr.cell? ⟨wb, 0, none⟩ = some (.int .i64 x) := (hbr.cell (by exact hwbl)).trans cwb
      have ctbr : wr.drew.cell? ⟨tb, 0, none⟩ = some (.func (.func kf) #[] caps) := (hbr.cell (by exact htbl)).trans ctb
      have hszr : w.heap.size ≤ wr.drew.heap.size := hbr.size
      have hbrd : Below w.heap.size w wr.drew := hbr.drew
      have hkk : k = L.tr.size := by omega
      subst hkk
      rcases Nat.eq_zero_or_pos zs.length with hzl | hzl
      · have hzl' : (zs.length : Int) = 0 := by omega
        go_wp2_with fail
        go_ret
        exact ⟨hbr.mono hLo, .inl rfl⟩
      · have hown' := hown
        have hzr : Row wr 29 w1.heap.size wr.heap.size (.slice As zs.length cs) (zs.map LT.ptr) := ⟨by simpa using hown', fun g e => (hown'.lt g e).2⟩
        obtain ⟨A2, c2, hv2, hc21, hc22, hzc⟩ := hzr.form
        injection hv2 with hA2 hm2 hc2'
        clear hm2
        subst hA2; subst hc2'
        have HZ2 := Lib.hid hzc
        clear hzc hown'
        clear hown hzr hb63 hbby hc21 hc22
        have hzn : zs.length ≤ 60 := by omega
        have HI : ∀ i, i < zs.length → ∃ g z, As = some ⟨g, 0, none⟩ ∧ g < wr.heap.size ∧ wr.cell? ⟨g, i, none⟩ = some (.pointer (some ⟨z.blk, 0, none⟩)) ∧ z ∈ L.sub ∧ app z.tr = true := by
          intro i hi
          obtain ⟨g, e, q1, q2, q3, q4, q5⟩ := HZ2.out i (zs[i]).ptr (by simp [hi])
          exact ⟨g, zs[i], e, q3, q4, HZ.out _ (List.getElem_mem hi)⟩
        clear HZ2 HZ hzk
        have HI := Lib.hid HI
        generalize zs.length = n at *
        have hnn : ¬ (n : Int) = 0 := by omega
        go_wp2_with (go_at_call 22; refine (pick_any x n hzl (by omega) _).mono ?_; rintro e w' ⟨i, rfl, hi, rfl⟩; obtain ⟨g, z, rfl, q3, q4, hzs, hza⟩ := HI.out i hi)
        have hzin : z.In wr.drew 38 29 lo w.heap.size := ((hL.sub hzs).below hbr (Nat.le_refl _)).drew
        have hzok : z.tr.ok facts := LT.ok_sub hok hzs
        have hz60 : z.tr.size ≤ 60 := Nat.le_trans (LT.sub_size hzs) h60
        obtain ⟨zn1, zn2, zn3, zn4⟩ := hzin.node
        have hzbl : z.blk < wr.drew.heap.size := zn3.lt
        have z0 := zn3.cell 0
        have z1 := zn3.cell 1
        have z2 := zn3.cell 2
        have f0 := zn3.frozen 0
        have f1 := zn3.frozen 1
        have f2 := zn3.frozen 2
        simp at z0 z1 z2
        go_wp2_with fail
        go_region_law (first
           | (go_simp; go_at_call 20; refine (same_any _ z _ lo w.heap.size (Nat.le_refl _) hzin hszr).mono ?_; rintro e w2 ⟨L', rfl, ht, hL', hb2⟩; have ctb2 := cell_later hb2 ctbr; have hbr2 := hbrd.trans (hb2.mono hszr))
           | (go_simp; refine (HB.out.yes L' w2 wr.drew.heap.size _ ht hza hbr2 hszr hL' hzok hz60).mono ?_; rintro e w3 ⟨X, rfl, hSX, hokX, hszX, hX, hb3⟩; have hb13 := hb2.trans hb3; obtain ⟨xn1, xn2, xn3, xn4⟩ := hX.node; have x0 : w3.cell? ⟨X.blk, 0, none⟩ = some (.int .i64 X.tr.kind) := xn3.cell 0; have x1 : w3.cell? ⟨X.blk, 1, none⟩ = some (.int .i64 X.tr.fact) := xn3.cell 1; have x2 : w3.cell? ⟨X.blk, 2, none⟩ = some X.kidsV := xn3.cell 2; obtain ⟨XA, Xc, hXv, hXr⟩ := xn4.form; clear hXr; have HXV := Lib.hid hXv; rw [hXv] at x2; clear hXv; have y0 := cell_later hb13 z0; have y1 := cell_later hb13 z1; have y2 := cell_later hb13 z2; have e0 := frozen_later hb13 hzbl f0; have e1 := frozen_later hb13 hzbl f1; have e2 := frozen_later hb13 hzbl f2))
        all_goals
          go_wp2_with fail
          go_ret
          exact put_done hL hok h60 hbrd hb13 hzs zn3 hSX hokX hszX hX (by simpa using HXV.out) rfl

/-- wPut makes the change out of the rewriting. -/
theorem wPut_any (x : Int) (kf : Nat) (caps : Array Value) (w : World) : Calls Try.prog 16 #[.int .i64 x, .func (.func kf) #[] caps] w fun e w' =>
    e = .returned (.func (.func 44) #[] #[.pointer (some ⟨w.heap.size + 1, 0, none⟩), .pointer (some ⟨w.heap.size, 0, none⟩)]) ∧ (w.alloc (.cells #[.int .i64 x] 3)).alloc (.cells #[.func (.func kf) #[] caps] 30) = w' := by
  go_enter Try.func16, Try.ntmps16
  go_wp2_with fail
  go_ret
  exact ⟨by simp, rfl⟩
end Go.Proofs.Ytdfbclkafocnpaa
