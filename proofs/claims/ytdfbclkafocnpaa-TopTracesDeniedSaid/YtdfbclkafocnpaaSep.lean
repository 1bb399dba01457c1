/- A copy of a tree whose rows lie apart; and wPut for a rewriting that writes into the copy that it is handed. -/
import Derived.Test.YtdfbclkafocnpaaDrew
import Derived.Test.YtdfbclkafocnpaaFin
namespace Go.Proofs.Ytdfbclkafocnpaa
open Go.RowKit

/-- No child's blocks hold the root's block or its row. -/
def Sep (L : LT) (w : World) : Prop := ∀ c ∈ L.kids, KidIn 38 29 L.blk L.kidsV w c
theorem mk_kids {b : Nat} {k f : Int} {v : Value} {cs : List LT} (hl : cs.length ≤ 2) : (LT.mk b k f v cs).kids = cs := by
  match cs, hl with
  | [], _ => rfl
  | [_], _ => rfl
  | [_, _], _ => rfl
  | _ :: _ :: _ :: _, hl => exact absurd hl (by simp)
theorem mk_kidsV {b : Nat} {k f : Int} {v : Value} {cs : List LT} : (LT.mk b k f v cs).kidsV = v := by
  match cs with
  | [] => rfl
  | [_] => rfl
  | _ :: _ :: _ => rfl
/-- A new tree whose rows lie apart is returned. -/
def RetSep (T : Tr) (w : World) (e : Ending) (w' : World) : Prop :=
  ∃ L : LT, e = .returned (.pointer (some ⟨L.blk, 0, none⟩)) ∧ L.tr = T ∧ L.In w' 38 29 w.heap.size w'.heap.size ∧ Below w.heap.size w w' ∧ Sep L w'

theorem Building.built_sep {w0 w : World} {b : Nat} {k f : Int} {done : List Tr} {v : Value} (h : Building 38 29 w0 b k f done v w) (hl : done.length ≤ 2) : RetSep (Tr.mk k f done) w0 (.returned (.pointer (some ⟨b, 0, none⟩))) w := by
  obtain ⟨cs, h1, h2, h3, h4, h5, h6⟩ := h
  have hl' : cs.length ≤ 2 := by rw [← h1] at hl; simpa using hl
  refine ⟨LT.mk b k f v cs, by rw [LT.mk_blk], by rw [LT.mk_tr, h1], ?_, h5, ?_⟩
  · refine LT.In.mk ⟨h6, h2.lt, h2, h3⟩ (fun c hc => ?_) hl'
    obtain ⟨lo, hi, g1, g2, g3, _⟩ := h4 c hc
    exact g1.mono (by omega) g3
  · intro c hc
    rw [mk_kids hl'] at hc
    rw [LT.mk_blk, mk_kidsV]
    exact h4 c hc

set_option maxHeartbeats 400000 in
theorem same_sep (L : LT) (w : World) (lo hi : Nat) (hin : L.In w 38 29 lo hi) (hhi : hi ≤ w.heap.size) : Calls Try.prog 20 #[.pointer (some ⟨L.blk, 0, none⟩)] w (RetSep L.tr w) := by
  obtain ⟨i0, hi0, hz0, hz1, hz2⟩ := info_parts Try.info29
  obtain ⟨n1, n2, n3, n4⟩ := hin.node
  have c0 : w.cell? ⟨L.blk, 0, none⟩ = some (.int .i64 L.tr.kind) := n3.cell 0
  have c1 : w.cell? ⟨L.blk, 1, none⟩ = some (.int .i64 L.tr.fact) := n3.cell 1
  have c2 : w.cell? ⟨L.blk, 2, none⟩ = some L.kidsV := n3.cell 2
  obtain ⟨A, cap, hv, hcap, hmx, hcell⟩ := n4.form
  rw [hv] at c2
  rw [List.length_map] at *
  unfold maxLen at hmx
  have hlb : L.blk < w.heap.size := n3.lt
  have hlb' : ¬ L.blk = w.heap.size := by omega
  have IH := Lib.hid (same_any L.tr.size)
  have HV := Lib.hid hv
  have HC := Lib.hid hcell
  clear hv hcell
  go_enter Try.func20, Try.ntmps20
  go_wp2_with fail
  go_region_held3 (fun w' => w'.cell? ⟨L.blk, 0, none⟩ = some (.int .i64 L.tr.kind) ∧ w'.cell? ⟨L.blk, 1, none⟩ = some (.int .i64 L.tr.fact)) (go_keep) (fail)
  go_wp2_with fail
  go_loopw [21] (SameRel L w w.heap.size) (fun i _ => L.kids.length - (intOf i).toNat)
  case atStart => exact ⟨0, _, rfl, Nat.zero_le _, ((Building.start (Below.refl _ w)).drew)⟩
  case round =>
    obtain ⟨k, v, rfl, hk, hB⟩ := hrel
    by_cases hlt : k < L.kids.length
    · have hB0 := hB
      obtain ⟨g, rfl, g1, g2, g3, g4, g5⟩ := HC.out k (L.kids[k]).ptr (by simp [hlt])
      have c5 : wr.cell? ⟨g, k, none⟩ = some (.pointer (some ⟨(L.kids[k]).blk, 0, none⟩)) := (hB.below.cell (by exact g3)).trans g4
      have c6 := hB.cell2
      have f6 := hB.free2
      have hbl := hB.lt
      have hkin : (L.kids[k]).In w 38 29 lo hi := hin.kid (List.getElem_mem _)
      obtain ⟨ps, hown⟩ := hB.own
      rw [List.length_map, List.length_take_of_le (by omega)] at hown
      have hbel := hB.below
      have hsz := hbel.size
      have hkl : (L.kids[k]).tr.size ≤ L.tr.size := by have := LT.kid_size (L := L) (List.getElem_mem hlt); omega
      have hkw := (hkin.below (hbel.mono hhi) (Nat.le_refl _)).drew
      have hkh : hi ≤ wr.heap.size := by omega
      have hb63 : k + 1 ≤ maxLen := by have := L.kids_le; unfold maxLen; omega
      have hbby : (k + 1) * 8 ≤ 140737488355328 := by have := L.kids_le; omega
      have hrne := hB.row_ne (by decide)
      have hbld : w.heap.size < wr.drew.heap.size := hbl
      have c6d : wr.drew.cell? ⟨w.heap.size, 2, none⟩ = some v := c6
      have f6d : wr.drew.frozen? ⟨w.heap.size, 2, none⟩ = false := f6
      have hownd := hown.drew
      have hszd : w.heap.size ≤ wr.drew.heap.size := hsz
      have HB := Lib.hid hB
      clear hB hB0
      go_wp2_with fail
      go_region_law (first
         | (refine step_append_lies _ (by rfl) _ _ _ (by rfl) w.heap.size 29 i0 _ 1 8 Try.underlying33 hi0 hz0 hz1 hz2 rfl (by omega) v k ps (by rfl) (hown1.alloc _) ⟨w1.heap.size, 0, none⟩ 1 1 [.pointer (some ⟨L'.blk, 0, none⟩)] (by rfl) (by rfl) (World.news_of_block (cs := #[.pointer (some ⟨L'.blk, 0, none⟩)]) (t := 29) (fr := (0, 0)) (heap_alloc_new _ _)) (by simp [Value.oneCell']) (by omega) hb63 hbby hbs (w1.heap.size + 1) (by simp) ?_; intro gg cap2 w3 hown3 hgrow hat hlt3; have hc7 := keep_cell (a := ⟨w.heap.size, 2, none⟩) hbld hb1 c6d hrne hgrow; have hf7 := keep_frozen (a := ⟨w.heap.size, 2, none⟩) hbld hb1 f6d hrne hgrow)
         | (go_simp; go_at_call 20; refine (IH.out (L.kids[k]) _ lo hi hkl hkw hkh).mono ?_; rintro e w1 ⟨L', rfl, ht, hL', hb1⟩; have hbs := alloc_ge hszd hb1 (.cells #[.pointer (some ⟨L'.blk, 0, none⟩)] 29); have hown1 := own_below hownd hb1; have hc61 := cell_later hb1 c6d; have hne1 := lt_later hb1 hbld))
      all_goals
        go_wp2_with fail
        go_roundw
        case rel =>
          refine ⟨k + 1, .slice (some ⟨gg, 0, none⟩) (k + 1) cap2, by go_num, by omega, ?_⟩
          have hst := HB.out.drew.step (by decide) hL' hb1 hownd hown3 hgrow hat
          rw [ht] at hst
          rw [List.take_add_one, List.getElem?_eq_getElem hlt, Option.toList_some, List.map_append]
          exact hst
        case measure => simp [intOf]; omega
    · go_wp2_with fail
      go_ret
      have hkk : k = L.kids.length := by omega
      subst hkk
      have := hB.built_sep (by simp; exact L.kids_le)
      rw [List.take_length, LT.tr_mk] at this
      exact this
/-- The rewriting kf with what it captured: it rewrites every tree of its own. -/
structure ByOkS (facts : Int) (app : Tr → Bool) (kf : Nat) (caps : Array Value) (B : Nat) (w0 : World) : Prop where
  ent : Enters Try.prog kf
  run : ∀ (L : LT) (w : World) (lo : Nat), Below B w0 w → B ≤ lo → L.In w 38 29 lo w.heap.size → Sep L w → L.tr.ok facts → L.tr.size ≤ 60 →
    Calls Try.prog kf (#[.pointer (some ⟨L.blk, 0, none⟩)] ++ caps) w (ByPost facts app L lo w)

theorem ByOkS.no {facts : Int} {app : Tr → Bool} {kf : Nat} {caps : Array Value} {B : Nat} {w0 : World} (h : ByOkS facts app kf caps B w0) (L : LT) (w : World) (lo : Nat) (T : Tr) (hT : L.tr = T) (hn : app T = false) (hb : Below B w0 w) (hB : B ≤ lo) (hL : L.In w 38 29 lo w.heap.size) (hsep : Sep L w) (hok : T.ok facts) (h60 : T.size ≤ 60) :
    Calls Try.prog kf (#[.pointer (some ⟨L.blk, 0, none⟩)] ++ caps) w fun e w' => e = .returned (.pointer none) ∧ Below lo w w' := by
  subst hT
  refine (h.run L w lo hb hB hL hsep hok h60).mono ?_
  rintro e w' ⟨h1, ⟨_, h2⟩ | ⟨h2, _⟩⟩
  · exact ⟨h2, h1⟩
  · rw [hn] at h2; cases h2
theorem ByOkS.yes {facts : Int} {app : Tr → Bool} {kf : Nat} {caps : Array Value} {B : Nat} {w0 : World} (h : ByOkS facts app kf caps B w0) (L : LT) (w : World) (lo : Nat) (T : Tr) (hT : L.tr = T) (hn : app T = true) (hb : Below B w0 w) (hB : B ≤ lo) (hL : L.In w 38 29 lo w.heap.size) (hsep : Sep L w) (hok : T.ok facts) (h60 : T.size ≤ 60) :
    Calls Try.prog kf (#[.pointer (some ⟨L.blk, 0, none⟩)] ++ caps) w (ByYes facts T lo w) := by
  subst hT
  refine (h.run L w lo hb hB hL hsep hok h60).mono ?_
  rintro e w' ⟨h1, ⟨h2, _⟩ | ⟨_, X, h3, h4, h5, h6, h7⟩⟩
  · rw [hn] at h2; cases h2
  · exact ⟨X, h3, h4, h5, h6, h7, h1⟩

set_option maxHeartbeats 20000000 in
set_option maxRecDepth 20000 in
theorem put_anyS (facts : Int) (app : Tr → Bool) (kf : Nat) (caps : Array Value) (L : LT) (w : World) (lo tb wb : Nat) (x : Int) (hL : L.In w 38 29 lo w.heap.size) (hok : L.tr.ok facts) (h60 : L.tr.size ≤ 60)
    (htb : Blk w tb 30 #[.func (.func kf) #[] caps]) (hwb : Blk w wb 3 #[.int .i64 x]) (hby : ByOkS facts app kf caps w.heap.size w) :
    Calls Try.prog 44 #[.pointer (some ⟨L.blk, 0, none⟩), .pointer (some ⟨tb, 0, none⟩), .pointer (some ⟨wb, 0, none⟩)] w (ChangePost facts L lo w) := by
  obtain ⟨i0, hi0, hz0, hz1, hz2⟩ := info_parts Try.info29
  have htbl := htb.lt
  have hwbl := hwb.lt
  have ctb : w.cell? ⟨tb, 0, none⟩ = some (.func (.func kf) #[] caps) := htb.cell 0
  have cwb : w.cell? ⟨wb, 0, none⟩ = some (.int .i64 x) := hwb.cell 0
  have hLo := hL.le
  have hL1 : ∀ o, L.In (w.alloc o) 38 29 lo w.heap.size := fun o => hL.below ((Below.refl _ w).alloc (Nat.le_refl _) o) (Nat.le_refl _)
  have hC0 : Coll w.heap.size (.slice none 0 0) [] (w.alloc (.cells #[.slice none 0 0] 33)) (w.alloc (.cells #[.slice none 0 0] 33)) := ⟨Blk.new _ _ _, World.ownsRow_nil _ _ _ _, Below.refl _ _⟩
  have hszz : ([] : List Value).length + L.tr.size ≤ 1000000 := by simp; omega
  go_enter Try.func44, Try.ntmps44
  go_wp2_with (go_at_call 26; refine (forms_any _ L _ lo w.heap.size _ [] (Nat.le_refl _) (hL1 _) hC0 hszz).mono ?_; rintro e w1 ⟨⟨r, rfl⟩, av, hA⟩; rw [List.nil_append] at hA; have hR := (Row.of_own hA.own (Nat.le_refl _)); obtain ⟨Aa, ca, rfl, hc1, hc2, hcell⟩ := hR.form; have cAll := hA.blk.cell 0)
  simp only [List.length_map, LT.sub_length] at *
  have hbw : Below w.heap.size w w1 := ((Below.refl _ w).alloc (Nat.le_refl _) _).trans hA.below
  have HC := Lib.hid hcell
  have HA := Lib.hid hA
  have HB := Lib.hid hby
  have hent : ∀ (args : Array Value) (w : World), (callFunc kf args).run Try.prog w = .ok (.enter kf args) w := hby.ent
  clear hcell hA hby hR hC0 hL1
  go_loopw [6, 14] (PutRel app L w1 w1.heap.size) (fun _ i _ => L.tr.size - (intOf i).toNat)
  case atStart => exact ⟨0, [], rfl, Nat.zero_le _, Nat.le_refl _, by simp, World.ownsRow_nil _ _ _ _, Below.refl _ _⟩
  case round =>
    obtain ⟨k, zs, rfl, hk, hzk, hzs, hown, hb⟩ := hrel
    have hbr : Below w.heap.size w wr := hbw.trans (hb.mono hbw.size)
    have HZ := Lib.hid hzs
    clear hzs
    obtain ⟨As, cs, rfl⟩ := own_form hown
    have hb63 : zs.length + 1 ≤ maxLen := by unfold maxLen; omega
    have hbby : (zs.length + 1) * 8 ≤ 140737488355328 := by omega
    by_cases hlt : k < L.tr.size
    · have hlt' : k < L.sub.length := by rw [LT.sub_length]; exact hlt
      obtain ⟨g, rfl, g1, g2, g3, g4, g5⟩ := HC.out k (L.sub[k]).ptr (by simp [hlt'])
      have hzin : (L.sub[k]).In wr.drew 38 29 lo w.heap.size := ((hL.sub (List.getElem_mem hlt')).below hbr (Nat.le_refl _)).drew
      have hzok : (L.sub[k]).tr.ok facts := LT.ok_sub hok (List.getElem_mem hlt')
      have hz60 : (L.sub[k]).tr.size ≤ 60 := Nat.le_trans (LT.sub_size (List.getElem_mem hlt')) h60
      rw [LT.ptr] at g4
      have c5 : wr.cell? ⟨g, k, none⟩ = some (.pointer (some ⟨(L.sub[k]).blk, 0, none⟩)) := (hb.cell (by exact g3)).trans g4
      have ctbr : wr.drew.cell? ⟨tb, 0, none⟩ = some (.func (.func kf) #[] caps) := (hbr.cell (by exact htbl)).trans ctb
      have hszr : w.heap.size ≤ wr.drew.heap.size := hbr.size
      have hbrd : Below w.heap.size w wr.drew := hbr.drew
      have happ0 : ∀ b : Bool, app (L.sub[k]).tr = b → app (L.sub[k]).tr = b := fun _ h => h
      have hszb : w1.heap.size ≤ wr.drew.heap.size := hb.size
      have hownd := hown.drew
      by_cases happ : app (L.sub[k]).tr = true
      · go_wp2_with fail
        go_region_law (first
           | (go_simp; go_at_call 20; refine (same_sep (L.sub[k]) _ lo w.heap.size hzin hszr).mono ?_; rintro e w2 ⟨L', rfl, ht, hL', hb2, hsep⟩; have ctb2 := cell_later hb2 ctbr; have hbr2 := hbrd.trans (hb2.mono hszr))
           | (go_simp; refine (HB.out.yes L' w2 wr.drew.heap.size _ ht happ hbr2 hszr hL' hsep hzok hz60).mono ?_; rintro e w3 ⟨X, rfl, _, _, _, _, hb3⟩; have hb13 := hb2.trans hb3))
        all_goals
          have hown3 := own_below hownd hb13
          have hB3 := hb.drew.trans (hb13.mono hszb)
          have hbs := alloc_ge hszb hb13 (.cells #[.pointer (some ⟨(L.sub[k]).blk, 0, none⟩)] 29)
          have hB4 := hB3.alloc (Nat.le_trans hszb hb13.size) (.cells #[.pointer (some ⟨(L.sub[k]).blk, 0, none⟩)] 29)
          have HO3 := Lib.hid hown3
          go_wp2_with (at_builtin; refine wpList_append_lies _ rfl _ _ _ rfl w1.heap.size 29 i0 _ 1 8 Try.underlying33 hi0 hz0 hz1 hz2 rfl (by omega) (.slice As zs.length cs) zs.length (zs.map LT.ptr) rfl (hown3.alloc _) ⟨w3.heap.size, 0, none⟩ 1 1 [.pointer (some ⟨(L.sub[k]).blk, 0, none⟩)] rfl rfl (World.news_of_block (cs := #[.pointer (some ⟨(L.sub[k]).blk, 0, none⟩)]) (t := 29) (fr := (0, 0)) (heap_alloc_new _ _)) (by simp [Value.oneCell']) (by omega) hb63 hbby hbs (w3.heap.size + 1) (by simp) ?_; intro gg cap2 w4 hown4 hgrow hat hlt4)
          go_roundw
          case rel =>
            refine ⟨k + 1, zs ++ [L.sub[k]], by go_num, by omega, by simp; omega, ?_, by simpa [LT.ptr] using hown4, hB4.grown hgrow hbs fun g e => ((HO3.out).lt g e).1⟩
            intro z hz
            rcases List.mem_append.1 hz with hz | hz
            · exact HZ.out z hz
            · simp at hz; subst hz; exact ⟨List.getElem_mem hlt', happ⟩
          case measure => simp [intOf]; omega
      · have happ' : app (L.sub[k]).tr = false := by simpa using happ
        go_wp2_with fail
        go_region_law (first
           | (go_simp; go_at_call 20; refine (same_sep (L.sub[k]) _ lo w.heap.size hzin hszr).mono ?_; rintro e w2 ⟨L', rfl, ht, hL', hb2, hsep⟩; have ctb2 := cell_later hb2 ctbr; have hbr2 := hbrd.trans (hb2.mono hszr))
           | (go_simp; refine (HB.out.no L' w2 wr.drew.heap.size _ ht happ' hbr2 hszr hL' hsep hzok hz60).mono ?_; rintro e w3 ⟨rfl, hb3⟩; have hb13 := hb2.trans hb3))
        all_goals
          have hown3 := own_below hownd hb13
          have hB3 := hb.drew.trans (hb13.mono hszb)
          go_wp2_with fail
          go_roundw
          case rel => exact ⟨k + 1, zs, by go_num, by omega, by omega, HZ.out, hown3, hB3⟩
          case measure => simp [intOf]; omega
    · have cwbr : wr.cell? ⟨wb, 0, none⟩ = some (.int .i64 x) := (hbr.cell (by exact hwbl)).trans cwb
      have ctbr : wr.drew.cell? ⟨tb, 0, none⟩ = some (.func (.func kf) #[] caps) := (hbr.cell (by exact htbl)).trans ctb
      have hszr : w.heap.size ≤ wr.drew.heap.size := hbr.size
      have hbrd : Below w.heap.size w wr.drew := hbr.drew
      have hkk : k = L.tr.size := by omega
      subst hkk
      rcases Nat.eq_zero_or_pos zs.length with hzl | hzl
      · have hzl' : (zs.length : Int) = 0 := by omega
        go_wp2_with fail
        go_ret
        exact ⟨hbr.mono hLo, .inl rfl⟩
      · have hown' := hown
        have hzr : Row wr 29 w1.heap.size wr.heap.size (.slice As zs.length cs) (zs.map LT.ptr) := ⟨by simpa using hown', fun g e => (hown'.lt g e).2⟩
        obtain ⟨A2, c2, hv2, hc21, hc22, hzc⟩ := hzr.form
        injection hv2 with hA2 hm2 hc2'
        clear hm2
        subst hA2; subst hc2'
        have HZ2 := Lib.hid hzc
        clear hzc hown'
        clear hown hzr hb63 hbby hc21 hc22
        have hzn : zs.length ≤ 60 := by omega
        have HI : ∀ i, i < zs.length → ∃ g z, As = some ⟨g, 0, none⟩ ∧ g < wr.heap.size ∧ wr.cell? ⟨g, i, none⟩ = some (.pointer (some ⟨z.blk, 0, none⟩)) ∧ z ∈ L.sub ∧ app z.tr = true := by
          intro i hi
          obtain ⟨g, e, q1, q2, q3, q4, q5⟩ := HZ2.out i (zs[i]).ptr (by simp [hi])
          exact ⟨g, zs[i], e, q3, q4, HZ.out _ (List.getElem_mem hi)⟩
        clear HZ2 HZ hzk
        have HI := Lib.hid HI
        generalize zs.length = n at *
        have hnn : ¬ (n : Int) = 0 := by omega
        go_wp2_with (go_at_call 22; refine (pick_any x n hzl (by omega) _).mono ?_; rintro e w' ⟨i, rfl, hi, rfl⟩; obtain ⟨g, z, rfl, q3, q4, hzs, hza⟩ := HI.out i hi)
        have hzin : z.In wr.drew 38 29 lo w.heap.size := ((hL.sub hzs).below hbr (Nat.le_refl _)).drew
        have hzok : z.tr.ok facts := LT.ok_sub hok hzs
        have hz60 : z.tr.size ≤ 60 := Nat.le_trans (LT.sub_size hzs) h60
        obtain ⟨zn1, zn2, zn3, zn4⟩ := hzin.node
        have hzbl : z.blk < wr.drew.heap.size := zn3.lt
        have z0 := zn3.cell 0
        have z1 := zn3.cell 1
        have z2 := zn3.cell 2
        have f0 := zn3.frozen 0
        have f1 := zn3.frozen 1
        have f2 := zn3.frozen 2
        simp at z0 z1 z2
        go_wp2_with fail
        go_region_law (first
           | (go_simp; go_at_call 20; refine (same_sep z _ lo w.heap.size hzin hszr).mono ?_; rintro e w2 ⟨L', rfl, ht, hL', hb2, hsep⟩; have ctb2 := cell_later hb2 ctbr; have hbr2 := hbrd.trans (hb2.mono hszr))
           | (go_simp; refine (HB.out.yes L' w2 wr.drew.heap.size _ ht hza hbr2 hszr hL' hsep hzok hz60).mono ?_; rintro e w3 ⟨X, rfl, hSX, hokX, hszX, hX, hb3⟩; have hb13 := hb2.trans hb3; obtain ⟨xn1, xn2, xn3, xn4⟩ := hX.node; have x0 : w3.cell? ⟨X.blk, 0, none⟩ = some (.int .i64 X.tr.kind) := xn3.cell 0; have x1 : w3.cell? ⟨X.blk, 1, none⟩ = some (.int .i64 X.tr.fact) := xn3.cell 1; have x2 : w3.cell? ⟨X.blk, 2, none⟩ = some X.kidsV := xn3.cell 2; obtain ⟨XA, Xc, hXv, hXr⟩ := xn4.form; clear hXr; have HXV := Lib.hid hXv; rw [hXv] at x2; clear hXv; have y0 := cell_later hb13 z0; have y1 := cell_later hb13 z1; have y2 := cell_later hb13 z2; have e0 := frozen_later hb13 hzbl f0; have e1 := frozen_later hb13 hzbl f1; have e2 := frozen_later hb13 hzbl f2))
        all_goals
          go_wp2_with fail
          go_ret
          exact put_done hL hok h60 hbrd hb13 hzs zn3 hSX hokX hszX hX (by simpa using HXV.out) rfl

theorem change_okS {facts : Int} {app : Tr → Bool} {kf : Nat} {caps : Array Value} {w1 : World} {tb wb : Nat} {x : Int} (htb : Blk w1 tb 30 #[.func (.func kf) #[] caps]) (hwb : Blk w1 wb 3 #[.int .i64 x])
    (hby : ∀ W, Below w1.heap.size w1 W → ByOkS facts app kf caps W.heap.size W) : ChangeOk facts 44 #[.pointer (some ⟨tb, 0, none⟩), .pointer (some ⟨wb, 0, none⟩)] w1 := by
  refine ⟨enters_of Try.func44 (by kernel_rfl) rfl, fun L W lo hb hlo hL hok h60 => ?_⟩
  exact put_anyS facts app kf caps L W lo tb wb x hL hok h60 (htb.below hb htb.lt) (hwb.below hb hwb.lt) (hby W hb)

end Go.Proofs.Ytdfbclkafocnpaa
