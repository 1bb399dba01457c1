/- TopTracesAbsorbed: the change: a part of the whole is copied, then one node is written otherwise. -/
import Derived.Test.YtdfbclkafocnpaaAbs
import Derived.Test.YtdfbclkafocnpaaFin
namespace Go.Proofs.Ytdfbclkafocnpaa
open Go.RowKit

theorem keep_set {w : World} {a : Addr} {u v : Value} {d : Nat} (h : w.cell? a = some u) (hne : d ≠ a.block) : (w.setCell ⟨d, 0, none⟩ v).cell? a = some u :=
  (World.cell?_setCell_far w ⟨d, 0, none⟩ a v hne).trans h

theorem ChangePost.any {facts : Int} {L : LT} {lo : Nat} {w w' : World} {e : Ending} (h : ChangePost facts L lo w e w') : ∃ b : Bool, e = .returned (.bool b) ∧ ChangePost facts L lo w (.returned (.bool b)) w' := by
  have h0 := h
  rcases h with ⟨_, rfl | ⟨rfl, _⟩⟩
  · exact ⟨false, rfl, h0⟩
  · exact ⟨true, rfl, h0⟩
theorem ChangePost.from {facts : Int} {L : LT} {lo : Nat} {w W w' : World} {e : Ending} (h : ChangePost facts L lo W e w') (hb : Below lo w W) : ChangePost facts L lo w e w' := ⟨hb.trans h.1, h.2⟩

/-- What the change finds behind the copy and its box: the tree, the part's copy, the box. -/
def Boxed (L D : LT) (T : Tr) (lo dx : Nat) (w w3 : World) : Prop :=
  D.tr = T ∧ Below w.heap.size w w3 ∧ Blk w3 dx 29 #[.pointer (some ⟨D.blk, 0, none⟩)] ∧ L.In w3 38 29 lo w3.heap.size ∧ ∃ lod, D.In w3 38 29 lod w3.heap.size

theorem boxed_before {w w1 w2 : World} {L D : LT} {T : Tr} {lo : Nat} (hL : L.In w 38 29 lo w.heap.size) (hb1 : Below w.heap.size w w1) (hT : D.tr = T) (hD : D.In w2 38 29 (w1.alloc (.cells #[.pointer none] 29)).drew.heap.size w2.heap.size)
    (hc : Below (w1.alloc (.cells #[.pointer none] 29)).drew.heap.size (w1.alloc (.cells #[.pointer none] 29)).drew w2) : Boxed L D T lo w1.heap.size w (w2.setCell ⟨w1.heap.size, 0, none⟩ (.pointer (some ⟨D.blk, 0, none⟩))) := by
  have hS : (w2.setCell ⟨w1.heap.size, 0, none⟩ (.pointer (some ⟨D.blk, 0, none⟩))).heap.size = w2.heap.size := by simp [World.setCell]
  have h2 : Below w1.heap.size w1 w2 := bel_ad.trans (hc.mono (by show w1.heap.size ≤ (w1.alloc _).heap.size; rw [World.size_alloc]; omega))
  have h3 : Below w.heap.size w (w2.setCell ⟨w1.heap.size, 0, none⟩ (.pointer (some ⟨D.blk, 0, none⟩))) := (hb1.trans (h2.mono hb1.size)).setCell (p := ⟨w1.heap.size, 0, none⟩) hb1.size _
  refine ⟨hT, h3, (blk_nd.later hc).set_ 0 _, (hL.below h3 (Nat.le_refl _)).mono (Nat.le_refl _) h3.size, (w1.alloc (.cells #[.pointer none] 29)).drew.heap.size, ?_⟩
  rw [hS]
  refine hD.keep fun q h1 h2 => Below.heap_setCell _ ⟨w1.heap.size, 0, none⟩ _ q ?_
  have : (w1.alloc (.cells #[.pointer none] 29)).drew.heap.size = w1.heap.size + 1 := World.size_alloc _ _
  show q ≠ w1.heap.size
  omega
theorem boxed_behind {w w1 w2 : World} {L D : LT} {T : Tr} {lo : Nat} (hL : L.In w 38 29 lo w.heap.size) (hb1 : Below w.heap.size w w1) (hT : D.tr = T) (hD : D.In w2 38 29 w1.heap.size w2.heap.size)
    (hc : Below w1.heap.size w1 w2) : Boxed L D T lo w2.heap.size w (w2.alloc (.cells #[.pointer (some ⟨D.blk, 0, none⟩)] 29)) := by
  have h2 : Below w.heap.size w w2 := hb1.trans (hc.mono hb1.size)
  have h3 : Below w.heap.size w (w2.alloc (.cells #[.pointer (some ⟨D.blk, 0, none⟩)] 29)) := h2.alloc h2.size _
  exact ⟨hT, h3, Blk.new _ _ _, (hL.below h3 (Nat.le_refl _)).mono (Nat.le_refl _) h3.size, w1.heap.size, hD.up2 bel_a⟩

theorem boxed_by {facts how : Int} {w w3 w4 : World} {L D : LT} {T : Tr} {lo dx hx : Nat} (hX : Boxed L D T lo dx w w3) (hH : Blk w hx 3 #[.int .i64 how]) (hb4 : Below w3.heap.size w3 w4) (hTok : T.ok facts) (hT60 : T.size ≤ 60) :
    ByOk facts (fun _ => true) 27 #[.pointer (some ⟨hx, 0, none⟩), .pointer (some ⟨dx, 0, none⟩)] w4.heap.size w4 := by
  obtain ⟨rfl, h3, hbox, hL3, lod, hD3⟩ := hX
  have hH4 : Blk w4 hx 3 #[.int .i64 how] := (hH.below h3 hH.lt).later hb4
  have hb : Blk w4 dx 29 #[.pointer (some ⟨D.blk, 0, none⟩)] := hbox.later hb4
  exact absorbed_by facts how hx dx lod w4.heap.size D w4 hH4 hH4.lt hb hb.lt (hD3.up2 hb4) hTok hT60

set_option linter.unusedSimpArgs false in
set_option linter.unusedVariables false in
set_option maxHeartbeats 8000000 in
set_option maxRecDepth 20000 in
theorem absorbed_change (facts which withN how : Int) (wx qx hx : Nat) (w0 : World) (hwx : Blk w0 wx 3 #[.int .i64 withN]) (hqx : Blk w0 qx 3 #[.int .i64 which]) (hhx : Blk w0 hx 3 #[.int .i64 how]) :
    ChangeOk facts 25 #[.pointer (some ⟨wx, 0, none⟩), .pointer (some ⟨qx, 0, none⟩), .pointer (some ⟨hx, 0, none⟩)] w0 := by
  refine ⟨enters_of Try.func25 (by kernel_rfl) rfl, fun L w lo hb0 hBlo hL hok h60 => ?_⟩
  have hwx := hwx.below hb0 hwx.lt
  have hqx := hqx.below hb0 hqx.lt
  have hhx := hhx.below hb0 hhx.lt
  show Calls Try.prog 25 #[.pointer (some ⟨L.blk, 0, none⟩), .pointer (some ⟨wx, 0, none⟩), .pointer (some ⟨qx, 0, none⟩), .pointer (some ⟨hx, 0, none⟩)] w (ChangePost facts L lo w)
  clear hb0 hBlo
  have hLo := hL.le
  have hpos := L.tr.size_pos
  obtain ⟨i, hi, hp⟩ := pick_det withN L.tr.size hpos (by omega)
  have hi' : i < L.sub.length := by rw [LT.sub_length]; exact hi
  have hz := List.getElem_mem hi'
  have hz60 : (L.sub[i]).tr.size ≤ 60 := Nat.le_trans (LT.sub_size hz) h60
  have hzok : (L.sub[i]).tr.ok facts := LT.ok_sub hok hz
  have hL1 : ∀ o, L.In (w.alloc o) 38 29 lo w.heap.size := fun o => hL.below ((Below.refl _ w).alloc (Nat.le_refl _) o) (Nat.le_refl _)
  have hC0 : Coll w.heap.size (.slice none 0 0) [] (w.alloc (.cells #[.slice none 0 0] 33)) (w.alloc (.cells #[.slice none 0 0] 33)) := ⟨Blk.new _ _ _, World.ownsRow_nil _ _ _ _, Below.refl _ _⟩
  have hszz : ([] : List Value).length + L.tr.size ≤ 1000000 := by simp; omega
  have HW := Lib.hid hwx
  have HQ := Lib.hid hqx
  have HH := Lib.hid hhx
  have HK := Lib.hid hok
  have HZ := Lib.hid hzok
  clear hwx hqx hhx hok hzok
  go_enter Try.func25, Try.ntmps25
  go_wp2_with (go_at_call 26; refine (forms_any _ L _ lo w.heap.size _ [] (Nat.le_refl _) (hL1 _) hC0 hszz).mono ?_; rintro e w1 ⟨⟨r, rfl⟩, av, hA⟩; rw [List.nil_append] at hA; have hR := (Row.of_own hA.own (Nat.le_refl _)); obtain ⟨Aa, ca, rfl, hc1, hc2, hcell⟩ := hR.form; have cAll := hA.blk.cell 0)
  simp only [List.length_map, LT.sub_length] at *
  have hbw : Below w.heap.size w w1 := ((Below.refl _ w).alloc (Nat.le_refl _) _).trans hA.below
  obtain ⟨g, rfl, g1, g2, g3, g4, g5⟩ := hcell i (L.sub[i]).ptr (by simp [hi'])
  rw [LT.ptr] at g4
  have cAll : w1.cell? ⟨w.heap.size, 0, none⟩ = some (.slice (some ⟨g, 0, none⟩) L.tr.size ca) := cAll
  have cw : w1.cell? ⟨wx, 0, none⟩ = some (.int .i64 withN) := (HW.out.below hbw HW.out.lt).cell 0
  have cq : w1.cell? ⟨qx, 0, none⟩ = some (.int .i64 which) := (HQ.out.below hbw HQ.out.lt).cell 0
  have hzin : (L.sub[i]).In w1 38 29 lo w1.heap.size := ((hL.sub hz).below hbw (Nat.le_refl _)).mono (Nat.le_refl _) hbw.size
  have HA := Lib.hid hA
  have hFl : w.heap.size < w1.heap.size := hA.blk.lt
  have hwl : wx < w1.heap.size := (HW.out.below hbw HW.out.lt).lt
  clear hcell hA hR hC0 hL1
  go_region_held3 (fun w' => w'.cell? ⟨w.heap.size, 0, none⟩ = some (.slice (some ⟨g, 0, none⟩) L.tr.size ca) ∧ w'.cell? ⟨wx, 0, none⟩ = some (.int .i64 withN) ∧ w'.cell? ⟨g, i, none⟩ = some (.pointer (some ⟨(L.sub[i]).blk, 0, none⟩))) (first | exact ⟨keep_set cAll2 (Nat.ne_of_gt hFl), keep_set cw2 (Nat.ne_of_gt hwl), keep_set g42 (Nat.ne_of_gt g3)⟩ | exact ⟨cAll2, cw2, g42⟩ | exact ⟨keep_new cAll2, keep_new cw2, keep_new g42⟩ | exact ⟨keep_ad cAll, keep_ad cw, keep_ad g4⟩ | exact ⟨keep_d cAll, keep_d cw, keep_d g4⟩) (first | (go_at_call 22; refine (hp _).mono ?_; rintro e w' ⟨rfl, rfl⟩) | (go_at_call 20; refine (same_any _ (L.sub[i]) (w1.alloc (.cells #[.pointer none] 29)).drew lo w1.heap.size (Nat.le_refl _) (hzin.below (bel_ad (w := w1) (o := .cells #[.pointer none] 29)) (Nat.le_refl _)) (bel_ad (w := w1) (o := .cells #[.pointer none] 29)).size).mono ?_; rintro e w2 ⟨D, rfl, htD, hD, hc2⟩; have hb2 : Below w1.heap.size w1 w2 := (bel_ad (w := w1) (o := .cells #[.pointer none] 29)).trans (hc2.mono (bel_ad (w := w1) (o := .cells #[.pointer none] 29)).size); have cAll2 := cell_later hb2 cAll; have cw2 := cell_later hb2 cw; have g42 := cell_later hb2 g4; have hbx := blk_nd.later hc2; have cbx := hbx.cell 0; have fbx := hbx.frozen 0) | (go_at_call 20; refine (same_any _ (L.sub[i]) w1.drew lo w1.heap.size (Nat.le_refl _) (hzin.below (bel_d (w := w1)) (Nat.le_refl _)) (bel_d (w := w1)).size).mono ?_; rintro e w2 ⟨D, rfl, htD, hD, hc2⟩; have hb2 : Below w1.heap.size w1 w2 := (bel_d (w := w1)).trans (hc2.mono (bel_d (w := w1)).size); have cAll2 := cell_later hb2 cAll; have cw2 := cell_later hb2 cw; have g42 := cell_later hb2 g4))
  all_goals
    first
      | (have hX := boxed_before (T := (L.sub[i]).tr) hL hbw htD hD hc2)
      | (have hX := boxed_behind (T := (L.sub[i]).tr) hL hbw htD hD hb2)
    have hX0 := hX
    obtain ⟨hT, h3, hbox, hL3, lod, hD3⟩ := hX0
    have cq3 := (HQ.out.below h3 HQ.out.lt).cell 0
    have HX := Lib.hid hX
    have H3 := Lib.hid h3
    have HL3 := Lib.hid hL3
    clear hX h3 hL3 hbox hD3
    go_wp2_with (first | (go_at_call 16; refine (wPut_ret which 27 _ _).mono ?_; rintro e w4 ⟨tb, wb, rfl, htb, hwb, hb4⟩) | (go_at_call 44; refine (put_any facts (fun _ => true) 27 _ L w4 lo tb wb which (HL3.out.up2 hb4) HK.out h60 htb hwb (boxed_by HX.out HH.out hb4 HZ.out hz60)).mono ?_; rintro e w5 hch; obtain ⟨bb, rfl, hch⟩ := hch.any))
    go_ret
    exact hch.from ((H3.out.mono hLo).trans (hb4.mono (Nat.le_trans hLo H3.out.size)))
end Go.Proofs.Ytdfbclkafocnpaa
