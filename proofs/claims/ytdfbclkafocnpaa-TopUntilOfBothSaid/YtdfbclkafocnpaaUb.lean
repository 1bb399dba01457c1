/- The rewriting of TopUntilOfBoth returns, for every right formula that lies in memory, no formula or one that is true for the same lists of states. Conditions: the formula has at most 60 nodes, and its blocks lie from a given one on. -/
import Derived.Test.YtdfbclkafocnpaaShape
import Derived.Test.YtdfbclkafocnpaaLaws
namespace Go.Proofs.Ytdfbclkafocnpaa
open Go.RowKit

def ubB : Tr → Bool
  | .n2 k _ a c => k == 7 && (a.kind == 4 || c.kind == 5)
  | _ => false


set_option linter.unusedSimpArgs false in
set_option linter.unusedVariables false in
set_option maxHeartbeats 8000000 in
theorem ub_by (facts : Int) (B : Nat) (w0 : World) : ByOk facts ubB 36 #[] B w0 := by
  refine ⟨enters_of Try.func36 (by kernel_rfl) rfl, fun L w lo hb0 hBlo hL hok h60 => ?_⟩
  show Calls Try.prog 36 #[.pointer (some ⟨L.blk, 0, none⟩)] w (ByPost facts ubB L lo w)
  clear hb0 hBlo h60
  have c0 := LT.open0 hL
  have h0 : Below lo w w := Below.refl _ _
  rcases LT.cases_ok hok with ⟨b, f, v, rfl⟩ | ⟨b, f, v, rfl⟩ | ⟨b, f, v, a, rfl⟩ | ⟨b, f, v, a, c, rfl⟩ | ⟨b, f, v, a, c, rfl⟩ | ⟨b, f, v, a, rfl⟩ | ⟨b, f, v, a, c, rfl⟩ | ⟨b, f, v, a, rfl⟩ | ⟨b, f, v, a, rfl⟩ <;> simp only [LT.blk, LT.tr, Tr.kind] at c0 ⊢
  · go_enter Try.func36, Try.ntmps36
    go_wp2_with fail
    go_ret
    exact by_no rfl h0
  · go_enter Try.func36, Try.ntmps36
    go_wp2_with fail
    go_ret
    exact by_no rfl h0
  · go_enter Try.func36, Try.ntmps36
    go_wp2_with fail
    go_ret
    exact by_no rfl h0
  · go_enter Try.func36, Try.ntmps36
    go_wp2_with fail
    go_ret
    exact by_no rfl h0
  · go_enter Try.func36, Try.ntmps36
    go_wp2_with fail
    go_ret
    exact by_no rfl h0
  · go_enter Try.func36, Try.ntmps36
    go_wp2_with fail
    go_ret
    exact by_no rfl h0
  · have hoka := hok.2.1
    have hokc := hok.2.2
    by_cases hka : a.tr.kind = 4
    · obtain ⟨g, cap, rfl, -, c2, cg, ch, ha, hc⟩ := LT.open2 hL
      have hoka := hok.2.1
      have hokc := hok.2.2
      obtain ⟨ba, fa, va, x, y, rfl⟩ := LT.is2 hoka hka (by decide)
      clear hka
      obtain ⟨ga, capa, rfl, ca0, ca2, cag, cah, hx, hy⟩ := LT.open2 ha
      have hokx := hoka.2.1
      have hoky := hoka.2.2
      replace c0 : w.cell? ⟨b, 0, none⟩ = some (.int .i64 7) := c0
      replace c2 : w.cell? ⟨b, 2, none⟩ = some (.slice (some ⟨g, 0, none⟩) 2 cap) := c2
      replace cg : w.cell? ⟨g, 0, none⟩ = some (.pointer (some ⟨ba, 0, none⟩)) := cg
      replace ch : w.cell? ⟨g, 1, none⟩ = some (.pointer (some ⟨c.blk, 0, none⟩)) := ch
      replace ca0 : w.cell? ⟨ba, 0, none⟩ = some (.int .i64 4) := ca0
      replace ca2 : w.cell? ⟨ba, 2, none⟩ = some (.slice (some ⟨ga, 0, none⟩) 2 capa) := ca2
      replace cag : w.cell? ⟨ga, 0, none⟩ = some (.pointer (some ⟨x.blk, 0, none⟩)) := cag
      replace cah : w.cell? ⟨ga, 1, none⟩ = some (.pointer (some ⟨y.blk, 0, none⟩)) := cah
      replace hx : x.In w 38 29 lo w.heap.size := hx
      replace hy : y.In w 38 29 lo w.heap.size := hy
      replace ha : (LT.n2 ba 4 fa (.slice (some ⟨ga, 0, none⟩) 2 capa) x y).In w 38 29 lo w.heap.size := ha
      replace hc : c.In w 38 29 lo w.heap.size := hc
      replace hL : (LT.n2 b 7 f (.slice (some ⟨g, 0, none⟩) 2 cap) (LT.n2 ba 4 fa (.slice (some ⟨ga, 0, none⟩) 2 capa) x y) c).In w 38 29 lo w.heap.size := hL
      have HOK := Lib.hid hok
      have OKx := Lib.hid hokx
      have OKy := Lib.hid hoky
      have OKc := Lib.hid hokc
      clear hok hokx hoky hoka hokc
      go_enter Try.func36, Try.ntmps36
      go_wp2_with fail
      have c0 : w.drew.cell? ⟨b, 0, none⟩ = some (.int .i64 7) := c0
      have c2 : w.drew.cell? ⟨b, 2, none⟩ = some (.slice (some ⟨g, 0, none⟩) 2 cap) := c2
      have cg : w.drew.cell? ⟨g, 0, none⟩ = some (.pointer (some ⟨ba, 0, none⟩)) := cg
      have ch : w.drew.cell? ⟨g, 1, none⟩ = some (.pointer (some ⟨c.blk, 0, none⟩)) := ch
      have ca0 : w.drew.cell? ⟨ba, 0, none⟩ = some (.int .i64 4) := ca0
      have ca2 : w.drew.cell? ⟨ba, 2, none⟩ = some (.slice (some ⟨ga, 0, none⟩) 2 capa) := ca2
      have cag : w.drew.cell? ⟨ga, 0, none⟩ = some (.pointer (some ⟨x.blk, 0, none⟩)) := cag
      have cah : w.drew.cell? ⟨ga, 1, none⟩ = some (.pointer (some ⟨y.blk, 0, none⟩)) := cah
      replace hx : x.In w.drew 38 29 lo w.drew.heap.size := hx.drew
      replace hy : y.In w.drew 38 29 lo w.drew.heap.size := hy.drew
      replace ha : (LT.n2 ba 4 fa (.slice (some ⟨ga, 0, none⟩) 2 capa) x y).In w.drew 38 29 lo w.drew.heap.size := ha.drew
      replace hc : c.In w.drew 38 29 lo w.drew.heap.size := hc.drew
      replace hL : (LT.n2 b 7 f (.slice (some ⟨g, 0, none⟩) 2 cap) (LT.n2 ba 4 fa (.slice (some ⟨ga, 0, none⟩) 2 capa) x y) c).In w.drew 38 29 lo w.drew.heap.size := hL.drew
      go_region_held3 (fun w' => w'.cell? ⟨b, 0, none⟩ = some (.int .i64 7) ∧ w'.cell? ⟨b, 2, none⟩ = some (.slice (some ⟨g, 0, none⟩) 2 cap) ∧ w'.cell? ⟨g, 0, none⟩ = some (.pointer (some ⟨ba, 0, none⟩)) ∧ w'.cell? ⟨g, 1, none⟩ = some (.pointer (some ⟨c.blk, 0, none⟩)) ∧ w'.cell? ⟨ba, 0, none⟩ = some (.int .i64 4) ∧ w'.cell? ⟨ba, 2, none⟩ = some (.slice (some ⟨ga, 0, none⟩) 2 capa) ∧ w'.cell? ⟨ga, 0, none⟩ = some (.pointer (some ⟨x.blk, 0, none⟩)) ∧ w'.cell? ⟨ga, 1, none⟩ = some (.pointer (some ⟨y.blk, 0, none⟩))) (first | exact ⟨c0_4, c2_4, cg_4, ch_4, ca0_4, ca2_4, cag_4, cah_4⟩ | exact ⟨keep_new c0_4, keep_new c2_4, keep_new cg_4, keep_new ch_4, keep_new ca0_4, keep_new ca2_4, keep_new cag_4, keep_new cah_4⟩ | exact ⟨c0_3, c2_3, cg_3, ch_3, ca0_3, ca2_3, cag_3, cah_3⟩ | exact ⟨keep_new c0_3, keep_new c2_3, keep_new cg_3, keep_new ch_3, keep_new ca0_3, keep_new ca2_3, keep_new cag_3, keep_new cah_3⟩ | exact ⟨c0_2, c2_2, cg_2, ch_2, ca0_2, ca2_2, cag_2, cah_2⟩ | exact ⟨keep_new c0_2, keep_new c2_2, keep_new cg_2, keep_new ch_2, keep_new ca0_2, keep_new ca2_2, keep_new cag_2, keep_new cah_2⟩ | exact ⟨c0_1, c2_1, cg_1, ch_1, ca0_1, ca2_1, cag_1, cah_1⟩ | exact ⟨keep_new c0_1, keep_new c2_1, keep_new cg_1, keep_new ch_1, keep_new ca0_1, keep_new ca2_1, keep_new cag_1, keep_new cah_1⟩ | exact ⟨c0, c2, cg, ch, ca0, ca2, cag, cah⟩ | exact ⟨keep_drew1 c0, keep_drew1 c2, keep_drew1 cg, keep_drew1 ch, keep_drew1 ca0, keep_drew1 ca2, keep_drew1 cag, keep_drew1 cah⟩) (first | (have _q := hb3; go_at_call 19; refine (wOf2_ret 4 X1 X3 lo w3 ((hX1.up2 hb2).up2 hb3) hX3).mono ?_; rintro e w4 ⟨X4, rfl, ht4, hX4, hb4⟩; have c0_4 := cell_later hb4 c0_3; have c2_4 := cell_later hb4 c2_3; have cg_4 := cell_later hb4 cg_3; have ch_4 := cell_later hb4 ch_3; have ca0_4 := cell_later hb4 ca0_3; have ca2_4 := cell_later hb4 ca2_3; have cag_4 := cell_later hb4 cag_3; have cah_4 := cell_later hb4 cah_3; have hB4 := hB3.trans (hb4.mono hB3.size)) | (have _q := hb2; go_at_call 19; refine (wOf2_ret 7 y X2 lo w2 ((hy.up2 hb1).up2 hb2) hX2).mono ?_; rintro e w3 ⟨X3, rfl, ht3, hX3, hb3⟩; have c0_3 := cell_later hb3 c0_2; have c2_3 := cell_later hb3 c2_2; have cg_3 := cell_later hb3 cg_2; have ch_3 := cell_later hb3 ch_2; have ca0_3 := cell_later hb3 ca0_2; have ca2_3 := cell_later hb3 ca2_2; have cag_3 := cell_later hb3 cag_2; have cah_3 := cell_later hb3 cah_2; have hB3 := hB2.trans (hb3.mono hB2.size)) | (have _q := hb1; go_at_call 20; refine (wSame_ret c lo w1 (hc.up2 hb1)).mono ?_; rintro e w2 ⟨X2, rfl, ht2, hX2, hb2⟩; have c0_2 := cell_later hb2 c0_1; have c2_2 := cell_later hb2 c2_1; have cg_2 := cell_later hb2 cg_1; have ch_2 := cell_later hb2 ch_1; have ca0_2 := cell_later hb2 ca0_1; have ca2_2 := cell_later hb2 ca2_1; have cag_2 := cell_later hb2 cag_1; have cah_2 := cell_later hb2 cah_1; have hB2 := hB1.trans (hb2.mono hB1.size)) | (go_at_call 19; refine (wOf2_ret 7 x c lo w.drew hx hc).mono ?_; rintro e w1 ⟨X1, rfl, ht1, hX1, hb1⟩; have c0_1 := cell_later hb1 c0; have c2_1 := cell_later hb1 c2; have cg_1 := cell_later hb1 cg; have ch_1 := cell_later hb1 ch; have ca0_1 := cell_later hb1 ca0; have ca2_1 := cell_later hb1 ca2; have cag_1 := cell_later hb1 cag; have cah_1 := cell_later hb1 cah; have hB1 := hb1))
      all_goals
        go_wp2_with fail
        go_ret
        exact by_yes (by simp [ubB, LT.tr, Tr.kind]) hL.le (Below.refl lo w).drew hB4 hX4 (by simp only [ht4, ht3, ht2, ht1, LT.tr]) (both_and _ _ _ _ _) ⟨.inl rfl, ⟨.inr (.inr rfl), OKx.out, OKc.out⟩, ⟨.inr (.inr rfl), OKy.out, OKc.out⟩⟩ (by simp only [LT.tr, Tr.size]; omega)
    · have hb4 : (a.tr.kind == 4) = false := by simpa using hka
      by_cases hkc : c.tr.kind = 5
      · have ca := LT.open0 (show a.In w 38 29 lo w.heap.size from hL.2.1)
        obtain ⟨g, cap, rfl, -, c2, cg, ch, ha, hc⟩ := LT.open2 hL
        have hoka := hok.2.1
        have hokc := hok.2.2
        obtain ⟨bc, fc, vc, x, y, rfl⟩ := LT.is2 hokc hkc (by decide)
        clear hkc
        obtain ⟨gc, capc, rfl, cc0, cc2, ccg, cch, hx, hy⟩ := LT.open2 hc
        have hokx := hokc.2.1
        have hoky := hokc.2.2
        replace c0 : w.cell? ⟨b, 0, none⟩ = some (.int .i64 7) := c0
        replace c2 : w.cell? ⟨b, 2, none⟩ = some (.slice (some ⟨g, 0, none⟩) 2 cap) := c2
        replace cg : w.cell? ⟨g, 0, none⟩ = some (.pointer (some ⟨a.blk, 0, none⟩)) := cg
        replace ch : w.cell? ⟨g, 1, none⟩ = some (.pointer (some ⟨bc, 0, none⟩)) := ch
        replace cc0 : w.cell? ⟨bc, 0, none⟩ = some (.int .i64 5) := cc0
        replace cc2 : w.cell? ⟨bc, 2, none⟩ = some (.slice (some ⟨gc, 0, none⟩) 2 capc) := cc2
        replace ccg : w.cell? ⟨gc, 0, none⟩ = some (.pointer (some ⟨x.blk, 0, none⟩)) := ccg
        replace cch : w.cell? ⟨gc, 1, none⟩ = some (.pointer (some ⟨y.blk, 0, none⟩)) := cch
        replace ha : a.In w 38 29 lo w.heap.size := ha
        replace hx : x.In w 38 29 lo w.heap.size := hx
        replace hy : y.In w 38 29 lo w.heap.size := hy
        replace hc : (LT.n2 bc 5 fc (.slice (some ⟨gc, 0, none⟩) 2 capc) x y).In w 38 29 lo w.heap.size := hc
        replace hL : (LT.n2 b 7 f (.slice (some ⟨g, 0, none⟩) 2 cap) a (LT.n2 bc 5 fc (.slice (some ⟨gc, 0, none⟩) 2 capc) x y)).In w 38 29 lo w.heap.size := hL
        have HOK := Lib.hid hok
        have OKa := Lib.hid hoka
        have OKx := Lib.hid hokx
        have OKy := Lib.hid hoky
        clear hok hoka hokx hoky hokc
        go_enter Try.func36, Try.ntmps36
        go_wp2_with fail
        have c0 : w.drew.cell? ⟨b, 0, none⟩ = some (.int .i64 7) := c0
        have c2 : w.drew.cell? ⟨b, 2, none⟩ = some (.slice (some ⟨g, 0, none⟩) 2 cap) := c2
        have cg : w.drew.cell? ⟨g, 0, none⟩ = some (.pointer (some ⟨a.blk, 0, none⟩)) := cg
        have ch : w.drew.cell? ⟨g, 1, none⟩ = some (.pointer (some ⟨bc, 0, none⟩)) := ch
        have cc0 : w.drew.cell? ⟨bc, 0, none⟩ = some (.int .i64 5) := cc0
        have cc2 : w.drew.cell? ⟨bc, 2, none⟩ = some (.slice (some ⟨gc, 0, none⟩) 2 capc) := cc2
        have ccg : w.drew.cell? ⟨gc, 0, none⟩ = some (.pointer (some ⟨x.blk, 0, none⟩)) := ccg
        have cch : w.drew.cell? ⟨gc, 1, none⟩ = some (.pointer (some ⟨y.blk, 0, none⟩)) := cch
        replace ha : a.In w.drew 38 29 lo w.drew.heap.size := ha.drew
        replace hx : x.In w.drew 38 29 lo w.drew.heap.size := hx.drew
        replace hy : y.In w.drew 38 29 lo w.drew.heap.size := hy.drew
        replace hc : (LT.n2 bc 5 fc (.slice (some ⟨gc, 0, none⟩) 2 capc) x y).In w.drew 38 29 lo w.drew.heap.size := hc.drew
        replace hL : (LT.n2 b 7 f (.slice (some ⟨g, 0, none⟩) 2 cap) a (LT.n2 bc 5 fc (.slice (some ⟨gc, 0, none⟩) 2 capc) x y)).In w.drew 38 29 lo w.drew.heap.size := hL.drew
        go_region_held3 (fun w' => w'.cell? ⟨b, 0, none⟩ = some (.int .i64 7) ∧ w'.cell? ⟨b, 2, none⟩ = some (.slice (some ⟨g, 0, none⟩) 2 cap) ∧ w'.cell? ⟨g, 0, none⟩ = some (.pointer (some ⟨a.blk, 0, none⟩)) ∧ w'.cell? ⟨g, 1, none⟩ = some (.pointer (some ⟨bc, 0, none⟩)) ∧ w'.cell? ⟨bc, 0, none⟩ = some (.int .i64 5) ∧ w'.cell? ⟨bc, 2, none⟩ = some (.slice (some ⟨gc, 0, none⟩) 2 capc) ∧ w'.cell? ⟨gc, 0, none⟩ = some (.pointer (some ⟨x.blk, 0, none⟩)) ∧ w'.cell? ⟨gc, 1, none⟩ = some (.pointer (some ⟨y.blk, 0, none⟩))) (first | exact ⟨c0_4, c2_4, cg_4, ch_4, cc0_4, cc2_4, ccg_4, cch_4⟩ | exact ⟨keep_new c0_4, keep_new c2_4, keep_new cg_4, keep_new ch_4, keep_new cc0_4, keep_new cc2_4, keep_new ccg_4, keep_new cch_4⟩ | exact ⟨c0_3, c2_3, cg_3, ch_3, cc0_3, cc2_3, ccg_3, cch_3⟩ | exact ⟨keep_new c0_3, keep_new c2_3, keep_new cg_3, keep_new ch_3, keep_new cc0_3, keep_new cc2_3, keep_new ccg_3, keep_new cch_3⟩ | exact ⟨c0_2, c2_2, cg_2, ch_2, cc0_2, cc2_2, ccg_2, cch_2⟩ | exact ⟨keep_new c0_2, keep_new c2_2, keep_new cg_2, keep_new ch_2, keep_new cc0_2, keep_new cc2_2, keep_new ccg_2, keep_new cch_2⟩ | exact ⟨c0_1, c2_1, cg_1, ch_1, cc0_1, cc2_1, ccg_1, cch_1⟩ | exact ⟨keep_new c0_1, keep_new c2_1, keep_new cg_1, keep_new ch_1, keep_new cc0_1, keep_new cc2_1, keep_new ccg_1, keep_new cch_1⟩ | exact ⟨c0, c2, cg, ch, cc0, cc2, ccg, cch⟩ | exact ⟨keep_drew1 c0, keep_drew1 c2, keep_drew1 cg, keep_drew1 ch, keep_drew1 cc0, keep_drew1 cc2, keep_drew1 ccg, keep_drew1 cch⟩) (first | (have _q := hb3; go_at_call 19; refine (wOf2_ret 5 X1 X3 lo w3 ((hX1.up2 hb2).up2 hb3) hX3).mono ?_; rintro e w4 ⟨X4, rfl, ht4, hX4, hb4⟩; have c0_4 := cell_later hb4 c0_3; have c2_4 := cell_later hb4 c2_3; have cg_4 := cell_later hb4 cg_3; have ch_4 := cell_later hb4 ch_3; have cc0_4 := cell_later hb4 cc0_3; have cc2_4 := cell_later hb4 cc2_3; have ccg_4 := cell_later hb4 ccg_3; have cch_4 := cell_later hb4 cch_3; have hB4 := hB3.trans (hb4.mono hB3.size)) | (have _q := hb2; go_at_call 19; refine (wOf2_ret 7 X2 y lo w2 hX2 ((hy.up2 hb1).up2 hb2)).mono ?_; rintro e w3 ⟨X3, rfl, ht3, hX3, hb3⟩; have c0_3 := cell_later hb3 c0_2; have c2_3 := cell_later hb3 c2_2; have cg_3 := cell_later hb3 cg_2; have ch_3 := cell_later hb3 ch_2; have cc0_3 := cell_later hb3 cc0_2; have cc2_3 := cell_later hb3 cc2_2; have ccg_3 := cell_later hb3 ccg_2; have cch_3 := cell_later hb3 cch_2; have hB3 := hB2.trans (hb3.mono hB2.size)) | (have _q := hb1; go_at_call 20; refine (wSame_ret a lo w1 (ha.up2 hb1)).mono ?_; rintro e w2 ⟨X2, rfl, ht2, hX2, hb2⟩; have c0_2 := cell_later hb2 c0_1; have c2_2 := cell_later hb2 c2_1; have cg_2 := cell_later hb2 cg_1; have ch_2 := cell_later hb2 ch_1; have cc0_2 := cell_later hb2 cc0_1; have cc2_2 := cell_later hb2 cc2_1; have ccg_2 := cell_later hb2 ccg_1; have cch_2 := cell_later hb2 cch_1; have hB2 := hB1.trans (hb2.mono hB1.size)) | (go_at_call 19; refine (wOf2_ret 7 a x lo w.drew ha hx).mono ?_; rintro e w1 ⟨X1, rfl, ht1, hX1, hb1⟩; have c0_1 := cell_later hb1 c0; have c2_1 := cell_later hb1 c2; have cg_1 := cell_later hb1 cg; have ch_1 := cell_later hb1 ch; have cc0_1 := cell_later hb1 cc0; have cc2_1 := cell_later hb1 cc2; have ccg_1 := cell_later hb1 ccg; have cch_1 := cell_later hb1 cch; have hB1 := hb1))
        all_goals
          go_wp2_with fail
          go_ret
          exact by_yes (by simp [ubB, LT.tr, Tr.kind]) hL.le (Below.refl lo w).drew hB4 hX4 (by simp only [ht4, ht3, ht2, ht1, LT.tr]) (both_or _ _ _ _ _) ⟨.inr (.inl rfl), ⟨.inr (.inr rfl), OKa.out, OKx.out⟩, ⟨.inr (.inr rfl), OKa.out, OKy.out⟩⟩ (by simp only [LT.tr, Tr.size]; omega)
      · obtain ⟨g, cap, rfl, -, c2, cg, ch, ha, hc⟩ := LT.open2 hL
        have ca := LT.open0 ha
        have cc := LT.open0 hc
        have hb5 : (c.tr.kind == 5) = false := by simpa using hkc
        clear hoka hokc hok ha hc hL
        go_enter Try.func36, Try.ntmps36
        go_wp2_with fail
        go_ret
        exact by_no (by simp [ubB, LT.tr, hka, hkc]) h0
  · go_enter Try.func36, Try.ntmps36
    go_wp2_with fail
    go_ret
    exact by_no rfl h0
  · go_enter Try.func36, Try.ntmps36
    go_wp2_with fail
    go_ret
    exact by_no rfl h0
end Go.Proofs.Ytdfbclkafocnpaa
