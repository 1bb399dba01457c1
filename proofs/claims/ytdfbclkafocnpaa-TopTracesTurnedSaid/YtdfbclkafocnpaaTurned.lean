/- The rewriting of TopTracesTurned returns, for every right formula that lies in memory, no formula or one that is true for the same lists of states. Conditions: the formula has at most 60 nodes, and its blocks lie from a given one on. -/
import Derived.Test.YtdfbclkafocnpaaDrew
import Derived.Test.YtdfbclkafocnpaaLaws
namespace Go.Proofs.Ytdfbclkafocnpaa
open Go.RowKit

def turnedB (T : Tr) : Bool := T.kind == 4 || T.kind == 5


set_option linter.unusedSimpArgs false in
set_option linter.unusedVariables false in
set_option maxHeartbeats 8000000 in
set_option maxRecDepth 20000 in
theorem turned_by (facts : Int) (flag : Bool) (hbx B : Nat) (w0 : World) (hbox : Blk w0 hbx 4 #[.bool flag]) (hB : hbx < B) : ByOk facts turnedB 24 #[.pointer (some ⟨hbx, 0, none⟩)] B w0 := by
  refine ⟨enters_of Try.func24 (by kernel_rfl) rfl, fun L w lo hb0 hBlo hL hok h60 => ?_⟩
  show Calls Try.prog 24 #[.pointer (some ⟨L.blk, 0, none⟩), .pointer (some ⟨hbx, 0, none⟩)] w (ByPost facts turnedB L lo w)
  have cx : w.cell? ⟨hbx, 0, none⟩ = some (.bool flag) := (hbox.below hb0 hB).cell 0
  clear hb0 hBlo h60 hbox hB
  have c0 := LT.open0 hL
  have h0 : Below lo w w := Below.refl _ _
  rcases LT.cases_ok hok with ⟨b, f, v, rfl⟩ | ⟨b, f, v, rfl⟩ | ⟨b, f, v, a, rfl⟩ | ⟨b, f, v, a, c, rfl⟩ | ⟨b, f, v, a, c, rfl⟩ | ⟨b, f, v, a, rfl⟩ | ⟨b, f, v, a, c, rfl⟩ | ⟨b, f, v, a, rfl⟩ | ⟨b, f, v, a, rfl⟩ <;> simp only [LT.blk, LT.tr, Tr.kind] at c0 ⊢
  · go_enter Try.func24, Try.ntmps24
    go_wp2_with fail
    go_ret
    exact by_no rfl h0
  · go_enter Try.func24, Try.ntmps24
    go_wp2_with fail
    go_ret
    exact by_no rfl h0
  · go_enter Try.func24, Try.ntmps24
    go_wp2_with fail
    go_ret
    exact by_no rfl h0
  · have hoka := hok.2.1
    have hokc := hok.2.2
    cases flag
    · have ca := LT.open0 (show a.In w 38 29 lo w.heap.size from hL.2.1)
      have cc := LT.open0 (show c.In w 38 29 lo w.heap.size from hL.2.2)
      obtain ⟨g, cap, rfl, -, c2, cg, ch, ha, hc⟩ := LT.open2 hL
      have hoka := hok.2.1
      have hokc := hok.2.2
      replace c0 : w.cell? ⟨b, 0, none⟩ = some (.int .i64 4) := c0
      replace c2 : w.cell? ⟨b, 2, none⟩ = some (.slice (some ⟨g, 0, none⟩) 2 cap) := c2
      replace cg : w.cell? ⟨g, 0, none⟩ = some (.pointer (some ⟨a.blk, 0, none⟩)) := cg
      replace ch : w.cell? ⟨g, 1, none⟩ = some (.pointer (some ⟨c.blk, 0, none⟩)) := ch
      replace ha : a.In w 38 29 lo w.heap.size := ha
      replace hc : c.In w 38 29 lo w.heap.size := hc
      replace hL : (LT.n2 b 4 f (.slice (some ⟨g, 0, none⟩) 2 cap) a c).In w 38 29 lo w.heap.size := hL
      have HOK := Lib.hid hok
      have OKa := Lib.hid hoka
      have OKc := Lib.hid hokc
      clear hok hoka hokc
      go_enter Try.func24, Try.ntmps24
      go_wp2_with fail
      go_region_held3 (fun w' => w'.cell? ⟨b, 2, none⟩ = some (.slice (some ⟨g, 0, none⟩) 2 cap) ∧ w'.cell? ⟨g, 0, none⟩ = some (.pointer (some ⟨a.blk, 0, none⟩)) ∧ w'.cell? ⟨g, 1, none⟩ = some (.pointer (some ⟨c.blk, 0, none⟩))) (exact ⟨keep_d c2, keep_d cg, keep_d ch⟩) (fail)
      go_wp2_with fail
      refine wp_region_held_drew (S := fun w' => w'.cell? ⟨hbx, 0, none⟩ = some (.bool false)) (by kernel_rfl) (keep_dd cx) (fun hHeld => ?_)
      refine take_val (.bool false) (i := 0) (d := some 31) rfl rfl (by kernel_rfl) (by kernel_rfl) (by kernel_rfl) (fun _ _ _ h => h) (by rfl) (by (intro w' hSw; (try dsimp only at hSw); go_simp)) hHeld ?_
      try simp only [Act.put, List.setIfInBounds_toArray, List.set_cons_zero, List.set_cons_succ]
      refine take_val (.bool false) (i := 1) (d := some 32) rfl rfl (by kernel_rfl) (by kernel_rfl) (by kernel_rfl) (fun _ _ _ h => h) (by rfl) (by (intro w' hSw; (try dsimp only at hSw); go_simp)) hHeld ?_
      try simp only [Act.put, List.setIfInBounds_toArray, List.set_cons_zero, List.set_cons_succ]
      refine take_skip (i := 2) (d := some 33) rfl rfl (by kernel_rfl) (by kernel_rfl) (by kernel_rfl) (fun _ _ _ h => h) (by rfl) hHeld ?_
      try simp only [Act.put, List.setIfInBounds_toArray, List.set_cons_zero, List.set_cons_succ]
      refine take_skip (i := 3) (d := some 34) rfl rfl (by kernel_rfl) (by kernel_rfl) (by kernel_rfl) (fun _ _ _ h => h) (by rfl) hHeld ?_
      try simp only [Act.put, List.setIfInBounds_toArray, List.set_cons_zero, List.set_cons_succ]
      refine take_skip (i := 4) (d := some 35) rfl rfl (by kernel_rfl) (by kernel_rfl) (by kernel_rfl) (fun _ _ _ h => h) (by rfl) hHeld ?_
      try simp only [Act.put, List.setIfInBounds_toArray, List.set_cons_zero, List.set_cons_succ]
      refine take_skip (i := 5) (d := some 36) rfl rfl (by kernel_rfl) (by kernel_rfl) (by kernel_rfl) (fun _ _ _ h => h) (by rfl) hHeld ?_
      try simp only [Act.put, List.setIfInBounds_toArray, List.set_cons_zero, List.set_cons_succ]
      refine take_skip (i := 6) (d := some 37) rfl rfl (by kernel_rfl) (by kernel_rfl) (by kernel_rfl) (fun _ _ _ h => h) (by rfl) hHeld ?_
      try simp only [Act.put, List.setIfInBounds_toArray, List.set_cons_zero, List.set_cons_succ]
      refine take_skip (i := 7) (d := some 38) rfl rfl (by kernel_rfl) (by kernel_rfl) (by kernel_rfl) (fun _ _ _ h => h) (by rfl) hHeld ?_
      try simp only [Act.put, List.setIfInBounds_toArray, List.set_cons_zero, List.set_cons_succ]
      refine take_skip (i := 8) (d := some 39) rfl rfl (by kernel_rfl) (by kernel_rfl) (by kernel_rfl) (fun _ _ _ h => h) (by rfl) hHeld ?_
      try simp only [Act.put, List.setIfInBounds_toArray, List.set_cons_zero, List.set_cons_succ]
      refine take_skip (i := 9) (d := some 40) rfl rfl (by kernel_rfl) (by kernel_rfl) (by kernel_rfl) (fun _ _ _ h => h) (by rfl) hHeld ?_
      try simp only [Act.put, List.setIfInBounds_toArray, List.set_cons_zero, List.set_cons_succ]
      refine take_skip (i := 10) (d := some 41) rfl rfl (by kernel_rfl) (by kernel_rfl) (by kernel_rfl) (fun _ _ _ h => h) (by rfl) hHeld ?_
      try simp only [Act.put, List.setIfInBounds_toArray, List.set_cons_zero, List.set_cons_succ]
      refine take_val (.bool false) (i := 11) (d := some 42) rfl rfl (by kernel_rfl) (by kernel_rfl) (by kernel_rfl) (fun _ _ _ h => h) (by rfl) (by (intro w' hSw; (try dsimp only at hSw); go_simp)) hHeld ?_
      try simp only [Act.put, List.setIfInBounds_toArray, List.set_cons_zero, List.set_cons_succ]
      refine take_val (.bool false) (i := 12) (d := some 30) rfl rfl (by kernel_rfl) (by kernel_rfl) (by kernel_rfl) (fun _ _ _ h => h) (by rfl) (by (intro w' hSw; (try dsimp only at hSw); go_simp)) hHeld ?_
      try simp only [Act.put, List.setIfInBounds_toArray, List.set_cons_zero, List.set_cons_succ]
      refine wpAnyH_done (by kernel_rfl) ?_ _
      clear hHeld
      go_wp2_with fail
      refine wp_region_held_drew (S := fun w' => w'.cell? ⟨hbx, 0, none⟩ = some (.bool false)) (by kernel_rfl) (keep_ddd cx) (fun hHeld => ?_)
      refine take_val (.bool false) (i := 0) (d := some 69) rfl rfl (by kernel_rfl) (by kernel_rfl) (by kernel_rfl) (fun _ _ _ h => h) (by rfl) (by (intro w' hSw; (try dsimp only at hSw); go_simp)) hHeld ?_
      try simp only [Act.put, List.setIfInBounds_toArray, List.set_cons_zero, List.set_cons_succ]
      refine take_val (.bool false) (i := 1) (d := some 70) rfl rfl (by kernel_rfl) (by kernel_rfl) (by kernel_rfl) (fun _ _ _ h => h) (by rfl) (by (intro w' hSw; (try dsimp only at hSw); go_simp)) hHeld ?_
      try simp only [Act.put, List.setIfInBounds_toArray, List.set_cons_zero, List.set_cons_succ]
      refine take_skip (i := 2) (d := some 71) rfl rfl (by kernel_rfl) (by kernel_rfl) (by kernel_rfl) (fun _ _ _ h => h) (by rfl) hHeld ?_
      try simp only [Act.put, List.setIfInBounds_toArray, List.set_cons_zero, List.set_cons_succ]
      refine take_skip (i := 3) (d := some 72) rfl rfl (by kernel_rfl) (by kernel_rfl) (by kernel_rfl) (fun _ _ _ h => h) (by rfl) hHeld ?_
      try simp only [Act.put, List.setIfInBounds_toArray, List.set_cons_zero, List.set_cons_succ]
      refine take_skip (i := 4) (d := some 73) rfl rfl (by kernel_rfl) (by kernel_rfl) (by kernel_rfl) (fun _ _ _ h => h) (by rfl) hHeld ?_
      try simp only [Act.put, List.setIfInBounds_toArray, List.set_cons_zero, List.set_cons_succ]
      refine take_skip (i := 5) (d := some 74) rfl rfl (by kernel_rfl) (by kernel_rfl) (by kernel_rfl) (fun _ _ _ h => h) (by rfl) hHeld ?_
      try simp only [Act.put, List.setIfInBounds_toArray, List.set_cons_zero, List.set_cons_succ]
      refine take_skip (i := 6) (d := some 75) rfl rfl (by kernel_rfl) (by kernel_rfl) (by kernel_rfl) (fun _ _ _ h => h) (by rfl) hHeld ?_
      try simp only [Act.put, List.setIfInBounds_toArray, List.set_cons_zero, List.set_cons_succ]
      refine take_skip (i := 7) (d := some 76) rfl rfl (by kernel_rfl) (by kernel_rfl) (by kernel_rfl) (fun _ _ _ h => h) (by rfl) hHeld ?_
      try simp only [Act.put, List.setIfInBounds_toArray, List.set_cons_zero, List.set_cons_succ]
      refine take_skip (i := 8) (d := some 77) rfl rfl (by kernel_rfl) (by kernel_rfl) (by kernel_rfl) (fun _ _ _ h => h) (by rfl) hHeld ?_
      try simp only [Act.put, List.setIfInBounds_toArray, List.set_cons_zero, List.set_cons_succ]
      refine take_skip (i := 9) (d := some 78) rfl rfl (by kernel_rfl) (by kernel_rfl) (by kernel_rfl) (fun _ _ _ h => h) (by rfl) hHeld ?_
      try simp only [Act.put, List.setIfInBounds_toArray, List.set_cons_zero, List.set_cons_succ]
      refine take_skip (i := 10) (d := some 79) rfl rfl (by kernel_rfl) (by kernel_rfl) (by kernel_rfl) (fun _ _ _ h => h) (by rfl) hHeld ?_
      try simp only [Act.put, List.setIfInBounds_toArray, List.set_cons_zero, List.set_cons_succ]
      refine take_val (.bool false) (i := 11) (d := some 80) rfl rfl (by kernel_rfl) (by kernel_rfl) (by kernel_rfl) (fun _ _ _ h => h) (by rfl) (by (intro w' hSw; (try dsimp only at hSw); go_simp)) hHeld ?_
      try simp only [Act.put, List.setIfInBounds_toArray, List.set_cons_zero, List.set_cons_succ]
      refine take_val (.bool false) (i := 12) (d := some 68) rfl rfl (by kernel_rfl) (by kernel_rfl) (by kernel_rfl) (fun _ _ _ h => h) (by rfl) (by (intro w' hSw; (try dsimp only at hSw); go_simp)) hHeld ?_
      try simp only [Act.put, List.setIfInBounds_toArray, List.set_cons_zero, List.set_cons_succ]
      refine wpAnyH_done (by kernel_rfl) ?_ _
      clear hHeld
      go_wp2_with (go_at_call 19; refine (wOf2_row 4 c a lo w _ _ bel_addd (by have := hL.le; omega) blk_nddd hc ha).mono ?_; rintro e w1 ⟨X1, rfl, ht1, hX1, hb1, hc1⟩)
      go_ret
      exact by_yes rfl hL.le (Below.refl lo w) hb1 hX1 (by simp only [ht1, LT.tr]) (turned_and _ _ _) ⟨.inl rfl, OKc.out, OKa.out⟩ (by simp only [LT.tr, Tr.size]; omega)
    · by_cases hka : a.tr.kind = 4
      · have cc := LT.open0 (show c.In w 38 29 lo w.heap.size from hL.2.2)
        obtain ⟨g, cap, rfl, -, c2, cg, ch, ha, hc⟩ := LT.open2 hL
        have hoka := hok.2.1
        have hokc := hok.2.2
        obtain ⟨ba, fa, va, x, y, rfl⟩ := LT.is2 hoka hka (by decide)
        clear hka
        obtain ⟨ga, capa, rfl, ca0, ca2, cag, cah, hx, hy⟩ := LT.open2 ha
        have hokx := hoka.2.1
        have hoky := hoka.2.2
        replace c0 : w.cell? ⟨b, 0, none⟩ = some (.int .i64 4) := c0
        replace c2 : w.cell? ⟨b, 2, none⟩ = some (.slice (some ⟨g, 0, none⟩) 2 cap) := c2
        replace cg : w.cell? ⟨g, 0, none⟩ = some (.pointer (some ⟨ba, 0, none⟩)) := cg
        replace ch : w.cell? ⟨g, 1, none⟩ = some (.pointer (some ⟨c.blk, 0, none⟩)) := ch
        replace ca0 : w.cell? ⟨ba, 0, none⟩ = some (.int .i64 4) := ca0
        replace ca2 : w.cell? ⟨ba, 2, none⟩ = some (.slice (some ⟨ga, 0, none⟩) 2 capa) := ca2
        replace cag : w.cell? ⟨ga, 0, none⟩ = some (.pointer (some ⟨x.blk, 0, none⟩)) := cag
        replace cah : w.cell? ⟨ga, 1, none⟩ = some (.pointer (some ⟨y.blk, 0, none⟩)) := cah
        replace hx : x.In w 38 29 lo w.heap.size := hx
        replace hy : y.In w 38 29 lo w.heap.size := hy
        replace ha : (LT.n2 ba 4 fa (.slice (some ⟨ga, 0, none⟩) 2 capa) x y).In w 38 29 lo w.heap.size := ha
        replace hc : c.In w 38 29 lo w.heap.size := hc
        replace hL : (LT.n2 b 4 f (.slice (some ⟨g, 0, none⟩) 2 cap) (LT.n2 ba 4 fa (.slice (some ⟨ga, 0, none⟩) 2 capa) x y) c).In w 38 29 lo w.heap.size := hL
        have HOK := Lib.hid hok
        have OKx := Lib.hid hokx
        have OKy := Lib.hid hoky
        have OKc := Lib.hid hokc
        clear hok hokx hoky hoka hokc
        go_enter Try.func24, Try.ntmps24
        go_wp2_with fail
        go_region_held3 (fun w' => w'.cell? ⟨b, 2, none⟩ = some (.slice (some ⟨g, 0, none⟩) 2 cap) ∧ w'.cell? ⟨g, 0, none⟩ = some (.pointer (some ⟨ba, 0, none⟩)) ∧ w'.cell? ⟨g, 1, none⟩ = some (.pointer (some ⟨c.blk, 0, none⟩))) (exact ⟨keep_d c2, keep_d cg, keep_d ch⟩) (fail)
        go_wp2_with fail
        go_region_held3 (fun w' => w'.cell? ⟨hbx, 0, none⟩ = some (.bool true) ∧ w'.cell? ⟨ba, 0, none⟩ = some (.int .i64 4) ∧ w'.cell? ⟨b, 0, none⟩ = some (.int .i64 4)) (exact ⟨keep_dd cx, keep_dd ca0, keep_dd c0⟩) (fail)
        go_wp2_with fail
        go_region_held3 (fun w' => w'.cell? ⟨b, 0, none⟩ = some (.int .i64 4) ∧ w'.cell? ⟨ba, 2, none⟩ = some (.slice (some ⟨ga, 0, none⟩) 2 capa) ∧ w'.cell? ⟨ga, 0, none⟩ = some (.pointer (some ⟨x.blk, 0, none⟩)) ∧ w'.cell? ⟨ga, 1, none⟩ = some (.pointer (some ⟨y.blk, 0, none⟩))) (first | exact ⟨c0_2, ca2_2, cag_2, cah_2⟩ | exact ⟨keep_new c0_2, keep_new ca2_2, keep_new cag_2, keep_new cah_2⟩ | exact ⟨keep_aa c0_2, keep_aa ca2_2, keep_aa cag_2, keep_aa cah_2⟩ | exact ⟨c0_1, ca2_1, cag_1, cah_1⟩ | exact ⟨keep_new c0_1, keep_new ca2_1, keep_new cag_1, keep_new cah_1⟩ | exact ⟨keep_aa c0_1, keep_aa ca2_1, keep_aa cag_1, keep_aa cah_1⟩ | exact ⟨keep_addd c0, keep_addd ca2, keep_addd cag, keep_addd cah⟩ | exact ⟨keep_ddd c0, keep_ddd ca2, keep_ddd cag, keep_ddd cah⟩) (first | (have _q := hb1; go_at_call 19; refine (wOf2_ret 4 x X1 lo w1 (hx.up2 hb1) hX1).mono ?_; rintro e w2 ⟨X2, rfl, ht2, hX2, hb2⟩; have c0_2 := cell_later hb2 c0_1; have ca2_2 := cell_later hb2 ca2_1; have cag_2 := cell_later hb2 cag_1; have cah_2 := cell_later hb2 cah_1; have hB2 := hB1.trans (hb2.mono hB1.size)) | (go_at_call 19; refine (wOf2_row 4 y c lo w _ _ bel_addd (by have := hL.le; omega) blk_nddd hy hc).mono ?_; rintro e w1 ⟨X1, rfl, ht1, hX1, hb1, hc1⟩; have c0_1 := cell_later hb1 c0; have ca2_1 := cell_later hb1 ca2; have cag_1 := cell_later hb1 cag; have cah_1 := cell_later hb1 cah; have hB1 := hb1))
        all_goals
          go_wp2_with fail
          go_ret
          exact by_yes rfl hL.le (Below.refl lo w) hB2 hX2 (by simp only [ht2, ht1, LT.tr]) (group_and _ _ _ _ _) ⟨.inl rfl, OKx.out, ⟨.inl rfl, OKy.out, OKc.out⟩⟩ (by simp only [LT.tr, Tr.size]; omega)
      · have hba : (a.tr.kind == 4) = false := by simpa using hka
        by_cases hkc : c.tr.kind = 4
        · have ca := LT.open0 (show a.In w 38 29 lo w.heap.size from hL.2.1)
          obtain ⟨g, cap, rfl, -, c2, cg, ch, ha, hc⟩ := LT.open2 hL
          have hoka := hok.2.1
          have hokc := hok.2.2
          obtain ⟨bc, fc, vc, x, y, rfl⟩ := LT.is2 hokc hkc (by decide)
          clear hkc
          obtain ⟨gc, capc, rfl, cc0, cc2, ccg, cch, hx, hy⟩ := LT.open2 hc
          have hokx := hokc.2.1
          have hoky := hokc.2.2
          replace c0 : w.cell? ⟨b, 0, none⟩ = some (.int .i64 4) := c0
          replace c2 : w.cell? ⟨b, 2, none⟩ = some (.slice (some ⟨g, 0, none⟩) 2 cap) := c2
          replace cg : w.cell? ⟨g, 0, none⟩ = some (.pointer (some ⟨a.blk, 0, none⟩)) := cg
          replace ch : w.cell? ⟨g, 1, none⟩ = some (.pointer (some ⟨bc, 0, none⟩)) := ch
          replace cc0 : w.cell? ⟨bc, 0, none⟩ = some (.int .i64 4) := cc0
          replace cc2 : w.cell? ⟨bc, 2, none⟩ = some (.slice (some ⟨gc, 0, none⟩) 2 capc) := cc2
          replace ccg : w.cell? ⟨gc, 0, none⟩ = some (.pointer (some ⟨x.blk, 0, none⟩)) := ccg
          replace cch : w.cell? ⟨gc, 1, none⟩ = some (.pointer (some ⟨y.blk, 0, none⟩)) := cch
          replace ha : a.In w 38 29 lo w.heap.size := ha
          replace hx : x.In w 38 29 lo w.heap.size := hx
          replace hy : y.In w 38 29 lo w.heap.size := hy
          replace hc : (LT.n2 bc 4 fc (.slice (some ⟨gc, 0, none⟩) 2 capc) x y).In w 38 29 lo w.heap.size := hc
          replace hL : (LT.n2 b 4 f (.slice (some ⟨g, 0, none⟩) 2 cap) a (LT.n2 bc 4 fc (.slice (some ⟨gc, 0, none⟩) 2 capc) x y)).In w 38 29 lo w.heap.size := hL
          have HOK := Lib.hid hok
          have OKa := Lib.hid hoka
          have OKx := Lib.hid hokx
          have OKy := Lib.hid hoky
          clear hok hoka hokx hoky hokc
          go_enter Try.func24, Try.ntmps24
          go_wp2_with fail
          go_region_held3 (fun w' => w'.cell? ⟨b, 2, none⟩ = some (.slice (some ⟨g, 0, none⟩) 2 cap) ∧ w'.cell? ⟨g, 0, none⟩ = some (.pointer (some ⟨a.blk, 0, none⟩)) ∧ w'.cell? ⟨g, 1, none⟩ = some (.pointer (some ⟨bc, 0, none⟩))) (exact ⟨keep_d c2, keep_d cg, keep_d ch⟩) (fail)
          go_wp2_with fail
          go_region_held3 (fun w' => w'.cell? ⟨hbx, 0, none⟩ = some (.bool true) ∧ w'.cell? ⟨a.blk, 0, none⟩ = some (.int .i64 a.tr.kind) ∧ w'.cell? ⟨b, 0, none⟩ = some (.int .i64 4)) (exact ⟨keep_dd cx, keep_dd ca, keep_dd c0⟩) (fail)
          go_wp2_with fail
          go_region_held3 (fun w' => w'.cell? ⟨hbx, 0, none⟩ = some (.bool true) ∧ w'.cell? ⟨bc, 0, none⟩ = some (.int .i64 4) ∧ w'.cell? ⟨b, 0, none⟩ = some (.int .i64 4)) (exact ⟨keep_ddd cx, keep_ddd cc0, keep_ddd c0⟩) (fail)
          go_wp2_with fail
          go_region_held3 (fun w' => w'.cell? ⟨b, 0, none⟩ = some (.int .i64 4) ∧ w'.cell? ⟨bc, 2, none⟩ = some (.slice (some ⟨gc, 0, none⟩) 2 capc) ∧ w'.cell? ⟨gc, 0, none⟩ = some (.pointer (some ⟨x.blk, 0, none⟩)) ∧ w'.cell? ⟨gc, 1, none⟩ = some (.pointer (some ⟨y.blk, 0, none⟩))) (first | exact ⟨c0_2, cc2_2, ccg_2, cch_2⟩ | exact ⟨keep_new c0_2, keep_new cc2_2, keep_new ccg_2, keep_new cch_2⟩ | exact ⟨keep_aa c0_2, keep_aa cc2_2, keep_aa ccg_2, keep_aa cch_2⟩ | exact ⟨c0_1, cc2_1, ccg_1, cch_1⟩ | exact ⟨keep_new c0_1, keep_new cc2_1, keep_new ccg_1, keep_new cch_1⟩ | exact ⟨keep_aa c0_1, keep_aa cc2_1, keep_aa ccg_1, keep_aa cch_1⟩ | exact ⟨keep_adddd c0, keep_adddd cc2, keep_adddd ccg, keep_adddd cch⟩ | exact ⟨keep_dddd c0, keep_dddd cc2, keep_dddd ccg, keep_dddd cch⟩) (first | (have _q := hb1; go_at_call 19; refine (wOf2_ret 4 X1 y lo w1 hX1 (hy.up2 hb1)).mono ?_; rintro e w2 ⟨X2, rfl, ht2, hX2, hb2⟩; have c0_2 := cell_later hb2 c0_1; have cc2_2 := cell_later hb2 cc2_1; have ccg_2 := cell_later hb2 ccg_1; have cch_2 := cell_later hb2 cch_1; have hB2 := hB1.trans (hb2.mono hB1.size)) | (go_at_call 19; refine (wOf2_row 4 a x lo w _ _ bel_adddd (by have := hL.le; omega) blk_ndddd ha hx).mono ?_; rintro e w1 ⟨X1, rfl, ht1, hX1, hb1, hc1⟩; have c0_1 := cell_later hb1 c0; have cc2_1 := cell_later hb1 cc2; have ccg_1 := cell_later hb1 ccg; have cch_1 := cell_later hb1 cch; have hB1 := hb1))
          all_goals
            go_wp2_with fail
            go_ret
            exact by_yes rfl hL.le (Below.refl lo w) hB2 hX2 (by simp only [ht2, ht1, LT.tr]) (group_and' _ _ _ _ _) ⟨.inl rfl, ⟨.inl rfl, OKa.out, OKx.out⟩, OKy.out⟩ (by simp only [LT.tr, Tr.size]; omega)
        · have hbc : (c.tr.kind == 4) = false := by simpa using hkc
          have ca := LT.open0 (show a.In w 38 29 lo w.heap.size from hL.2.1)
          have cc := LT.open0 (show c.In w 38 29 lo w.heap.size from hL.2.2)
          obtain ⟨g, cap, rfl, -, c2, cg, ch, ha, hc⟩ := LT.open2 hL
          have hoka := hok.2.1
          have hokc := hok.2.2
          replace c0 : w.cell? ⟨b, 0, none⟩ = some (.int .i64 4) := c0
          replace c2 : w.cell? ⟨b, 2, none⟩ = some (.slice (some ⟨g, 0, none⟩) 2 cap) := c2
          replace cg : w.cell? ⟨g, 0, none⟩ = some (.pointer (some ⟨a.blk, 0, none⟩)) := cg
          replace ch : w.cell? ⟨g, 1, none⟩ = some (.pointer (some ⟨c.blk, 0, none⟩)) := ch
          replace ha : a.In w 38 29 lo w.heap.size := ha
          replace hc : c.In w 38 29 lo w.heap.size := hc
          replace hL : (LT.n2 b 4 f (.slice (some ⟨g, 0, none⟩) 2 cap) a c).In w 38 29 lo w.heap.size := hL
          have HOK := Lib.hid hok
          have OKa := Lib.hid hoka
          have OKc := Lib.hid hokc
          clear hok hoka hokc
          go_enter Try.func24, Try.ntmps24
          go_wp2_with fail
          go_region_held3 (fun w' => w'.cell? ⟨b, 2, none⟩ = some (.slice (some ⟨g, 0, none⟩) 2 cap) ∧ w'.cell? ⟨g, 0, none⟩ = some (.pointer (some ⟨a.blk, 0, none⟩)) ∧ w'.cell? ⟨g, 1, none⟩ = some (.pointer (some ⟨c.blk, 0, none⟩))) (exact ⟨keep_d c2, keep_d cg, keep_d ch⟩) (fail)
          go_wp2_with fail
          go_region_held3 (fun w' => w'.cell? ⟨hbx, 0, none⟩ = some (.bool true) ∧ w'.cell? ⟨a.blk, 0, none⟩ = some (.int .i64 a.tr.kind) ∧ w'.cell? ⟨b, 0, none⟩ = some (.int .i64 4)) (exact ⟨keep_dd cx, keep_dd ca, keep_dd c0⟩) (fail)
          go_wp2_with fail
          go_region_held3 (fun w' => w'.cell? ⟨hbx, 0, none⟩ = some (.bool true) ∧ w'.cell? ⟨c.blk, 0, none⟩ = some (.int .i64 c.tr.kind) ∧ w'.cell? ⟨b, 0, none⟩ = some (.int .i64 4)) (exact ⟨keep_ddd cx, keep_ddd cc, keep_ddd c0⟩) (fail)
          go_wp2_with (go_at_call 19; refine (wOf2_row 4 c a lo w _ _ bel_addd (by have := hL.le; omega) blk_nddd hc ha).mono ?_; rintro e w1 ⟨X1, rfl, ht1, hX1, hb1, hc1⟩)
          go_ret
          exact by_yes rfl hL.le (Below.refl lo w) hb1 hX1 (by simp only [ht1, LT.tr]) (turned_and _ _ _) ⟨.inl rfl, OKc.out, OKa.out⟩ (by simp only [LT.tr, Tr.size]; omega)
  · have hoka := hok.2.1
    have hokc := hok.2.2
    cases flag
    · have ca := LT.open0 (show a.In w 38 29 lo w.heap.size from hL.2.1)
      have cc := LT.open0 (show c.In w 38 29 lo w.heap.size from hL.2.2)
      obtain ⟨g, cap, rfl, -, c2, cg, ch, ha, hc⟩ := LT.open2 hL
      have hoka := hok.2.1
      have hokc := hok.2.2
      replace c0 : w.cell? ⟨b, 0, none⟩ = some (.int .i64 5) := c0
      replace c2 : w.cell? ⟨b, 2, none⟩ = some (.slice (some ⟨g, 0, none⟩) 2 cap) := c2
      replace cg : w.cell? ⟨g, 0, none⟩ = some (.pointer (some ⟨a.blk, 0, none⟩)) := cg
      replace ch : w.cell? ⟨g, 1, none⟩ = some (.pointer (some ⟨c.blk, 0, none⟩)) := ch
      replace ha : a.In w 38 29 lo w.heap.size := ha
      replace hc : c.In w 38 29 lo w.heap.size := hc
      replace hL : (LT.n2 b 5 f (.slice (some ⟨g, 0, none⟩) 2 cap) a c).In w 38 29 lo w.heap.size := hL
      have HOK := Lib.hid hok
      have OKa := Lib.hid hoka
      have OKc := Lib.hid hokc
      clear hok hoka hokc
      go_enter Try.func24, Try.ntmps24
      go_wp2_with fail
      go_region_held3 (fun w' => w'.cell? ⟨b, 2, none⟩ = some (.slice (some ⟨g, 0, none⟩) 2 cap) ∧ w'.cell? ⟨g, 0, none⟩ = some (.pointer (some ⟨a.blk, 0, none⟩)) ∧ w'.cell? ⟨g, 1, none⟩ = some (.pointer (some ⟨c.blk, 0, none⟩))) (exact ⟨keep_d c2, keep_d cg, keep_d ch⟩) (fail)
      go_wp2_with fail
      refine wp_region_held_drew (S := fun w' => w'.cell? ⟨hbx, 0, none⟩ = some (.bool false)) (by kernel_rfl) (keep_dd cx) (fun hHeld => ?_)
      refine take_val (.bool false) (i := 0) (d := some 31) rfl rfl (by kernel_rfl) (by kernel_rfl) (by kernel_rfl) (fun _ _ _ h => h) (by rfl) (by (intro w' hSw; (try dsimp only at hSw); go_simp)) hHeld ?_
      try simp only [Act.put, List.setIfInBounds_toArray, List.set_cons_zero, List.set_cons_succ]
      refine take_val (.bool false) (i := 1) (d := some 32) rfl rfl (by kernel_rfl) (by kernel_rfl) (by kernel_rfl) (fun _ _ _ h => h) (by rfl) (by (intro w' hSw; (try dsimp only at hSw); go_simp)) hHeld ?_
      try simp only [Act.put, List.setIfInBounds_toArray, List.set_cons_zero, List.set_cons_succ]
      refine take_skip (i := 2) (d := some 33) rfl rfl (by kernel_rfl) (by kernel_rfl) (by kernel_rfl) (fun _ _ _ h => h) (by rfl) hHeld ?_
      try simp only [Act.put, List.setIfInBounds_toArray, List.set_cons_zero, List.set_cons_succ]
      refine take_skip (i := 3) (d := some 34) rfl rfl (by kernel_rfl) (by kernel_rfl) (by kernel_rfl) (fun _ _ _ h => h) (by rfl) hHeld ?_
      try simp only [Act.put, List.setIfInBounds_toArray, List.set_cons_zero, List.set_cons_succ]
      refine take_skip (i := 4) (d := some 35) rfl rfl (by kernel_rfl) (by kernel_rfl) (by kernel_rfl) (fun _ _ _ h => h) (by rfl) hHeld ?_
      try simp only [Act.put, List.setIfInBounds_toArray, List.set_cons_zero, List.set_cons_succ]
      refine take_skip (i := 5) (d := some 36) rfl rfl (by kernel_rfl) (by kernel_rfl) (by kernel_rfl) (fun _ _ _ h => h) (by rfl) hHeld ?_
      try simp only [Act.put, List.setIfInBounds_toArray, List.set_cons_zero, List.set_cons_succ]
      refine take_skip (i := 6) (d := some 37) rfl rfl (by kernel_rfl) (by kernel_rfl) (by kernel_rfl) (fun _ _ _ h => h) (by rfl) hHeld ?_
      try simp only [Act.put, List.setIfInBounds_toArray, List.set_cons_zero, List.set_cons_succ]
      refine take_skip (i := 7) (d := some 38) rfl rfl (by kernel_rfl) (by kernel_rfl) (by kernel_rfl) (fun _ _ _ h => h) (by rfl) hHeld ?_
      try simp only [Act.put, List.setIfInBounds_toArray, List.set_cons_zero, List.set_cons_succ]
      refine take_skip (i := 8) (d := some 39) rfl rfl (by kernel_rfl) (by kernel_rfl) (by kernel_rfl) (fun _ _ _ h => h) (by rfl) hHeld ?_
      try simp only [Act.put, List.setIfInBounds_toArray, List.set_cons_zero, List.set_cons_succ]
      refine take_skip (i := 9) (d := some 40) rfl rfl (by kernel_rfl) (by kernel_rfl) (by kernel_rfl) (fun _ _ _ h => h) (by rfl) hHeld ?_
      try simp only [Act.put, List.setIfInBounds_toArray, List.set_cons_zero, List.set_cons_succ]
      refine take_skip (i := 10) (d := some 41) rfl rfl (by kernel_rfl) (by kernel_rfl) (by kernel_rfl) (fun _ _ _ h => h) (by rfl) hHeld ?_
      try simp only [Act.put, List.setIfInBounds_toArray, List.set_cons_zero, List.set_cons_succ]
      refine take_val (.bool false) (i := 11) (d := some 42) rfl rfl (by kernel_rfl) (by kernel_rfl) (by kernel_rfl) (fun _ _ _ h => h) (by rfl) (by (intro w' hSw; (try dsimp only at hSw); go_simp)) hHeld ?_
      try simp only [Act.put, List.setIfInBounds_toArray, List.set_cons_zero, List.set_cons_succ]
      refine take_val (.bool false) (i := 12) (d := some 30) rfl rfl (by kernel_rfl) (by kernel_rfl) (by kernel_rfl) (fun _ _ _ h => h) (by rfl) (by (intro w' hSw; (try dsimp only at hSw); go_simp)) hHeld ?_
      try simp only [Act.put, List.setIfInBounds_toArray, List.set_cons_zero, List.set_cons_succ]
      refine wpAnyH_done (by kernel_rfl) ?_ _
      clear hHeld
      go_wp2_with fail
      refine wp_region_held_drew (S := fun w' => w'.cell? ⟨hbx, 0, none⟩ = some (.bool false)) (by kernel_rfl) (keep_ddd cx) (fun hHeld => ?_)
      refine take_val (.bool false) (i := 0) (d := some 69) rfl rfl (by kernel_rfl) (by kernel_rfl) (by kernel_rfl) (fun _ _ _ h => h) (by rfl) (by (intro w' hSw; (try dsimp only at hSw); go_simp)) hHeld ?_
      try simp only [Act.put, List.setIfInBounds_toArray, List.set_cons_zero, List.set_cons_succ]
      refine take_val (.bool false) (i := 1) (d := some 70) rfl rfl (by kernel_rfl) (by kernel_rfl) (by kernel_rfl) (fun _ _ _ h => h) (by rfl) (by (intro w' hSw; (try dsimp only at hSw); go_simp)) hHeld ?_
      try simp only [Act.put, List.setIfInBounds_toArray, List.set_cons_zero, List.set_cons_succ]
      refine take_skip (i := 2) (d := some 71) rfl rfl (by kernel_rfl) (by kernel_rfl) (by kernel_rfl) (fun _ _ _ h => h) (by rfl) hHeld ?_
      try simp only [Act.put, List.setIfInBounds_toArray, List.set_cons_zero, List.set_cons_succ]
      refine take_skip (i := 3) (d := some 72) rfl rfl (by kernel_rfl) (by kernel_rfl) (by kernel_rfl) (fun _ _ _ h => h) (by rfl) hHeld ?_
      try simp only [Act.put, List.setIfInBounds_toArray, List.set_cons_zero, List.set_cons_succ]
      refine take_skip (i := 4) (d := some 73) rfl rfl (by kernel_rfl) (by kernel_rfl) (by kernel_rfl) (fun _ _ _ h => h) (by rfl) hHeld ?_
      try simp only [Act.put, List.setIfInBounds_toArray, List.set_cons_zero, List.set_cons_succ]
      refine take_skip (i := 5) (d := some 74) rfl rfl (by kernel_rfl) (by kernel_rfl) (by kernel_rfl) (fun _ _ _ h => h) (by rfl) hHeld ?_
      try simp only [Act.put, List.setIfInBounds_toArray, List.set_cons_zero, List.set_cons_succ]
      refine take_skip (i := 6) (d := some 75) rfl rfl (by kernel_rfl) (by kernel_rfl) (by kernel_rfl) (fun _ _ _ h => h) (by rfl) hHeld ?_
      try simp only [Act.put, List.setIfInBounds_toArray, List.set_cons_zero, List.set_cons_succ]
      refine take_skip (i := 7) (d := some 76) rfl rfl (by kernel_rfl) (by kernel_rfl) (by kernel_rfl) (fun _ _ _ h => h) (by rfl) hHeld ?_
      try simp only [Act.put, List.setIfInBounds_toArray, List.set_cons_zero, List.set_cons_succ]
      refine take_skip (i := 8) (d := some 77) rfl rfl (by kernel_rfl) (by kernel_rfl) (by kernel_rfl) (fun _ _ _ h => h) (by rfl) hHeld ?_
      try simp only [Act.put, List.setIfInBounds_toArray, List.set_cons_zero, List.set_cons_succ]
      refine take_skip (i := 9) (d := some 78) rfl rfl (by kernel_rfl) (by kernel_rfl) (by kernel_rfl) (fun _ _ _ h => h) (by rfl) hHeld ?_
      try simp only [Act.put, List.setIfInBounds_toArray, List.set_cons_zero, List.set_cons_succ]
      refine take_skip (i := 10) (d := some 79) rfl rfl (by kernel_rfl) (by kernel_rfl) (by kernel_rfl) (fun _ _ _ h => h) (by rfl) hHeld ?_
      try simp only [Act.put, List.setIfInBounds_toArray, List.set_cons_zero, List.set_cons_succ]
      refine take_val (.bool false) (i := 11) (d := some 80) rfl rfl (by kernel_rfl) (by kernel_rfl) (by kernel_rfl) (fun _ _ _ h => h) (by rfl) (by (intro w' hSw; (try dsimp only at hSw); go_simp)) hHeld ?_
      try simp only [Act.put, List.setIfInBounds_toArray, List.set_cons_zero, List.set_cons_succ]
      refine take_val (.bool false) (i := 12) (d := some 68) rfl rfl (by kernel_rfl) (by kernel_rfl) (by kernel_rfl) (fun _ _ _ h => h) (by rfl) (by (intro w' hSw; (try dsimp only at hSw); go_simp)) hHeld ?_
      try simp only [Act.put, List.setIfInBounds_toArray, List.set_cons_zero, List.set_cons_succ]
      refine wpAnyH_done (by kernel_rfl) ?_ _
      clear hHeld
      go_wp2_with (go_at_call 19; refine (wOf2_row 5 c a lo w _ _ bel_addd (by have := hL.le; omega) blk_nddd hc ha).mono ?_; rintro e w1 ⟨X1, rfl, ht1, hX1, hb1, hc1⟩)
      go_ret
      exact by_yes rfl hL.le (Below.refl lo w) hb1 hX1 (by simp only [ht1, LT.tr]) (turned_or _ _ _) ⟨.inr (.inl rfl), OKc.out, OKa.out⟩ (by simp only [LT.tr, Tr.size]; omega)
    · by_cases hka : a.tr.kind = 5
      · have cc := LT.open0 (show c.In w 38 29 lo w.heap.size from hL.2.2)
        obtain ⟨g, cap, rfl, -, c2, cg, ch, ha, hc⟩ := LT.open2 hL
        have hoka := hok.2.1
        have hokc := hok.2.2
        obtain ⟨ba, fa, va, x, y, rfl⟩ := LT.is2 hoka hka (by decide)
        clear hka
        obtain ⟨ga, capa, rfl, ca0, ca2, cag, cah, hx, hy⟩ := LT.open2 ha
        have hokx := hoka.2.1
        have hoky := hoka.2.2
        replace c0 : w.cell? ⟨b, 0, none⟩ = some (.int .i64 5) := c0
        replace c2 : w.cell? ⟨b, 2, none⟩ = some (.slice (some ⟨g, 0, none⟩) 2 cap) := c2
        replace cg : w.cell? ⟨g, 0, none⟩ = some (.pointer (some ⟨ba, 0, none⟩)) := cg
        replace ch : w.cell? ⟨g, 1, none⟩ = some (.pointer (some ⟨c.blk, 0, none⟩)) := ch
        replace ca0 : w.cell? ⟨ba, 0, none⟩ = some (.int .i64 5) := ca0
        replace ca2 : w.cell? ⟨ba, 2, none⟩ = some (.slice (some ⟨ga, 0, none⟩) 2 capa) := ca2
        replace cag : w.cell? ⟨ga, 0, none⟩ = some (.pointer (some ⟨x.blk, 0, none⟩)) := cag
        replace cah : w.cell? ⟨ga, 1, none⟩ = some (.pointer (some ⟨y.blk, 0, none⟩)) := cah
        replace hx : x.In w 38 29 lo w.heap.size := hx
        replace hy : y.In w 38 29 lo w.heap.size := hy
        replace ha : (LT.n2 ba 5 fa (.slice (some ⟨ga, 0, none⟩) 2 capa) x y).In w 38 29 lo w.heap.size := ha
        replace hc : c.In w 38 29 lo w.heap.size := hc
        replace hL : (LT.n2 b 5 f (.slice (some ⟨g, 0, none⟩) 2 cap) (LT.n2 ba 5 fa (.slice (some ⟨ga, 0, none⟩) 2 capa) x y) c).In w 38 29 lo w.heap.size := hL
        have HOK := Lib.hid hok
        have OKx := Lib.hid hokx
        have OKy := Lib.hid hoky
        have OKc := Lib.hid hokc
        clear hok hokx hoky hoka hokc
        go_enter Try.func24, Try.ntmps24
        go_wp2_with fail
        go_region_held3 (fun w' => w'.cell? ⟨b, 2, none⟩ = some (.slice (some ⟨g, 0, none⟩) 2 cap) ∧ w'.cell? ⟨g, 0, none⟩ = some (.pointer (some ⟨ba, 0, none⟩)) ∧ w'.cell? ⟨g, 1, none⟩ = some (.pointer (some ⟨c.blk, 0, none⟩))) (exact ⟨keep_d c2, keep_d cg, keep_d ch⟩) (fail)
        go_wp2_with fail
        go_region_held3 (fun w' => w'.cell? ⟨hbx, 0, none⟩ = some (.bool true) ∧ w'.cell? ⟨ba, 0, none⟩ = some (.int .i64 5) ∧ w'.cell? ⟨b, 0, none⟩ = some (.int .i64 5)) (exact ⟨keep_dd cx, keep_dd ca0, keep_dd c0⟩) (fail)
        go_wp2_with fail
        go_region_held3 (fun w' => w'.cell? ⟨b, 0, none⟩ = some (.int .i64 5) ∧ w'.cell? ⟨ba, 2, none⟩ = some (.slice (some ⟨ga, 0, none⟩) 2 capa) ∧ w'.cell? ⟨ga, 0, none⟩ = some (.pointer (some ⟨x.blk, 0, none⟩)) ∧ w'.cell? ⟨ga, 1, none⟩ = some (.pointer (some ⟨y.blk, 0, none⟩))) (first | exact ⟨c0_2, ca2_2, cag_2, cah_2⟩ | exact ⟨keep_new c0_2, keep_new ca2_2, keep_new cag_2, keep_new cah_2⟩ | exact ⟨keep_aa c0_2, keep_aa ca2_2, keep_aa cag_2, keep_aa cah_2⟩ | exact ⟨c0_1, ca2_1, cag_1, cah_1⟩ | exact ⟨keep_new c0_1, keep_new ca2_1, keep_new cag_1, keep_new cah_1⟩ | exact ⟨keep_aa c0_1, keep_aa ca2_1, keep_aa cag_1, keep_aa cah_1⟩ | exact ⟨keep_addd c0, keep_addd ca2, keep_addd cag, keep_addd cah⟩ | exact ⟨keep_ddd c0, keep_ddd ca2, keep_ddd cag, keep_ddd cah⟩) (first | (have _q := hb1; go_at_call 19; refine (wOf2_ret 5 x X1 lo w1 (hx.up2 hb1) hX1).mono ?_; rintro e w2 ⟨X2, rfl, ht2, hX2, hb2⟩; have c0_2 := cell_later hb2 c0_1; have ca2_2 := cell_later hb2 ca2_1; have cag_2 := cell_later hb2 cag_1; have cah_2 := cell_later hb2 cah_1; have hB2 := hB1.trans (hb2.mono hB1.size)) | (go_at_call 19; refine (wOf2_row 5 y c lo w _ _ bel_addd (by have := hL.le; omega) blk_nddd hy hc).mono ?_; rintro e w1 ⟨X1, rfl, ht1, hX1, hb1, hc1⟩; have c0_1 := cell_later hb1 c0; have ca2_1 := cell_later hb1 ca2; have cag_1 := cell_later hb1 cag; have cah_1 := cell_later hb1 cah; have hB1 := hb1))
        all_goals
          go_wp2_with fail
          go_ret
          exact by_yes rfl hL.le (Below.refl lo w) hB2 hX2 (by simp only [ht2, ht1, LT.tr]) (group_or _ _ _ _ _) ⟨.inr (.inl rfl), OKx.out, ⟨.inr (.inl rfl), OKy.out, OKc.out⟩⟩ (by simp only [LT.tr, Tr.size]; omega)
      · have hba : (a.tr.kind == 5) = false := by simpa using hka
        by_cases hkc : c.tr.kind = 5
        · have ca := LT.open0 (show a.In w 38 29 lo w.heap.size from hL.2.1)
          obtain ⟨g, cap, rfl, -, c2, cg, ch, ha, hc⟩ := LT.open2 hL
          have hoka := hok.2.1
          have hokc := hok.2.2
          obtain ⟨bc, fc, vc, x, y, rfl⟩ := LT.is2 hokc hkc (by decide)
          clear hkc
          obtain ⟨gc, capc, rfl, cc0, cc2, ccg, cch, hx, hy⟩ := LT.open2 hc
          have hokx := hokc.2.1
          have hoky := hokc.2.2
          replace c0 : w.cell? ⟨b, 0, none⟩ = some (.int .i64 5) := c0
          replace c2 : w.cell? ⟨b, 2, none⟩ = some (.slice (some ⟨g, 0, none⟩) 2 cap) := c2
          replace cg : w.cell? ⟨g, 0, none⟩ = some (.pointer (some ⟨a.blk, 0, none⟩)) := cg
          replace ch : w.cell? ⟨g, 1, none⟩ = some (.pointer (some ⟨bc, 0, none⟩)) := ch
          replace cc0 : w.cell? ⟨bc, 0, none⟩ = some (.int .i64 5) := cc0
          replace cc2 : w.cell? ⟨bc, 2, none⟩ = some (.slice (some ⟨gc, 0, none⟩) 2 capc) := cc2
          replace ccg : w.cell? ⟨gc, 0, none⟩ = some (.pointer (some ⟨x.blk, 0, none⟩)) := ccg
          replace cch : w.cell? ⟨gc, 1, none⟩ = some (.pointer (some ⟨y.blk, 0, none⟩)) := cch
          replace ha : a.In w 38 29 lo w.heap.size := ha
          replace hx : x.In w 38 29 lo w.heap.size := hx
          replace hy : y.In w 38 29 lo w.heap.size := hy
          replace hc : (LT.n2 bc 5 fc (.slice (some ⟨gc, 0, none⟩) 2 capc) x y).In w 38 29 lo w.heap.size := hc
          replace hL : (LT.n2 b 5 f (.slice (some ⟨g, 0, none⟩) 2 cap) a (LT.n2 bc 5 fc (.slice (some ⟨gc, 0, none⟩) 2 capc) x y)).In w 38 29 lo w.heap.size := hL
          have HOK := Lib.hid hok
          have OKa := Lib.hid hoka
          have OKx := Lib.hid hokx
          have OKy := Lib.hid hoky
          clear hok hoka hokx hoky hokc
          go_enter Try.func24, Try.ntmps24
          go_wp2_with fail
          go_region_held3 (fun w' => w'.cell? ⟨b, 2, none⟩ = some (.slice (some ⟨g, 0, none⟩) 2 cap) ∧ w'.cell? ⟨g, 0, none⟩ = some (.pointer (some ⟨a.blk, 0, none⟩)) ∧ w'.cell? ⟨g, 1, none⟩ = some (.pointer (some ⟨bc, 0, none⟩))) (exact ⟨keep_d c2, keep_d cg, keep_d ch⟩) (fail)
          go_wp2_with fail
          go_region_held3 (fun w' => w'.cell? ⟨hbx, 0, none⟩ = some (.bool true) ∧ w'.cell? ⟨a.blk, 0, none⟩ = some (.int .i64 a.tr.kind) ∧ w'.cell? ⟨b, 0, none⟩ = some (.int .i64 5)) (exact ⟨keep_dd cx, keep_dd ca, keep_dd c0⟩) (fail)
          go_wp2_with fail
          go_region_held3 (fun w' => w'.cell? ⟨hbx, 0, none⟩ = some (.bool true) ∧ w'.cell? ⟨bc, 0, none⟩ = some (.int .i64 5) ∧ w'.cell? ⟨b, 0, none⟩ = some (.int .i64 5)) (exact ⟨keep_ddd cx, keep_ddd cc0, keep_ddd c0⟩) (fail)
          go_wp2_with fail
          go_region_held3 (fun w' => w'.cell? ⟨b, 0, none⟩ = some (.int .i64 5) ∧ w'.cell? ⟨bc, 2, none⟩ = some (.slice (some ⟨gc, 0, none⟩) 2 capc) ∧ w'.cell? ⟨gc, 0, none⟩ = some (.pointer (some ⟨x.blk, 0, none⟩)) ∧ w'.cell? ⟨gc, 1, none⟩ = some (.pointer (some ⟨y.blk, 0, none⟩))) (first | exact ⟨c0_2, cc2_2, ccg_2, cch_2⟩ | exact ⟨keep_new c0_2, keep_new cc2_2, keep_new ccg_2, keep_new cch_2⟩ | exact ⟨keep_aa c0_2, keep_aa cc2_2, keep_aa ccg_2, keep_aa cch_2⟩ | exact ⟨c0_1, cc2_1, ccg_1, cch_1⟩ | exact ⟨keep_new c0_1, keep_new cc2_1, keep_new ccg_1, keep_new cch_1⟩ | exact ⟨keep_aa c0_1, keep_aa cc2_1, keep_aa ccg_1, keep_aa cch_1⟩ | exact ⟨keep_adddd c0, keep_adddd cc2, keep_adddd ccg, keep_adddd cch⟩ | exact ⟨keep_dddd c0, keep_dddd cc2, keep_dddd ccg, keep_dddd cch⟩) (first | (have _q := hb1; go_at_call 19; refine (wOf2_ret 5 X1 y lo w1 hX1 (hy.up2 hb1)).mono ?_; rintro e w2 ⟨X2, rfl, ht2, hX2, hb2⟩; have c0_2 := cell_later hb2 c0_1; have cc2_2 := cell_later hb2 cc2_1; have ccg_2 := cell_later hb2 ccg_1; have cch_2 := cell_later hb2 cch_1; have hB2 := hB1.trans (hb2.mono hB1.size)) | (go_at_call 19; refine (wOf2_row 5 a x lo w _ _ bel_adddd (by have := hL.le; omega) blk_ndddd ha hx).mono ?_; rintro e w1 ⟨X1, rfl, ht1, hX1, hb1, hc1⟩; have c0_1 := cell_later hb1 c0; have cc2_1 := cell_later hb1 cc2; have ccg_1 := cell_later hb1 ccg; have cch_1 := cell_later hb1 cch; have hB1 := hb1))
          all_goals
            go_wp2_with fail
            go_ret
            exact by_yes rfl hL.le (Below.refl lo w) hB2 hX2 (by simp only [ht2, ht1, LT.tr]) (group_or' _ _ _ _ _) ⟨.inr (.inl rfl), ⟨.inr (.inl rfl), OKa.out, OKx.out⟩, OKy.out⟩ (by simp only [LT.tr, Tr.size]; omega)
        · have hbc : (c.tr.kind == 5) = false := by simpa using hkc
          have ca := LT.open0 (show a.In w 38 29 lo w.heap.size from hL.2.1)
          have cc := LT.open0 (show c.In w 38 29 lo w.heap.size from hL.2.2)
          obtain ⟨g, cap, rfl, -, c2, cg, ch, ha, hc⟩ := LT.open2 hL
          have hoka := hok.2.1
          have hokc := hok.2.2
          replace c0 : w.cell? ⟨b, 0, none⟩ = some (.int .i64 5) := c0
          replace c2 : w.cell? ⟨b, 2, none⟩ = some (.slice (some ⟨g, 0, none⟩) 2 cap) := c2
          replace cg : w.cell? ⟨g, 0, none⟩ = some (.pointer (some ⟨a.blk, 0, none⟩)) := cg
          replace ch : w.cell? ⟨g, 1, none⟩ = some (.pointer (some ⟨c.blk, 0, none⟩)) := ch
          replace ha : a.In w 38 29 lo w.heap.size := ha
          replace hc : c.In w 38 29 lo w.heap.size := hc
          replace hL : (LT.n2 b 5 f (.slice (some ⟨g, 0, none⟩) 2 cap) a c).In w 38 29 lo w.heap.size := hL
          have HOK := Lib.hid hok
          have OKa := Lib.hid hoka
          have OKc := Lib.hid hokc
          clear hok hoka hokc
          go_enter Try.func24, Try.ntmps24
          go_wp2_with fail
          go_region_held3 (fun w' => w'.cell? ⟨b, 2, none⟩ = some (.slice (some ⟨g, 0, none⟩) 2 cap) ∧ w'.cell? ⟨g, 0, none⟩ = some (.pointer (some ⟨a.blk, 0, none⟩)) ∧ w'.cell? ⟨g, 1, none⟩ = some (.pointer (some ⟨c.blk, 0, none⟩))) (exact ⟨keep_d c2, keep_d cg, keep_d ch⟩) (fail)
          go_wp2_with fail
          go_region_held3 (fun w' => w'.cell? ⟨hbx, 0, none⟩ = some (.bool true) ∧ w'.cell? ⟨a.blk, 0, none⟩ = some (.int .i64 a.tr.kind) ∧ w'.cell? ⟨b, 0, none⟩ = some (.int .i64 5)) (exact ⟨keep_dd cx, keep_dd ca, keep_dd c0⟩) (fail)
          go_wp2_with fail
          go_region_held3 (fun w' => w'.cell? ⟨hbx, 0, none⟩ = some (.bool true) ∧ w'.cell? ⟨c.blk, 0, none⟩ = some (.int .i64 c.tr.kind) ∧ w'.cell? ⟨b, 0, none⟩ = some (.int .i64 5)) (exact ⟨keep_ddd cx, keep_ddd cc, keep_ddd c0⟩) (fail)
          go_wp2_with (go_at_call 19; refine (wOf2_row 5 c a lo w _ _ bel_addd (by have := hL.le; omega) blk_nddd hc ha).mono ?_; rintro e w1 ⟨X1, rfl, ht1, hX1, hb1, hc1⟩)
          go_ret
          exact by_yes rfl hL.le (Below.refl lo w) hb1 hX1 (by simp only [ht1, LT.tr]) (turned_or _ _ _) ⟨.inr (.inl rfl), OKc.out, OKa.out⟩ (by simp only [LT.tr, Tr.size]; omega)
  · go_enter Try.func24, Try.ntmps24
    go_wp2_with fail
    go_ret
    exact by_no rfl h0
  · go_enter Try.func24, Try.ntmps24
    go_wp2_with fail
    go_ret
    exact by_no rfl h0
  · go_enter Try.func24, Try.ntmps24
    go_wp2_with fail
    go_ret
    exact by_no rfl h0
  · go_enter Try.func24, Try.ntmps24
    go_wp2_with fail
    go_ret
    exact by_no rfl h0
end Go.Proofs.Ytdfbclkafocnpaa
