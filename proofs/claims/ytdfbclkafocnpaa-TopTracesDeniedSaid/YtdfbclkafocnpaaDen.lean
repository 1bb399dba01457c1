/- The rewriting of TopTracesDenied returns, for every right formula that lies in memory, no formula or one that is true for the same lists of states. Conditions: the formula has at most 60 nodes, and its blocks lie from a given one on. -/
import Derived.Test.YtdfbclkafocnpaaDenMap
import Derived.Test.YtdfbclkafocnpaaLaws
namespace Go.Proofs.Ytdfbclkafocnpaa
open Go.RowKit

def denB (T : Tr) : Bool := T.kind == 4 || T.kind == 5 || T.kind == 8 || T.kind == 9


set_option linter.unusedSimpArgs false in
set_option linter.unusedVariables false in
set_option maxHeartbeats 8000000 in
set_option maxRecDepth 20000 in
theorem den_by (facts : Int) (B : Nat) (w0 : World) : ByOkS facts denB 23 #[] B w0 := by
  refine ⟨enters_of Try.func23 (by kernel_rfl) rfl, fun L w lo hb0 hBlo hL hsep hok h60 => ?_⟩
  show Calls Try.prog 23 #[.pointer (some ⟨L.blk, 0, none⟩)] w (ByPost facts denB L lo w)
  clear hb0 hBlo h60
  have hlo : lo ≤ w.heap.size := hL.le
  have c0 := LT.open0 hL
  have h0 : Below lo w w := Below.refl _ _
  rcases LT.cases_ok hok with ⟨b, f, v, rfl⟩ | ⟨b, f, v, rfl⟩ | ⟨b, f, v, a, rfl⟩ | ⟨b, f, v, a, c, rfl⟩ | ⟨b, f, v, a, c, rfl⟩ | ⟨b, f, v, a, rfl⟩ | ⟨b, f, v, a, c, rfl⟩ | ⟨b, f, v, a, rfl⟩ | ⟨b, f, v, a, rfl⟩ <;> simp only [LT.blk, LT.tr, Tr.kind] at c0 ⊢
  · have m0 := RowKit.run_makeMap (P := Try.prog) 36 w
    have m1 : (Instr.mapUpdate 36 (.map (some w.heap.size)) (.int .i64 4) (.int .i64 5)).run Try.prog (w.alloc (.map #[] 0)) = .ok () (w.alloc (.map #[{ key := .int .i64 4, val := .int .i64 5, born := 0 }] 1)) := map_put w #[] 0 4 5 rfl
    have m2 : (Instr.mapUpdate 36 (.map (some w.heap.size)) (.int .i64 5) (.int .i64 4)).run Try.prog (w.alloc (.map #[{ key := .int .i64 4, val := .int .i64 5, born := 0 }] 1)) = .ok () (w.alloc (.map #[{ key := .int .i64 4, val := .int .i64 5, born := 0 }, { key := .int .i64 5, val := .int .i64 4, born := 1 }] 2)) := map_put w #[{ key := .int .i64 4, val := .int .i64 5, born := 0 }] 1 5 4 rfl
    have m3 : (Instr.mapUpdate 36 (.map (some w.heap.size)) (.int .i64 8) (.int .i64 9)).run Try.prog (w.alloc (.map #[{ key := .int .i64 4, val := .int .i64 5, born := 0 }, { key := .int .i64 5, val := .int .i64 4, born := 1 }] 2)) = .ok () (w.alloc (.map #[{ key := .int .i64 4, val := .int .i64 5, born := 0 }, { key := .int .i64 5, val := .int .i64 4, born := 1 }, { key := .int .i64 8, val := .int .i64 9, born := 2 }] 3)) := map_put w #[{ key := .int .i64 4, val := .int .i64 5, born := 0 }, { key := .int .i64 5, val := .int .i64 4, born := 1 }] 2 8 9 rfl
    have m4 : (Instr.mapUpdate 36 (.map (some w.heap.size)) (.int .i64 9) (.int .i64 8)).run Try.prog (w.alloc (.map #[{ key := .int .i64 4, val := .int .i64 5, born := 0 }, { key := .int .i64 5, val := .int .i64 4, born := 1 }, { key := .int .i64 8, val := .int .i64 9, born := 2 }] 3)) = .ok () (w.alloc (.map #[{ key := .int .i64 4, val := .int .i64 5, born := 0 }, { key := .int .i64 5, val := .int .i64 4, born := 1 }, { key := .int .i64 8, val := .int .i64 9, born := 2 }, { key := .int .i64 9, val := .int .i64 8, born := 3 }] 4)) := map_put w #[{ key := .int .i64 4, val := .int .i64 5, born := 0 }, { key := .int .i64 5, val := .int .i64 4, born := 1 }, { key := .int .i64 8, val := .int .i64 9, born := 2 }] 3 9 8 rfl
    have m5 : (Instr.lookup 36 (.map (some w.heap.size)) (.int .i64 1) false).run Try.prog (w.alloc (.map #[{ key := .int .i64 4, val := .int .i64 5, born := 0 }, { key := .int .i64 5, val := .int .i64 4, born := 1 }, { key := .int .i64 8, val := .int .i64 9, born := 2 }, { key := .int .i64 9, val := .int .i64 8, born := 3 }] 4)) = .ok (.int .i64 0) (w.alloc (.map #[{ key := .int .i64 4, val := .int .i64 5, born := 0 }, { key := .int .i64 5, val := .int .i64 4, born := 1 }, { key := .int .i64 8, val := .int .i64 9, born := 2 }, { key := .int .i64 9, val := .int .i64 8, born := 3 }] 4)) := map_none w #[{ key := .int .i64 4, val := .int .i64 5, born := 0 }, { key := .int .i64 5, val := .int .i64 4, born := 1 }, { key := .int .i64 8, val := .int .i64 9, born := 2 }, { key := .int .i64 9, val := .int .i64 8, born := 3 }] 4 1 rfl
    have c0m : (w.alloc (.map #[{ key := .int .i64 4, val := .int .i64 5, born := 0 }, { key := .int .i64 5, val := .int .i64 4, born := 1 }, { key := .int .i64 8, val := .int .i64 9, born := 2 }, { key := .int .i64 9, val := .int .i64 8, born := 3 }] 4)).cell? ⟨b, 0, none⟩ = some (.int .i64 1) := keep_new c0
    clear hL hok hsep
    go_enter Try.func23, Try.ntmps23
    go_wp2_with fail
    go_ret
    exact by_no rfl (bel_a.mono hlo)
  · have m0 := RowKit.run_makeMap (P := Try.prog) 36 w
    have m1 : (Instr.mapUpdate 36 (.map (some w.heap.size)) (.int .i64 4) (.int .i64 5)).run Try.prog (w.alloc (.map #[] 0)) = .ok () (w.alloc (.map #[{ key := .int .i64 4, val := .int .i64 5, born := 0 }] 1)) := map_put w #[] 0 4 5 rfl
    have m2 : (Instr.mapUpdate 36 (.map (some w.heap.size)) (.int .i64 5) (.int .i64 4)).run Try.prog (w.alloc (.map #[{ key := .int .i64 4, val := .int .i64 5, born := 0 }] 1)) = .ok () (w.alloc (.map #[{ key := .int .i64 4, val := .int .i64 5, born := 0 }, { key := .int .i64 5, val := .int .i64 4, born := 1 }] 2)) := map_put w #[{ key := .int .i64 4, val := .int .i64 5, born := 0 }] 1 5 4 rfl
    have m3 : (Instr.mapUpdate 36 (.map (some w.heap.size)) (.int .i64 8) (.int .i64 9)).run Try.prog (w.alloc (.map #[{ key := .int .i64 4, val := .int .i64 5, born := 0 }, { key := .int .i64 5, val := .int .i64 4, born := 1 }] 2)) = .ok () (w.alloc (.map #[{ key := .int .i64 4, val := .int .i64 5, born := 0 }, { key := .int .i64 5, val := .int .i64 4, born := 1 }, { key := .int .i64 8, val := .int .i64 9, born := 2 }] 3)) := map_put w #[{ key := .int .i64 4, val := .int .i64 5, born := 0 }, { key := .int .i64 5, val := .int .i64 4, born := 1 }] 2 8 9 rfl
    have m4 : (Instr.mapUpdate 36 (.map (some w.heap.size)) (.int .i64 9) (.int .i64 8)).run Try.prog (w.alloc (.map #[{ key := .int .i64 4, val := .int .i64 5, born := 0 }, { key := .int .i64 5, val := .int .i64 4, born := 1 }, { key := .int .i64 8, val := .int .i64 9, born := 2 }] 3)) = .ok () (w.alloc (.map #[{ key := .int .i64 4, val := .int .i64 5, born := 0 }, { key := .int .i64 5, val := .int .i64 4, born := 1 }, { key := .int .i64 8, val := .int .i64 9, born := 2 }, { key := .int .i64 9, val := .int .i64 8, born := 3 }] 4)) := map_put w #[{ key := .int .i64 4, val := .int .i64 5, born := 0 }, { key := .int .i64 5, val := .int .i64 4, born := 1 }, { key := .int .i64 8, val := .int .i64 9, born := 2 }] 3 9 8 rfl
    have m5 : (Instr.lookup 36 (.map (some w.heap.size)) (.int .i64 2) false).run Try.prog (w.alloc (.map #[{ key := .int .i64 4, val := .int .i64 5, born := 0 }, { key := .int .i64 5, val := .int .i64 4, born := 1 }, { key := .int .i64 8, val := .int .i64 9, born := 2 }, { key := .int .i64 9, val := .int .i64 8, born := 3 }] 4)) = .ok (.int .i64 0) (w.alloc (.map #[{ key := .int .i64 4, val := .int .i64 5, born := 0 }, { key := .int .i64 5, val := .int .i64 4, born := 1 }, { key := .int .i64 8, val := .int .i64 9, born := 2 }, { key := .int .i64 9, val := .int .i64 8, born := 3 }] 4)) := map_none w #[{ key := .int .i64 4, val := .int .i64 5, born := 0 }, { key := .int .i64 5, val := .int .i64 4, born := 1 }, { key := .int .i64 8, val := .int .i64 9, born := 2 }, { key := .int .i64 9, val := .int .i64 8, born := 3 }] 4 2 rfl
    have c0m : (w.alloc (.map #[{ key := .int .i64 4, val := .int .i64 5, born := 0 }, { key := .int .i64 5, val := .int .i64 4, born := 1 }, { key := .int .i64 8, val := .int .i64 9, born := 2 }, { key := .int .i64 9, val := .int .i64 8, born := 3 }] 4)).cell? ⟨b, 0, none⟩ = some (.int .i64 2) := keep_new c0
    clear hL hok hsep
    go_enter Try.func23, Try.ntmps23
    go_wp2_with fail
    go_ret
    exact by_no rfl (bel_a.mono hlo)
  · have m0 := RowKit.run_makeMap (P := Try.prog) 36 w
    have m1 : (Instr.mapUpdate 36 (.map (some w.heap.size)) (.int .i64 4) (.int .i64 5)).run Try.prog (w.alloc (.map #[] 0)) = .ok () (w.alloc (.map #[{ key := .int .i64 4, val := .int .i64 5, born := 0 }] 1)) := map_put w #[] 0 4 5 rfl
    have m2 : (Instr.mapUpdate 36 (.map (some w.heap.size)) (.int .i64 5) (.int .i64 4)).run Try.prog (w.alloc (.map #[{ key := .int .i64 4, val := .int .i64 5, born := 0 }] 1)) = .ok () (w.alloc (.map #[{ key := .int .i64 4, val := .int .i64 5, born := 0 }, { key := .int .i64 5, val := .int .i64 4, born := 1 }] 2)) := map_put w #[{ key := .int .i64 4, val := .int .i64 5, born := 0 }] 1 5 4 rfl
    have m3 : (Instr.mapUpdate 36 (.map (some w.heap.size)) (.int .i64 8) (.int .i64 9)).run Try.prog (w.alloc (.map #[{ key := .int .i64 4, val := .int .i64 5, born := 0 }, { key := .int .i64 5, val := .int .i64 4, born := 1 }] 2)) = .ok () (w.alloc (.map #[{ key := .int .i64 4, val := .int .i64 5, born := 0 }, { key := .int .i64 5, val := .int .i64 4, born := 1 }, { key := .int .i64 8, val := .int .i64 9, born := 2 }] 3)) := map_put w #[{ key := .int .i64 4, val := .int .i64 5, born := 0 }, { key := .int .i64 5, val := .int .i64 4, born := 1 }] 2 8 9 rfl
    have m4 : (Instr.mapUpdate 36 (.map (some w.heap.size)) (.int .i64 9) (.int .i64 8)).run Try.prog (w.alloc (.map #[{ key := .int .i64 4, val := .int .i64 5, born := 0 }, { key := .int .i64 5, val := .int .i64 4, born := 1 }, { key := .int .i64 8, val := .int .i64 9, born := 2 }] 3)) = .ok () (w.alloc (.map #[{ key := .int .i64 4, val := .int .i64 5, born := 0 }, { key := .int .i64 5, val := .int .i64 4, born := 1 }, { key := .int .i64 8, val := .int .i64 9, born := 2 }, { key := .int .i64 9, val := .int .i64 8, born := 3 }] 4)) := map_put w #[{ key := .int .i64 4, val := .int .i64 5, born := 0 }, { key := .int .i64 5, val := .int .i64 4, born := 1 }, { key := .int .i64 8, val := .int .i64 9, born := 2 }] 3 9 8 rfl
    have m5 : (Instr.lookup 36 (.map (some w.heap.size)) (.int .i64 3) false).run Try.prog (w.alloc (.map #[{ key := .int .i64 4, val := .int .i64 5, born := 0 }, { key := .int .i64 5, val := .int .i64 4, born := 1 }, { key := .int .i64 8, val := .int .i64 9, born := 2 }, { key := .int .i64 9, val := .int .i64 8, born := 3 }] 4)) = .ok (.int .i64 0) (w.alloc (.map #[{ key := .int .i64 4, val := .int .i64 5, born := 0 }, { key := .int .i64 5, val := .int .i64 4, born := 1 }, { key := .int .i64 8, val := .int .i64 9, born := 2 }, { key := .int .i64 9, val := .int .i64 8, born := 3 }] 4)) := map_none w #[{ key := .int .i64 4, val := .int .i64 5, born := 0 }, { key := .int .i64 5, val := .int .i64 4, born := 1 }, { key := .int .i64 8, val := .int .i64 9, born := 2 }, { key := .int .i64 9, val := .int .i64 8, born := 3 }] 4 3 rfl
    have c0m : (w.alloc (.map #[{ key := .int .i64 4, val := .int .i64 5, born := 0 }, { key := .int .i64 5, val := .int .i64 4, born := 1 }, { key := .int .i64 8, val := .int .i64 9, born := 2 }, { key := .int .i64 9, val := .int .i64 8, born := 3 }] 4)).cell? ⟨b, 0, none⟩ = some (.int .i64 3) := keep_new c0
    clear hL hok hsep
    go_enter Try.func23, Try.ntmps23
    go_wp2_with fail
    go_ret
    exact by_no rfl (bel_a.mono hlo)
  · have hka := hsep a (by simp [LT.kids])
    have hkc := hsep c (by simp [LT.kids])
    obtain ⟨g, cap, cur, rfl, hB, hG, hg, hb, hc1, hcm, hcs, hc0, hc1v⟩ := LT.row2 hL
    have hne : b ≠ g := Blk.ne_ hB hG (by decide)
    have hgl := hG.lt
    have ho0 : Old w g lo (w.alloc (.map #[{ key := .int .i64 4, val := .int .i64 5, born := 0 }, { key := .int .i64 5, val := .int .i64 4, born := 1 }, { key := .int .i64 8, val := .int .i64 9, born := 2 }, { key := .int .i64 9, val := .int .i64 8, born := 3 }] 4)) := ⟨bel_a.mono hlo, fun q h1 _ => Below.heap_alloc _ _ _ h1⟩
    have hG0 : Blk (w.alloc (.map #[{ key := .int .i64 4, val := .int .i64 5, born := 0 }, { key := .int .i64 5, val := .int .i64 4, born := 1 }, { key := .int .i64 8, val := .int .i64 9, born := 2 }, { key := .int .i64 9, val := .int .i64 8, born := 3 }] 4)) g 29 cur := hG.alloc _
    have m0 := RowKit.run_makeMap (P := Try.prog) 36 w
    have m1 : (Instr.mapUpdate 36 (.map (some w.heap.size)) (.int .i64 4) (.int .i64 5)).run Try.prog (w.alloc (.map #[] 0)) = .ok () (w.alloc (.map #[{ key := .int .i64 4, val := .int .i64 5, born := 0 }] 1)) := map_put w #[] 0 4 5 rfl
    have m2 : (Instr.mapUpdate 36 (.map (some w.heap.size)) (.int .i64 5) (.int .i64 4)).run Try.prog (w.alloc (.map #[{ key := .int .i64 4, val := .int .i64 5, born := 0 }] 1)) = .ok () (w.alloc (.map #[{ key := .int .i64 4, val := .int .i64 5, born := 0 }, { key := .int .i64 5, val := .int .i64 4, born := 1 }] 2)) := map_put w #[{ key := .int .i64 4, val := .int .i64 5, born := 0 }] 1 5 4 rfl
    have m3 : (Instr.mapUpdate 36 (.map (some w.heap.size)) (.int .i64 8) (.int .i64 9)).run Try.prog (w.alloc (.map #[{ key := .int .i64 4, val := .int .i64 5, born := 0 }, { key := .int .i64 5, val := .int .i64 4, born := 1 }] 2)) = .ok () (w.alloc (.map #[{ key := .int .i64 4, val := .int .i64 5, born := 0 }, { key := .int .i64 5, val := .int .i64 4, born := 1 }, { key := .int .i64 8, val := .int .i64 9, born := 2 }] 3)) := map_put w #[{ key := .int .i64 4, val := .int .i64 5, born := 0 }, { key := .int .i64 5, val := .int .i64 4, born := 1 }] 2 8 9 rfl
    have m4 : (Instr.mapUpdate 36 (.map (some w.heap.size)) (.int .i64 9) (.int .i64 8)).run Try.prog (w.alloc (.map #[{ key := .int .i64 4, val := .int .i64 5, born := 0 }, { key := .int .i64 5, val := .int .i64 4, born := 1 }, { key := .int .i64 8, val := .int .i64 9, born := 2 }] 3)) = .ok () (w.alloc (.map #[{ key := .int .i64 4, val := .int .i64 5, born := 0 }, { key := .int .i64 5, val := .int .i64 4, born := 1 }, { key := .int .i64 8, val := .int .i64 9, born := 2 }, { key := .int .i64 9, val := .int .i64 8, born := 3 }] 4)) := map_put w #[{ key := .int .i64 4, val := .int .i64 5, born := 0 }, { key := .int .i64 5, val := .int .i64 4, born := 1 }, { key := .int .i64 8, val := .int .i64 9, born := 2 }] 3 9 8 rfl
    have m5 : (Instr.lookup 36 (.map (some w.heap.size)) (.int .i64 4) false).run Try.prog (w.alloc (.map #[{ key := .int .i64 4, val := .int .i64 5, born := 0 }, { key := .int .i64 5, val := .int .i64 4, born := 1 }, { key := .int .i64 8, val := .int .i64 9, born := 2 }, { key := .int .i64 9, val := .int .i64 8, born := 3 }] 4)) = .ok (.int .i64 5) (w.alloc (.map #[{ key := .int .i64 4, val := .int .i64 5, born := 0 }, { key := .int .i64 5, val := .int .i64 4, born := 1 }, { key := .int .i64 8, val := .int .i64 9, born := 2 }, { key := .int .i64 9, val := .int .i64 8, born := 3 }] 4)) := map_get w #[{ key := .int .i64 4, val := .int .i64 5, born := 0 }, { key := .int .i64 5, val := .int .i64 4, born := 1 }, { key := .int .i64 8, val := .int .i64 9, born := 2 }, { key := .int .i64 9, val := .int .i64 8, born := 3 }] 4 4 5 0 rfl
    have c0m : (w.alloc (.map #[{ key := .int .i64 4, val := .int .i64 5, born := 0 }, { key := .int .i64 5, val := .int .i64 4, born := 1 }, { key := .int .i64 8, val := .int .i64 9, born := 2 }, { key := .int .i64 9, val := .int .i64 8, born := 3 }] 4)).cell? ⟨b, 0, none⟩ = some (.int .i64 4) := keep_new c0
    have c2m : (w.alloc (.map #[{ key := .int .i64 4, val := .int .i64 5, born := 0 }, { key := .int .i64 5, val := .int .i64 4, born := 1 }, { key := .int .i64 8, val := .int .i64 9, born := 2 }, { key := .int .i64 9, val := .int .i64 8, born := 3 }] 4)).cell? ⟨b, 2, none⟩ = some (.slice (some ⟨g, 0, none⟩) 2 cap) := keep_new (hB.cell 2)
    have hcn : cap ≤ maxLen := hcm
    unfold maxLen at hcn
    have HOK := Lib.hid hok
    have HKa := Lib.hid hka
    have HKc := Lib.hid hkc
    have HB := Lib.hid hB
    have H0 := Lib.hid (And.intro ho0 hG0)
    have HC := Lib.hid (And.intro hcm (And.intro hcs (And.intro hc0 hc1v)))
    clear hok hL hsep hka hkc hc1v hB ho0 hG0 hG hcm hcs hc0
    go_enter Try.func23, Try.ntmps23
    go_wp2_with fail
    go_loopw [19] (fun i wr => (i = .int .i64 0 ∧ Old w g lo wr ∧ Blk wr g 29 cur) ∨ (i = .int .i64 1 ∧ ∃ x1 g1 : Nat, Old w g lo wr ∧ Blk wr g 29 (cur.setIfInBounds 0 (.pointer (some ⟨x1, 0, none⟩))) ∧ Neg w wr x1 g1 a.blk) ∨ (i = .int .i64 2 ∧ ∃ x1 g1 x2 g2 : Nat, Old w g lo wr ∧ Blk wr g 29 ((cur.setIfInBounds 0 (.pointer (some ⟨x1, 0, none⟩))).setIfInBounds 1 (.pointer (some ⟨x2, 0, none⟩))) ∧ Neg w wr x1 g1 a.blk ∧ Neg w wr x2 g2 c.blk)) (fun i _ => 2 - (intOf i).toNat)
    case atStart => exact .inl ⟨rfl, H0.out.1, H0.out.2⟩
    case round =>
      rcases hrel with ⟨rfl, ho, hg1⟩ | ⟨rfl, x1, g1, ho, hg1, hn⟩ | ⟨rfl, x1, g1, x2, g2, ho, hg1, hn, hn2⟩
      · have HO := Lib.hid ho
        have HG := Lib.hid hg1
        have c2r : wr.cell? ⟨b, 2, none⟩ = some (.slice (some ⟨g, 0, none⟩) 2 cap) := (ho.blk HB.out hne).cell 2
        have cgr : wr.cell? ⟨g, 0, none⟩ = some (.pointer (some ⟨a.blk, 0, none⟩)) := (hg1.cell 0).trans (HC.out.2.2.1)
        have fgr := hg1.frozen 0
        have hgr : g < wr.drew.heap.size := hg1.lt
        have hbr : b < wr.drew.heap.size := (ho.blk HB.out hne).lt
        clear ho hg1
        have c2d : wr.drew.cell? ⟨b, 2, none⟩ = some (.slice (some ⟨g, 0, none⟩) 2 cap) := c2r
        have cgd : wr.drew.cell? ⟨g, 0, none⟩ = some (.pointer (some ⟨a.blk, 0, none⟩)) := cgr
        have fgd : wr.drew.frozen? ⟨g, 0, none⟩ = false := fgr
        go_wp2_with fail
        go_region_law (first | (go_simp; go_at_call 18; refine (wNot_neg a wr.drew).mono ?_; rintro e w2 ⟨x1, g1, rfl, hN1, hb2⟩; have c2e := cell_later hb2 c2d; have cge := cell_later hb2 cgd; have fge := frozen_later hb2 hgr fgd))
        all_goals
          have hO2 := HO.out.drew.later hlo hb2
          have hG2 := (HG.out.drew.later hb2).set_ 0 (.pointer (some ⟨x1, 0, none⟩))
          have hM1 : Neg w w2 x1 g1 a.blk := hN1.older (show w.heap.size ≤ wr.heap.size from HO.out.1.size)
          go_wp2_with fail
          go_roundw
          case rel => exact .inr (.inl ⟨by go_num, x1, g1, hO2.set hg, hG2, hM1.set hgl⟩)
          case measure => simp [intOf]
      · have HO := Lib.hid ho
        have HG := Lib.hid hg1
        have HN := Lib.hid hn
        have c2r : wr.cell? ⟨b, 2, none⟩ = some (.slice (some ⟨g, 0, none⟩) 2 cap) := (ho.blk HB.out hne).cell 2
        have cgr : wr.cell? ⟨g, 1, none⟩ = some (.pointer (some ⟨c.blk, 0, none⟩)) := (hg1.cell 1).trans (by rw [Array.getElem?_setIfInBounds_ne (by decide)]; exact (HC.out.2.2.2))
        have fgr := hg1.frozen 1
        have hgr : g < wr.drew.heap.size := hg1.lt
        have hbr : b < wr.drew.heap.size := (ho.blk HB.out hne).lt
        clear ho hg1 hn
        have c2d : wr.drew.cell? ⟨b, 2, none⟩ = some (.slice (some ⟨g, 0, none⟩) 2 cap) := c2r
        have cgd : wr.drew.cell? ⟨g, 1, none⟩ = some (.pointer (some ⟨c.blk, 0, none⟩)) := cgr
        have fgd : wr.drew.frozen? ⟨g, 1, none⟩ = false := fgr
        go_wp2_with fail
        go_region_law (first | (go_simp; go_at_call 18; refine (wNot_neg c wr.drew).mono ?_; rintro e w2 ⟨x2, g2, rfl, hN2, hb2⟩; have c2e := cell_later hb2 c2d; have cge := cell_later hb2 cgd; have fge := frozen_later hb2 hgr fgd))
        all_goals
          have hO2 := HO.out.drew.later hlo hb2
          have hG2 := (HG.out.drew.later hb2).set_ 1 (.pointer (some ⟨x2, 0, none⟩))
          have hM2 : Neg w w2 x2 g2 c.blk := hN2.older (show w.heap.size ≤ wr.heap.size from HO.out.1.size)
          have hM1 := HN.out.drew.later hb2
          go_wp2_with fail
          go_roundw
          case rel => exact .inr (.inr ⟨by go_num, x1, g1, x2, g2, hO2.set hg, hG2, hM1.set hgl, hM2.set hgl⟩)
          case measure => simp [intOf]
      · have hbw := ho.blk HB.out hne
        have cbr : wr.cell? ⟨b, 0, none⟩ = some (.int .i64 4) := hbw.cell 0
        have fbr := hbw.frozen 0
        have hT : (LT.n2 b 5 f (.slice (some ⟨g, 0, none⟩) 2 cap) (.n1 x1 3 0 (.slice (some ⟨g1, 0, none⟩) 1 1) a) (.n1 x2 3 0 (.slice (some ⟨g2, 0, none⟩) 1 1) c)).In (wr.setCell ⟨b, 0, none⟩ (.int .i64 5)) 38 29 lo (wr.setCell ⟨b, 0, none⟩ (.int .i64 5)).heap.size := den2 ho HB.out hne hg1 hg hb hc1 HC.out.1 HC.out.2.1 HKa.out HKc.out hn hn2
        have hW : Below lo w (wr.setCell ⟨b, 0, none⟩ (.int .i64 5)) := ho.1.setCell (p := ⟨b, 0, none⟩) hb _
        clear ho hg1 hn hbw hn2
        go_wp2_with (go_at_call 18; refine (wNot_ret (LT.n2 b 5 f (.slice (some ⟨g, 0, none⟩) 2 cap) (.n1 x1 3 0 (.slice (some ⟨g1, 0, none⟩) 1 1) a) (.n1 x2 3 0 (.slice (some ⟨g2, 0, none⟩) 1 1) c)) lo _ (wr.setCell ⟨b, 0, none⟩ (.int .i64 5)) hT (Nat.le_refl _)).mono ?_; rintro e w5 ⟨Y, rfl, htY, hY, hb5⟩)
        go_ret
        exact by_yes (T := .n1 3 0 (.n2 5 f (.n1 3 0 a.tr) (.n1 3 0 c.tr))) rfl hT.le hW hb5 hY (by simp only [htY, LT.tr]) (denied_and _ _ _ _) ⟨.inl rfl, .inr (.inl rfl), ⟨.inl rfl, HOK.out.2.1⟩, ⟨.inl rfl, HOK.out.2.2⟩⟩ (by simp only [LT.tr, Tr.size]; omega)
  · have hka := hsep a (by simp [LT.kids])
    have hkc := hsep c (by simp [LT.kids])
    obtain ⟨g, cap, cur, rfl, hB, hG, hg, hb, hc1, hcm, hcs, hc0, hc1v⟩ := LT.row2 hL
    have hne : b ≠ g := Blk.ne_ hB hG (by decide)
    have hgl := hG.lt
    have ho0 : Old w g lo (w.alloc (.map #[{ key := .int .i64 4, val := .int .i64 5, born := 0 }, { key := .int .i64 5, val := .int .i64 4, born := 1 }, { key := .int .i64 8, val := .int .i64 9, born := 2 }, { key := .int .i64 9, val := .int .i64 8, born := 3 }] 4)) := ⟨bel_a.mono hlo, fun q h1 _ => Below.heap_alloc _ _ _ h1⟩
    have hG0 : Blk (w.alloc (.map #[{ key := .int .i64 4, val := .int .i64 5, born := 0 }, { key := .int .i64 5, val := .int .i64 4, born := 1 }, { key := .int .i64 8, val := .int .i64 9, born := 2 }, { key := .int .i64 9, val := .int .i64 8, born := 3 }] 4)) g 29 cur := hG.alloc _
    have m0 := RowKit.run_makeMap (P := Try.prog) 36 w
    have m1 : (Instr.mapUpdate 36 (.map (some w.heap.size)) (.int .i64 4) (.int .i64 5)).run Try.prog (w.alloc (.map #[] 0)) = .ok () (w.alloc (.map #[{ key := .int .i64 4, val := .int .i64 5, born := 0 }] 1)) := map_put w #[] 0 4 5 rfl
    have m2 : (Instr.mapUpdate 36 (.map (some w.heap.size)) (.int .i64 5) (.int .i64 4)).run Try.prog (w.alloc (.map #[{ key := .int .i64 4, val := .int .i64 5, born := 0 }] 1)) = .ok () (w.alloc (.map #[{ key := .int .i64 4, val := .int .i64 5, born := 0 }, { key := .int .i64 5, val := .int .i64 4, born := 1 }] 2)) := map_put w #[{ key := .int .i64 4, val := .int .i64 5, born := 0 }] 1 5 4 rfl
    have m3 : (Instr.mapUpdate 36 (.map (some w.heap.size)) (.int .i64 8) (.int .i64 9)).run Try.prog (w.alloc (.map #[{ key := .int .i64 4, val := .int .i64 5, born := 0 }, { key := .int .i64 5, val := .int .i64 4, born := 1 }] 2)) = .ok () (w.alloc (.map #[{ key := .int .i64 4, val := .int .i64 5, born := 0 }, { key := .int .i64 5, val := .int .i64 4, born := 1 }, { key := .int .i64 8, val := .int .i64 9, born := 2 }] 3)) := map_put w #[{ key := .int .i64 4, val := .int .i64 5, born := 0 }, { key := .int .i64 5, val := .int .i64 4, born := 1 }] 2 8 9 rfl
    have m4 : (Instr.mapUpdate 36 (.map (some w.heap.size)) (.int .i64 9) (.int .i64 8)).run Try.prog (w.alloc (.map #[{ key := .int .i64 4, val := .int .i64 5, born := 0 }, { key := .int .i64 5, val := .int .i64 4, born := 1 }, { key := .int .i64 8, val := .int .i64 9, born := 2 }] 3)) = .ok () (w.alloc (.map #[{ key := .int .i64 4, val := .int .i64 5, born := 0 }, { key := .int .i64 5, val := .int .i64 4, born := 1 }, { key := .int .i64 8, val := .int .i64 9, born := 2 }, { key := .int .i64 9, val := .int .i64 8, born := 3 }] 4)) := map_put w #[{ key := .int .i64 4, val := .int .i64 5, born := 0 }, { key := .int .i64 5, val := .int .i64 4, born := 1 }, { key := .int .i64 8, val := .int .i64 9, born := 2 }] 3 9 8 rfl
    have m5 : (Instr.lookup 36 (.map (some w.heap.size)) (.int .i64 5) false).run Try.prog (w.alloc (.map #[{ key := .int .i64 4, val := .int .i64 5, born := 0 }, { key := .int .i64 5, val := .int .i64 4, born := 1 }, { key := .int .i64 8, val := .int .i64 9, born := 2 }, { key := .int .i64 9, val := .int .i64 8, born := 3 }] 4)) = .ok (.int .i64 4) (w.alloc (.map #[{ key := .int .i64 4, val := .int .i64 5, born := 0 }, { key := .int .i64 5, val := .int .i64 4, born := 1 }, { key := .int .i64 8, val := .int .i64 9, born := 2 }, { key := .int .i64 9, val := .int .i64 8, born := 3 }] 4)) := map_get w #[{ key := .int .i64 4, val := .int .i64 5, born := 0 }, { key := .int .i64 5, val := .int .i64 4, born := 1 }, { key := .int .i64 8, val := .int .i64 9, born := 2 }, { key := .int .i64 9, val := .int .i64 8, born := 3 }] 4 5 4 1 rfl
    have c0m : (w.alloc (.map #[{ key := .int .i64 4, val := .int .i64 5, born := 0 }, { key := .int .i64 5, val := .int .i64 4, born := 1 }, { key := .int .i64 8, val := .int .i64 9, born := 2 }, { key := .int .i64 9, val := .int .i64 8, born := 3 }] 4)).cell? ⟨b, 0, none⟩ = some (.int .i64 5) := keep_new c0
    have c2m : (w.alloc (.map #[{ key := .int .i64 4, val := .int .i64 5, born := 0 }, { key := .int .i64 5, val := .int .i64 4, born := 1 }, { key := .int .i64 8, val := .int .i64 9, born := 2 }, { key := .int .i64 9, val := .int .i64 8, born := 3 }] 4)).cell? ⟨b, 2, none⟩ = some (.slice (some ⟨g, 0, none⟩) 2 cap) := keep_new (hB.cell 2)
    have hcn : cap ≤ maxLen := hcm
    unfold maxLen at hcn
    have HOK := Lib.hid hok
    have HKa := Lib.hid hka
    have HKc := Lib.hid hkc
    have HB := Lib.hid hB
    have H0 := Lib.hid (And.intro ho0 hG0)
    have HC := Lib.hid (And.intro hcm (And.intro hcs (And.intro hc0 hc1v)))
    clear hok hL hsep hka hkc hc1v hB ho0 hG0 hG hcm hcs hc0
    go_enter Try.func23, Try.ntmps23
    go_wp2_with fail
    go_loopw [19] (fun i wr => (i = .int .i64 0 ∧ Old w g lo wr ∧ Blk wr g 29 cur) ∨ (i = .int .i64 1 ∧ ∃ x1 g1 : Nat, Old w g lo wr ∧ Blk wr g 29 (cur.setIfInBounds 0 (.pointer (some ⟨x1, 0, none⟩))) ∧ Neg w wr x1 g1 a.blk) ∨ (i = .int .i64 2 ∧ ∃ x1 g1 x2 g2 : Nat, Old w g lo wr ∧ Blk wr g 29 ((cur.setIfInBounds 0 (.pointer (some ⟨x1, 0, none⟩))).setIfInBounds 1 (.pointer (some ⟨x2, 0, none⟩))) ∧ Neg w wr x1 g1 a.blk ∧ Neg w wr x2 g2 c.blk)) (fun i _ => 2 - (intOf i).toNat)
    case atStart => exact .inl ⟨rfl, H0.out.1, H0.out.2⟩
    case round =>
      rcases hrel with ⟨rfl, ho, hg1⟩ | ⟨rfl, x1, g1, ho, hg1, hn⟩ | ⟨rfl, x1, g1, x2, g2, ho, hg1, hn, hn2⟩
      · have HO := Lib.hid ho
        have HG := Lib.hid hg1
        have c2r : wr.cell? ⟨b, 2, none⟩ = some (.slice (some ⟨g, 0, none⟩) 2 cap) := (ho.blk HB.out hne).cell 2
        have cgr : wr.cell? ⟨g, 0, none⟩ = some (.pointer (some ⟨a.blk, 0, none⟩)) := (hg1.cell 0).trans (HC.out.2.2.1)
        have fgr := hg1.frozen 0
        have hgr : g < wr.drew.heap.size := hg1.lt
        have hbr : b < wr.drew.heap.size := (ho.blk HB.out hne).lt
        clear ho hg1
        have c2d : wr.drew.cell? ⟨b, 2, none⟩ = some (.slice (some ⟨g, 0, none⟩) 2 cap) := c2r
        have cgd : wr.drew.cell? ⟨g, 0, none⟩ = some (.pointer (some ⟨a.blk, 0, none⟩)) := cgr
        have fgd : wr.drew.frozen? ⟨g, 0, none⟩ = false := fgr
        go_wp2_with fail
        go_region_law (first | (go_simp; go_at_call 18; refine (wNot_neg a wr.drew).mono ?_; rintro e w2 ⟨x1, g1, rfl, hN1, hb2⟩; have c2e := cell_later hb2 c2d; have cge := cell_later hb2 cgd; have fge := frozen_later hb2 hgr fgd))
        all_goals
          have hO2 := HO.out.drew.later hlo hb2
          have hG2 := (HG.out.drew.later hb2).set_ 0 (.pointer (some ⟨x1, 0, none⟩))
          have hM1 : Neg w w2 x1 g1 a.blk := hN1.older (show w.heap.size ≤ wr.heap.size from HO.out.1.size)
          go_wp2_with fail
          go_roundw
          case rel => exact .inr (.inl ⟨by go_num, x1, g1, hO2.set hg, hG2, hM1.set hgl⟩)
          case measure => simp [intOf]
      · have HO := Lib.hid ho
        have HG := Lib.hid hg1
        have HN := Lib.hid hn
        have c2r : wr.cell? ⟨b, 2, none⟩ = some (.slice (some ⟨g, 0, none⟩) 2 cap) := (ho.blk HB.out hne).cell 2
        have cgr : wr.cell? ⟨g, 1, none⟩ = some (.pointer (some ⟨c.blk, 0, none⟩)) := (hg1.cell 1).trans (by rw [Array.getElem?_setIfInBounds_ne (by decide)]; exact (HC.out.2.2.2))
        have fgr := hg1.frozen 1
        have hgr : g < wr.drew.heap.size := hg1.lt
        have hbr : b < wr.drew.heap.size := (ho.blk HB.out hne).lt
        clear ho hg1 hn
        have c2d : wr.drew.cell? ⟨b, 2, none⟩ = some (.slice (some ⟨g, 0, none⟩) 2 cap) := c2r
        have cgd : wr.drew.cell? ⟨g, 1, none⟩ = some (.pointer (some ⟨c.blk, 0, none⟩)) := cgr
        have fgd : wr.drew.frozen? ⟨g, 1, none⟩ = false := fgr
        go_wp2_with fail
        go_region_law (first | (go_simp; go_at_call 18; refine (wNot_neg c wr.drew).mono ?_; rintro e w2 ⟨x2, g2, rfl, hN2, hb2⟩; have c2e := cell_later hb2 c2d; have cge := cell_later hb2 cgd; have fge := frozen_later hb2 hgr fgd))
        all_goals
          have hO2 := HO.out.drew.later hlo hb2
          have hG2 := (HG.out.drew.later hb2).set_ 1 (.pointer (some ⟨x2, 0, none⟩))
          have hM2 : Neg w w2 x2 g2 c.blk := hN2.older (show w.heap.size ≤ wr.heap.size from HO.out.1.size)
          have hM1 := HN.out.drew.later hb2
          go_wp2_with fail
          go_roundw
          case rel => exact .inr (.inr ⟨by go_num, x1, g1, x2, g2, hO2.set hg, hG2, hM1.set hgl, hM2.set hgl⟩)
          case measure => simp [intOf]
      · have hbw := ho.blk HB.out hne
        have cbr : wr.cell? ⟨b, 0, none⟩ = some (.int .i64 5) := hbw.cell 0
        have fbr := hbw.frozen 0
        have hT : (LT.n2 b 4 f (.slice (some ⟨g, 0, none⟩) 2 cap) (.n1 x1 3 0 (.slice (some ⟨g1, 0, none⟩) 1 1) a) (.n1 x2 3 0 (.slice (some ⟨g2, 0, none⟩) 1 1) c)).In (wr.setCell ⟨b, 0, none⟩ (.int .i64 4)) 38 29 lo (wr.setCell ⟨b, 0, none⟩ (.int .i64 4)).heap.size := den2 ho HB.out hne hg1 hg hb hc1 HC.out.1 HC.out.2.1 HKa.out HKc.out hn hn2
        have hW : Below lo w (wr.setCell ⟨b, 0, none⟩ (.int .i64 4)) := ho.1.setCell (p := ⟨b, 0, none⟩) hb _
        clear ho hg1 hn hbw hn2
        go_wp2_with (go_at_call 18; refine (wNot_ret (LT.n2 b 4 f (.slice (some ⟨g, 0, none⟩) 2 cap) (.n1 x1 3 0 (.slice (some ⟨g1, 0, none⟩) 1 1) a) (.n1 x2 3 0 (.slice (some ⟨g2, 0, none⟩) 1 1) c)) lo _ (wr.setCell ⟨b, 0, none⟩ (.int .i64 4)) hT (Nat.le_refl _)).mono ?_; rintro e w5 ⟨Y, rfl, htY, hY, hb5⟩)
        go_ret
        exact by_yes (T := .n1 3 0 (.n2 4 f (.n1 3 0 a.tr) (.n1 3 0 c.tr))) rfl hT.le hW hb5 hY (by simp only [htY, LT.tr]) (denied_or _ _ _ _) ⟨.inl rfl, .inl rfl, ⟨.inl rfl, HOK.out.2.1⟩, ⟨.inl rfl, HOK.out.2.2⟩⟩ (by simp only [LT.tr, Tr.size]; omega)
  · have m0 := RowKit.run_makeMap (P := Try.prog) 36 w
    have m1 : (Instr.mapUpdate 36 (.map (some w.heap.size)) (.int .i64 4) (.int .i64 5)).run Try.prog (w.alloc (.map #[] 0)) = .ok () (w.alloc (.map #[{ key := .int .i64 4, val := .int .i64 5, born := 0 }] 1)) := map_put w #[] 0 4 5 rfl
    have m2 : (Instr.mapUpdate 36 (.map (some w.heap.size)) (.int .i64 5) (.int .i64 4)).run Try.prog (w.alloc (.map #[{ key := .int .i64 4, val := .int .i64 5, born := 0 }] 1)) = .ok () (w.alloc (.map #[{ key := .int .i64 4, val := .int .i64 5, born := 0 }, { key := .int .i64 5, val := .int .i64 4, born := 1 }] 2)) := map_put w #[{ key := .int .i64 4, val := .int .i64 5, born := 0 }] 1 5 4 rfl
    have m3 : (Instr.mapUpdate 36 (.map (some w.heap.size)) (.int .i64 8) (.int .i64 9)).run Try.prog (w.alloc (.map #[{ key := .int .i64 4, val := .int .i64 5, born := 0 }, { key := .int .i64 5, val := .int .i64 4, born := 1 }] 2)) = .ok () (w.alloc (.map #[{ key := .int .i64 4, val := .int .i64 5, born := 0 }, { key := .int .i64 5, val := .int .i64 4, born := 1 }, { key := .int .i64 8, val := .int .i64 9, born := 2 }] 3)) := map_put w #[{ key := .int .i64 4, val := .int .i64 5, born := 0 }, { key := .int .i64 5, val := .int .i64 4, born := 1 }] 2 8 9 rfl
    have m4 : (Instr.mapUpdate 36 (.map (some w.heap.size)) (.int .i64 9) (.int .i64 8)).run Try.prog (w.alloc (.map #[{ key := .int .i64 4, val := .int .i64 5, born := 0 }, { key := .int .i64 5, val := .int .i64 4, born := 1 }, { key := .int .i64 8, val := .int .i64 9, born := 2 }] 3)) = .ok () (w.alloc (.map #[{ key := .int .i64 4, val := .int .i64 5, born := 0 }, { key := .int .i64 5, val := .int .i64 4, born := 1 }, { key := .int .i64 8, val := .int .i64 9, born := 2 }, { key := .int .i64 9, val := .int .i64 8, born := 3 }] 4)) := map_put w #[{ key := .int .i64 4, val := .int .i64 5, born := 0 }, { key := .int .i64 5, val := .int .i64 4, born := 1 }, { key := .int .i64 8, val := .int .i64 9, born := 2 }] 3 9 8 rfl
    have m5 : (Instr.lookup 36 (.map (some w.heap.size)) (.int .i64 6) false).run Try.prog (w.alloc (.map #[{ key := .int .i64 4, val := .int .i64 5, born := 0 }, { key := .int .i64 5, val := .int .i64 4, born := 1 }, { key := .int .i64 8, val := .int .i64 9, born := 2 }, { key := .int .i64 9, val := .int .i64 8, born := 3 }] 4)) = .ok (.int .i64 0) (w.alloc (.map #[{ key := .int .i64 4, val := .int .i64 5, born := 0 }, { key := .int .i64 5, val := .int .i64 4, born := 1 }, { key := .int .i64 8, val := .int .i64 9, born := 2 }, { key := .int .i64 9, val := .int .i64 8, born := 3 }] 4)) := map_none w #[{ key := .int .i64 4, val := .int .i64 5, born := 0 }, { key := .int .i64 5, val := .int .i64 4, born := 1 }, { key := .int .i64 8, val := .int .i64 9, born := 2 }, { key := .int .i64 9, val := .int .i64 8, born := 3 }] 4 6 rfl
    have c0m : (w.alloc (.map #[{ key := .int .i64 4, val := .int .i64 5, born := 0 }, { key := .int .i64 5, val := .int .i64 4, born := 1 }, { key := .int .i64 8, val := .int .i64 9, born := 2 }, { key := .int .i64 9, val := .int .i64 8, born := 3 }] 4)).cell? ⟨b, 0, none⟩ = some (.int .i64 6) := keep_new c0
    clear hL hok hsep
    go_enter Try.func23, Try.ntmps23
    go_wp2_with fail
    go_ret
    exact by_no rfl (bel_a.mono hlo)
  · have m0 := RowKit.run_makeMap (P := Try.prog) 36 w
    have m1 : (Instr.mapUpdate 36 (.map (some w.heap.size)) (.int .i64 4) (.int .i64 5)).run Try.prog (w.alloc (.map #[] 0)) = .ok () (w.alloc (.map #[{ key := .int .i64 4, val := .int .i64 5, born := 0 }] 1)) := map_put w #[] 0 4 5 rfl
    have m2 : (Instr.mapUpdate 36 (.map (some w.heap.size)) (.int .i64 5) (.int .i64 4)).run Try.prog (w.alloc (.map #[{ key := .int .i64 4, val := .int .i64 5, born := 0 }] 1)) = .ok () (w.alloc (.map #[{ key := .int .i64 4, val := .int .i64 5, born := 0 }, { key := .int .i64 5, val := .int .i64 4, born := 1 }] 2)) := map_put w #[{ key := .int .i64 4, val := .int .i64 5, born := 0 }] 1 5 4 rfl
    have m3 : (Instr.mapUpdate 36 (.map (some w.heap.size)) (.int .i64 8) (.int .i64 9)).run Try.prog (w.alloc (.map #[{ key := .int .i64 4, val := .int .i64 5, born := 0 }, { key := .int .i64 5, val := .int .i64 4, born := 1 }] 2)) = .ok () (w.alloc (.map #[{ key := .int .i64 4, val := .int .i64 5, born := 0 }, { key := .int .i64 5, val := .int .i64 4, born := 1 }, { key := .int .i64 8, val := .int .i64 9, born := 2 }] 3)) := map_put w #[{ key := .int .i64 4, val := .int .i64 5, born := 0 }, { key := .int .i64 5, val := .int .i64 4, born := 1 }] 2 8 9 rfl
    have m4 : (Instr.mapUpdate 36 (.map (some w.heap.size)) (.int .i64 9) (.int .i64 8)).run Try.prog (w.alloc (.map #[{ key := .int .i64 4, val := .int .i64 5, born := 0 }, { key := .int .i64 5, val := .int .i64 4, born := 1 }, { key := .int .i64 8, val := .int .i64 9, born := 2 }] 3)) = .ok () (w.alloc (.map #[{ key := .int .i64 4, val := .int .i64 5, born := 0 }, { key := .int .i64 5, val := .int .i64 4, born := 1 }, { key := .int .i64 8, val := .int .i64 9, born := 2 }, { key := .int .i64 9, val := .int .i64 8, born := 3 }] 4)) := map_put w #[{ key := .int .i64 4, val := .int .i64 5, born := 0 }, { key := .int .i64 5, val := .int .i64 4, born := 1 }, { key := .int .i64 8, val := .int .i64 9, born := 2 }] 3 9 8 rfl
    have m5 : (Instr.lookup 36 (.map (some w.heap.size)) (.int .i64 7) false).run Try.prog (w.alloc (.map #[{ key := .int .i64 4, val := .int .i64 5, born := 0 }, { key := .int .i64 5, val := .int .i64 4, born := 1 }, { key := .int .i64 8, val := .int .i64 9, born := 2 }, { key := .int .i64 9, val := .int .i64 8, born := 3 }] 4)) = .ok (.int .i64 0) (w.alloc (.map #[{ key := .int .i64 4, val := .int .i64 5, born := 0 }, { key := .int .i64 5, val := .int .i64 4, born := 1 }, { key := .int .i64 8, val := .int .i64 9, born := 2 }, { key := .int .i64 9, val := .int .i64 8, born := 3 }] 4)) := map_none w #[{ key := .int .i64 4, val := .int .i64 5, born := 0 }, { key := .int .i64 5, val := .int .i64 4, born := 1 }, { key := .int .i64 8, val := .int .i64 9, born := 2 }, { key := .int .i64 9, val := .int .i64 8, born := 3 }] 4 7 rfl
    have c0m : (w.alloc (.map #[{ key := .int .i64 4, val := .int .i64 5, born := 0 }, { key := .int .i64 5, val := .int .i64 4, born := 1 }, { key := .int .i64 8, val := .int .i64 9, born := 2 }, { key := .int .i64 9, val := .int .i64 8, born := 3 }] 4)).cell? ⟨b, 0, none⟩ = some (.int .i64 7) := keep_new c0
    clear hL hok hsep
    go_enter Try.func23, Try.ntmps23
    go_wp2_with fail
    go_ret
    exact by_no rfl (bel_a.mono hlo)
  · have hka := hsep a (by simp [LT.kids])
    obtain ⟨g, cap, cur, rfl, hB, hG, hg, hb, hc1, hcm, hcs, hc0⟩ := LT.row1 hL
    have hne : b ≠ g := Blk.ne_ hB hG (by decide)
    have hgl := hG.lt
    have ho0 : Old w g lo (w.alloc (.map #[{ key := .int .i64 4, val := .int .i64 5, born := 0 }, { key := .int .i64 5, val := .int .i64 4, born := 1 }, { key := .int .i64 8, val := .int .i64 9, born := 2 }, { key := .int .i64 9, val := .int .i64 8, born := 3 }] 4)) := ⟨bel_a.mono hlo, fun q h1 _ => Below.heap_alloc _ _ _ h1⟩
    have hG0 : Blk (w.alloc (.map #[{ key := .int .i64 4, val := .int .i64 5, born := 0 }, { key := .int .i64 5, val := .int .i64 4, born := 1 }, { key := .int .i64 8, val := .int .i64 9, born := 2 }, { key := .int .i64 9, val := .int .i64 8, born := 3 }] 4)) g 29 cur := hG.alloc _
    have m0 := RowKit.run_makeMap (P := Try.prog) 36 w
    have m1 : (Instr.mapUpdate 36 (.map (some w.heap.size)) (.int .i64 4) (.int .i64 5)).run Try.prog (w.alloc (.map #[] 0)) = .ok () (w.alloc (.map #[{ key := .int .i64 4, val := .int .i64 5, born := 0 }] 1)) := map_put w #[] 0 4 5 rfl
    have m2 : (Instr.mapUpdate 36 (.map (some w.heap.size)) (.int .i64 5) (.int .i64 4)).run Try.prog (w.alloc (.map #[{ key := .int .i64 4, val := .int .i64 5, born := 0 }] 1)) = .ok () (w.alloc (.map #[{ key := .int .i64 4, val := .int .i64 5, born := 0 }, { key := .int .i64 5, val := .int .i64 4, born := 1 }] 2)) := map_put w #[{ key := .int .i64 4, val := .int .i64 5, born := 0 }] 1 5 4 rfl
    have m3 : (Instr.mapUpdate 36 (.map (some w.heap.size)) (.int .i64 8) (.int .i64 9)).run Try.prog (w.alloc (.map #[{ key := .int .i64 4, val := .int .i64 5, born := 0 }, { key := .int .i64 5, val := .int .i64 4, born := 1 }] 2)) = .ok () (w.alloc (.map #[{ key := .int .i64 4, val := .int .i64 5, born := 0 }, { key := .int .i64 5, val := .int .i64 4, born := 1 }, { key := .int .i64 8, val := .int .i64 9, born := 2 }] 3)) := map_put w #[{ key := .int .i64 4, val := .int .i64 5, born := 0 }, { key := .int .i64 5, val := .int .i64 4, born := 1 }] 2 8 9 rfl
    have m4 : (Instr.mapUpdate 36 (.map (some w.heap.size)) (.int .i64 9) (.int .i64 8)).run Try.prog (w.alloc (.map #[{ key := .int .i64 4, val := .int .i64 5, born := 0 }, { key := .int .i64 5, val := .int .i64 4, born := 1 }, { key := .int .i64 8, val := .int .i64 9, born := 2 }] 3)) = .ok () (w.alloc (.map #[{ key := .int .i64 4, val := .int .i64 5, born := 0 }, { key := .int .i64 5, val := .int .i64 4, born := 1 }, { key := .int .i64 8, val := .int .i64 9, born := 2 }, { key := .int .i64 9, val := .int .i64 8, born := 3 }] 4)) := map_put w #[{ key := .int .i64 4, val := .int .i64 5, born := 0 }, { key := .int .i64 5, val := .int .i64 4, born := 1 }, { key := .int .i64 8, val := .int .i64 9, born := 2 }] 3 9 8 rfl
    have m5 : (Instr.lookup 36 (.map (some w.heap.size)) (.int .i64 8) false).run Try.prog (w.alloc (.map #[{ key := .int .i64 4, val := .int .i64 5, born := 0 }, { key := .int .i64 5, val := .int .i64 4, born := 1 }, { key := .int .i64 8, val := .int .i64 9, born := 2 }, { key := .int .i64 9, val := .int .i64 8, born := 3 }] 4)) = .ok (.int .i64 9) (w.alloc (.map #[{ key := .int .i64 4, val := .int .i64 5, born := 0 }, { key := .int .i64 5, val := .int .i64 4, born := 1 }, { key := .int .i64 8, val := .int .i64 9, born := 2 }, { key := .int .i64 9, val := .int .i64 8, born := 3 }] 4)) := map_get w #[{ key := .int .i64 4, val := .int .i64 5, born := 0 }, { key := .int .i64 5, val := .int .i64 4, born := 1 }, { key := .int .i64 8, val := .int .i64 9, born := 2 }, { key := .int .i64 9, val := .int .i64 8, born := 3 }] 4 8 9 2 rfl
    have c0m : (w.alloc (.map #[{ key := .int .i64 4, val := .int .i64 5, born := 0 }, { key := .int .i64 5, val := .int .i64 4, born := 1 }, { key := .int .i64 8, val := .int .i64 9, born := 2 }, { key := .int .i64 9, val := .int .i64 8, born := 3 }] 4)).cell? ⟨b, 0, none⟩ = some (.int .i64 8) := keep_new c0
    have c2m : (w.alloc (.map #[{ key := .int .i64 4, val := .int .i64 5, born := 0 }, { key := .int .i64 5, val := .int .i64 4, born := 1 }, { key := .int .i64 8, val := .int .i64 9, born := 2 }, { key := .int .i64 9, val := .int .i64 8, born := 3 }] 4)).cell? ⟨b, 2, none⟩ = some (.slice (some ⟨g, 0, none⟩) 1 cap) := keep_new (hB.cell 2)
    have hcn : cap ≤ maxLen := hcm
    unfold maxLen at hcn
    have HOK := Lib.hid hok
    have HKa := Lib.hid hka
    have HB := Lib.hid hB
    have H0 := Lib.hid (And.intro ho0 hG0)
    have HC := Lib.hid (And.intro hcm (And.intro hcs hc0))
    clear hok hL hsep hka hB ho0 hG0 hG hcm hcs hc0
    go_enter Try.func23, Try.ntmps23
    go_wp2_with fail
    go_loopw [19] (fun i wr => (i = .int .i64 0 ∧ Old w g lo wr ∧ Blk wr g 29 cur) ∨ (i = .int .i64 1 ∧ ∃ x1 g1 : Nat, Old w g lo wr ∧ Blk wr g 29 (cur.setIfInBounds 0 (.pointer (some ⟨x1, 0, none⟩))) ∧ Neg w wr x1 g1 a.blk)) (fun i _ => 1 - (intOf i).toNat)
    case atStart => exact .inl ⟨rfl, H0.out.1, H0.out.2⟩
    case round =>
      rcases hrel with ⟨rfl, ho, hg1⟩ | ⟨rfl, x1, g1, ho, hg1, hn⟩
      · have HO := Lib.hid ho
        have HG := Lib.hid hg1
        have c2r : wr.cell? ⟨b, 2, none⟩ = some (.slice (some ⟨g, 0, none⟩) 1 cap) := (ho.blk HB.out hne).cell 2
        have cgr : wr.cell? ⟨g, 0, none⟩ = some (.pointer (some ⟨a.blk, 0, none⟩)) := (hg1.cell 0).trans (HC.out.2.2)
        have fgr := hg1.frozen 0
        have hgr : g < wr.drew.heap.size := hg1.lt
        have hbr : b < wr.drew.heap.size := (ho.blk HB.out hne).lt
        clear ho hg1
        have c2d : wr.drew.cell? ⟨b, 2, none⟩ = some (.slice (some ⟨g, 0, none⟩) 1 cap) := c2r
        have cgd : wr.drew.cell? ⟨g, 0, none⟩ = some (.pointer (some ⟨a.blk, 0, none⟩)) := cgr
        have fgd : wr.drew.frozen? ⟨g, 0, none⟩ = false := fgr
        go_wp2_with fail
        go_region_law (first | (go_simp; go_at_call 18; refine (wNot_neg a wr.drew).mono ?_; rintro e w2 ⟨x1, g1, rfl, hN1, hb2⟩; have c2e := cell_later hb2 c2d; have cge := cell_later hb2 cgd; have fge := frozen_later hb2 hgr fgd))
        all_goals
          have hO2 := HO.out.drew.later hlo hb2
          have hG2 := (HG.out.drew.later hb2).set_ 0 (.pointer (some ⟨x1, 0, none⟩))
          have hM1 : Neg w w2 x1 g1 a.blk := hN1.older (show w.heap.size ≤ wr.heap.size from HO.out.1.size)
          go_wp2_with fail
          go_roundw
          case rel => exact .inr ⟨by go_num, x1, g1, hO2.set hg, hG2, hM1.set hgl⟩
          case measure => simp [intOf]
      · have hbw := ho.blk HB.out hne
        have cbr : wr.cell? ⟨b, 0, none⟩ = some (.int .i64 8) := hbw.cell 0
        have fbr := hbw.frozen 0
        have hT : (LT.n1 b 9 f (.slice (some ⟨g, 0, none⟩) 1 cap) (.n1 x1 3 0 (.slice (some ⟨g1, 0, none⟩) 1 1) a)).In (wr.setCell ⟨b, 0, none⟩ (.int .i64 9)) 38 29 lo (wr.setCell ⟨b, 0, none⟩ (.int .i64 9)).heap.size := den1 ho HB.out hne hg1 hg hb hc1 HC.out.1 HC.out.2.1 HKa.out hn
        have hW : Below lo w (wr.setCell ⟨b, 0, none⟩ (.int .i64 9)) := ho.1.setCell (p := ⟨b, 0, none⟩) hb _
        clear ho hg1 hn hbw
        go_wp2_with (go_at_call 18; refine (wNot_ret (LT.n1 b 9 f (.slice (some ⟨g, 0, none⟩) 1 cap) (.n1 x1 3 0 (.slice (some ⟨g1, 0, none⟩) 1 1) a)) lo _ (wr.setCell ⟨b, 0, none⟩ (.int .i64 9)) hT (Nat.le_refl _)).mono ?_; rintro e w5 ⟨Y, rfl, htY, hY, hb5⟩)
        go_ret
        exact by_yes (T := .n1 3 0 (.n1 9 f (.n1 3 0 a.tr))) rfl hT.le hW hb5 hY (by simp only [htY, LT.tr]) (denied_always _ _ _) ⟨.inl rfl, .inr (.inr (.inr rfl)), ⟨.inl rfl, HOK.out.2⟩⟩ (by simp only [LT.tr, Tr.size]; omega)
  · have hka := hsep a (by simp [LT.kids])
    obtain ⟨g, cap, cur, rfl, hB, hG, hg, hb, hc1, hcm, hcs, hc0⟩ := LT.row1 hL
    have hne : b ≠ g := Blk.ne_ hB hG (by decide)
    have hgl := hG.lt
    have ho0 : Old w g lo (w.alloc (.map #[{ key := .int .i64 4, val := .int .i64 5, born := 0 }, { key := .int .i64 5, val := .int .i64 4, born := 1 }, { key := .int .i64 8, val := .int .i64 9, born := 2 }, { key := .int .i64 9, val := .int .i64 8, born := 3 }] 4)) := ⟨bel_a.mono hlo, fun q h1 _ => Below.heap_alloc _ _ _ h1⟩
    have hG0 : Blk (w.alloc (.map #[{ key := .int .i64 4, val := .int .i64 5, born := 0 }, { key := .int .i64 5, val := .int .i64 4, born := 1 }, { key := .int .i64 8, val := .int .i64 9, born := 2 }, { key := .int .i64 9, val := .int .i64 8, born := 3 }] 4)) g 29 cur := hG.alloc _
    have m0 := RowKit.run_makeMap (P := Try.prog) 36 w
    have m1 : (Instr.mapUpdate 36 (.map (some w.heap.size)) (.int .i64 4) (.int .i64 5)).run Try.prog (w.alloc (.map #[] 0)) = .ok () (w.alloc (.map #[{ key := .int .i64 4, val := .int .i64 5, born := 0 }] 1)) := map_put w #[] 0 4 5 rfl
    have m2 : (Instr.mapUpdate 36 (.map (some w.heap.size)) (.int .i64 5) (.int .i64 4)).run Try.prog (w.alloc (.map #[{ key := .int .i64 4, val := .int .i64 5, born := 0 }] 1)) = .ok () (w.alloc (.map #[{ key := .int .i64 4, val := .int .i64 5, born := 0 }, { key := .int .i64 5, val := .int .i64 4, born := 1 }] 2)) := map_put w #[{ key := .int .i64 4, val := .int .i64 5, born := 0 }] 1 5 4 rfl
    have m3 : (Instr.mapUpdate 36 (.map (some w.heap.size)) (.int .i64 8) (.int .i64 9)).run Try.prog (w.alloc (.map #[{ key := .int .i64 4, val := .int .i64 5, born := 0 }, { key := .int .i64 5, val := .int .i64 4, born := 1 }] 2)) = .ok () (w.alloc (.map #[{ key := .int .i64 4, val := .int .i64 5, born := 0 }, { key := .int .i64 5, val := .int .i64 4, born := 1 }, { key := .int .i64 8, val := .int .i64 9, born := 2 }] 3)) := map_put w #[{ key := .int .i64 4, val := .int .i64 5, born := 0 }, { key := .int .i64 5, val := .int .i64 4, born := 1 }] 2 8 9 rfl
    have m4 : (Instr.mapUpdate 36 (.map (some w.heap.size)) (.int .i64 9) (.int .i64 8)).run Try.prog (w.alloc (.map #[{ key := .int .i64 4, val := .int .i64 5, born := 0 }, { key := .int .i64 5, val := .int .i64 4, born := 1 }, { key := .int .i64 8, val := .int .i64 9, born := 2 }] 3)) = .ok () (w.alloc (.map #[{ key := .int .i64 4, val := .int .i64 5, born := 0 }, { key := .int .i64 5, val := .int .i64 4, born := 1 }, { key := .int .i64 8, val := .int .i64 9, born := 2 }, { key := .int .i64 9, val := .int .i64 8, born := 3 }] 4)) := map_put w #[{ key := .int .i64 4, val := .int .i64 5, born := 0 }, { key := .int .i64 5, val := .int .i64 4, born := 1 }, { key := .int .i64 8, val := .int .i64 9, born := 2 }] 3 9 8 rfl
    have m5 : (Instr.lookup 36 (.map (some w.heap.size)) (.int .i64 9) false).run Try.prog (w.alloc (.map #[{ key := .int .i64 4, val := .int .i64 5, born := 0 }, { key := .int .i64 5, val := .int .i64 4, born := 1 }, { key := .int .i64 8, val := .int .i64 9, born := 2 }, { key := .int .i64 9, val := .int .i64 8, born := 3 }] 4)) = .ok (.int .i64 8) (w.alloc (.map #[{ key := .int .i64 4, val := .int .i64 5, born := 0 }, { key := .int .i64 5, val := .int .i64 4, born := 1 }, { key := .int .i64 8, val := .int .i64 9, born := 2 }, { key := .int .i64 9, val := .int .i64 8, born := 3 }] 4)) := map_get w #[{ key := .int .i64 4, val := .int .i64 5, born := 0 }, { key := .int .i64 5, val := .int .i64 4, born := 1 }, { key := .int .i64 8, val := .int .i64 9, born := 2 }, { key := .int .i64 9, val := .int .i64 8, born := 3 }] 4 9 8 3 rfl
    have c0m : (w.alloc (.map #[{ key := .int .i64 4, val := .int .i64 5, born := 0 }, { key := .int .i64 5, val := .int .i64 4, born := 1 }, { key := .int .i64 8, val := .int .i64 9, born := 2 }, { key := .int .i64 9, val := .int .i64 8, born := 3 }] 4)).cell? ⟨b, 0, none⟩ = some (.int .i64 9) := keep_new c0
    have c2m : (w.alloc (.map #[{ key := .int .i64 4, val := .int .i64 5, born := 0 }, { key := .int .i64 5, val := .int .i64 4, born := 1 }, { key := .int .i64 8, val := .int .i64 9, born := 2 }, { key := .int .i64 9, val := .int .i64 8, born := 3 }] 4)).cell? ⟨b, 2, none⟩ = some (.slice (some ⟨g, 0, none⟩) 1 cap) := keep_new (hB.cell 2)
    have hcn : cap ≤ maxLen := hcm
    unfold maxLen at hcn
    have HOK := Lib.hid hok
    have HKa := Lib.hid hka
    have HB := Lib.hid hB
    have H0 := Lib.hid (And.intro ho0 hG0)
    have HC := Lib.hid (And.intro hcm (And.intro hcs hc0))
    clear hok hL hsep hka hB ho0 hG0 hG hcm hcs hc0
    go_enter Try.func23, Try.ntmps23
    go_wp2_with fail
    go_loopw [19] (fun i wr => (i = .int .i64 0 ∧ Old w g lo wr ∧ Blk wr g 29 cur) ∨ (i = .int .i64 1 ∧ ∃ x1 g1 : Nat, Old w g lo wr ∧ Blk wr g 29 (cur.setIfInBounds 0 (.pointer (some ⟨x1, 0, none⟩))) ∧ Neg w wr x1 g1 a.blk)) (fun i _ => 1 - (intOf i).toNat)
    case atStart => exact .inl ⟨rfl, H0.out.1, H0.out.2⟩
    case round =>
      rcases hrel with ⟨rfl, ho, hg1⟩ | ⟨rfl, x1, g1, ho, hg1, hn⟩
      · have HO := Lib.hid ho
        have HG := Lib.hid hg1
        have c2r : wr.cell? ⟨b, 2, none⟩ = some (.slice (some ⟨g, 0, none⟩) 1 cap) := (ho.blk HB.out hne).cell 2
        have cgr : wr.cell? ⟨g, 0, none⟩ = some (.pointer (some ⟨a.blk, 0, none⟩)) := (hg1.cell 0).trans (HC.out.2.2)
        have fgr := hg1.frozen 0
        have hgr : g < wr.drew.heap.size := hg1.lt
        have hbr : b < wr.drew.heap.size := (ho.blk HB.out hne).lt
        clear ho hg1
        have c2d : wr.drew.cell? ⟨b, 2, none⟩ = some (.slice (some ⟨g, 0, none⟩) 1 cap) := c2r
        have cgd : wr.drew.cell? ⟨g, 0, none⟩ = some (.pointer (some ⟨a.blk, 0, none⟩)) := cgr
        have fgd : wr.drew.frozen? ⟨g, 0, none⟩ = false := fgr
        go_wp2_with fail
        go_region_law (first | (go_simp; go_at_call 18; refine (wNot_neg a wr.drew).mono ?_; rintro e w2 ⟨x1, g1, rfl, hN1, hb2⟩; have c2e := cell_later hb2 c2d; have cge := cell_later hb2 cgd; have fge := frozen_later hb2 hgr fgd))
        all_goals
          have hO2 := HO.out.drew.later hlo hb2
          have hG2 := (HG.out.drew.later hb2).set_ 0 (.pointer (some ⟨x1, 0, none⟩))
          have hM1 : Neg w w2 x1 g1 a.blk := hN1.older (show w.heap.size ≤ wr.heap.size from HO.out.1.size)
          go_wp2_with fail
          go_roundw
          case rel => exact .inr ⟨by go_num, x1, g1, hO2.set hg, hG2, hM1.set hgl⟩
          case measure => simp [intOf]
      · have hbw := ho.blk HB.out hne
        have cbr : wr.cell? ⟨b, 0, none⟩ = some (.int .i64 9) := hbw.cell 0
        have fbr := hbw.frozen 0
        have hT : (LT.n1 b 8 f (.slice (some ⟨g, 0, none⟩) 1 cap) (.n1 x1 3 0 (.slice (some ⟨g1, 0, none⟩) 1 1) a)).In (wr.setCell ⟨b, 0, none⟩ (.int .i64 8)) 38 29 lo (wr.setCell ⟨b, 0, none⟩ (.int .i64 8)).heap.size := den1 ho HB.out hne hg1 hg hb hc1 HC.out.1 HC.out.2.1 HKa.out hn
        have hW : Below lo w (wr.setCell ⟨b, 0, none⟩ (.int .i64 8)) := ho.1.setCell (p := ⟨b, 0, none⟩) hb _
        clear ho hg1 hn hbw
        go_wp2_with (go_at_call 18; refine (wNot_ret (LT.n1 b 8 f (.slice (some ⟨g, 0, none⟩) 1 cap) (.n1 x1 3 0 (.slice (some ⟨g1, 0, none⟩) 1 1) a)) lo _ (wr.setCell ⟨b, 0, none⟩ (.int .i64 8)) hT (Nat.le_refl _)).mono ?_; rintro e w5 ⟨Y, rfl, htY, hY, hb5⟩)
        go_ret
        exact by_yes (T := .n1 3 0 (.n1 8 f (.n1 3 0 a.tr))) rfl hT.le hW hb5 hY (by simp only [htY, LT.tr]) (denied_some _ _ _) ⟨.inl rfl, .inr (.inr (.inl rfl)), ⟨.inl rfl, HOK.out.2⟩⟩ (by simp only [LT.tr, Tr.size]; omega)
end Go.Proofs.Ytdfbclkafocnpaa
