/- wSame returns a new tree with the same contents, and changes nothing that lay in memory: for every tree and every world in which it lies. -/
import Derived.Test.YtdfbclkafocnpaaHead
namespace Go.Proofs.Ytdfbclkafocnpaa
open Go.RowKit

/-- The relation of wSame's loop. -/
def SameRel (L : LT) (w : World) (b : Nat) (i : Value) (wr : World) : Prop :=
  ∃ (k : Nat) (v : Value), i = .int .i64 k ∧ k ≤ L.kids.length ∧ Building 38 29 w b L.tr.kind L.tr.fact ((L.kids.take k).map LT.tr) v wr

set_option maxHeartbeats 400000 in
theorem same_any (n : Nat) : ∀ (L : LT) (w : World) (lo hi : Nat), L.tr.size ≤ n → L.In w 38 29 lo hi → hi ≤ w.heap.size →
    Calls Try.prog 20 #[.pointer (some ⟨L.blk, 0, none⟩)] w (RetTree 38 29 w.heap.size L.tr w) := by
  induction n with
  | zero => intro L w lo hi h; have := L.tr.size_pos; omega
  | succ n ih =>
    intro L w lo hi hn hin hhi
    obtain ⟨i0, hi0, hz0, hz1, hz2⟩ := info_parts Try.info29
    obtain ⟨n1, n2, n3, n4⟩ := hin.node
    have c0 : w.cell? ⟨L.blk, 0, none⟩ = some (.int .i64 L.tr.kind) := n3.cell 0
    have c1 : w.cell? ⟨L.blk, 1, none⟩ = some (.int .i64 L.tr.fact) := n3.cell 1
    have c2 : w.cell? ⟨L.blk, 2, none⟩ = some L.kidsV := n3.cell 2
    obtain ⟨A, cap, hv, hcap, hmx, hcell⟩ := n4.form
    rw [hv] at c2
    rw [List.length_map] at *
    unfold maxLen at hmx
    have hlb : L.blk < w.heap.size := n3.lt
    have hlb' : ¬ L.blk = w.heap.size := by omega
    have IH := Lib.hid ih
    have HV := Lib.hid hv
    have HC := Lib.hid hcell
    clear ih hv hcell
    go_enter Try.func20, Try.ntmps20
    go_wp2_with fail
    go_region_held3 (fun w' => w'.cell? ⟨L.blk, 0, none⟩ = some (.int .i64 L.tr.kind) ∧ w'.cell? ⟨L.blk, 1, none⟩ = some (.int .i64 L.tr.fact)) (go_keep) (fail)
    go_wp2_with fail
    go_loopw [21] (SameRel L w w.heap.size) (fun i _ => L.kids.length - (intOf i).toNat)
    case atStart => exact ⟨0, _, rfl, Nat.zero_le _, ((Building.start (Below.refl _ w)).drew)⟩
    case round =>
      obtain ⟨k, v, rfl, hk, hB⟩ := hrel
      by_cases hlt : k < L.kids.length
      · have hB0 := hB
        obtain ⟨g, rfl, g1, g2, g3, g4, g5⟩ := HC.out k (L.kids[k]).ptr (by simp [hlt])
        have c5 : wr.cell? ⟨g, k, none⟩ = some (.pointer (some ⟨(L.kids[k]).blk, 0, none⟩)) := (hB.below.cell (by exact g3)).trans g4
        have c6 := hB.cell2
        have f6 := hB.free2
        have hbl := hB.lt
        have hkin : (L.kids[k]).In w 38 29 lo hi := hin.kid (List.getElem_mem _)
        obtain ⟨ps, hown⟩ := hB.own
        rw [List.length_map, List.length_take_of_le (by omega)] at hown
        have hbel := hB.below
        have hsz := hbel.size
        have hkl : (L.kids[k]).tr.size ≤ n := by have := LT.kid_size (L := L) (List.getElem_mem hlt); omega
        have hkw := (hkin.below (hbel.mono hhi) (Nat.le_refl _)).drew
        have hkh : hi ≤ wr.heap.size := by omega
        have hb63 : k + 1 ≤ maxLen := by have := L.kids_le; unfold maxLen; omega
        have hbby : (k + 1) * 8 ≤ 140737488355328 := by have := L.kids_le; omega
        have hrne := hB.row_ne (by decide)
        have hbld : w.heap.size < wr.drew.heap.size := hbl
        have c6d : wr.drew.cell? ⟨w.heap.size, 2, none⟩ = some v := c6
        have f6d : wr.drew.frozen? ⟨w.heap.size, 2, none⟩ = false := f6
        have hownd := hown.drew
        have hszd : w.heap.size ≤ wr.drew.heap.size := hsz
        have HB := Lib.hid hB
        clear hB hB0
        go_wp2_with fail
        go_region_law (first
           | (refine step_append_lies _ (by rfl) _ _ _ (by rfl) w.heap.size 29 i0 _ 1 8 Try.underlying33 hi0 hz0 hz1 hz2 rfl (by omega) v k ps (by rfl) (hown1.alloc _) ⟨w1.heap.size, 0, none⟩ 1 1 [.pointer (some ⟨L'.blk, 0, none⟩)] (by rfl) (by rfl) (World.news_of_block (cs := #[.pointer (some ⟨L'.blk, 0, none⟩)]) (t := 29) (fr := (0, 0)) (heap_alloc_new _ _)) (by simp [Value.oneCell']) (by omega) hb63 hbby hbs (w1.heap.size + 1) (by simp) ?_; intro gg cap2 w3 hown3 hgrow hat hlt3; have hc7 := keep_cell (a := ⟨w.heap.size, 2, none⟩) hbld hb1 c6d hrne hgrow; have hf7 := keep_frozen (a := ⟨w.heap.size, 2, none⟩) hbld hb1 f6d hrne hgrow)
           | (go_simp; go_at_call 20; refine (IH.out (L.kids[k]) _ lo hi hkl hkw hkh).mono ?_; rintro e w1 ⟨L', rfl, ht, hL', hb1⟩; have hbs := alloc_ge hszd hb1 (.cells #[.pointer (some ⟨L'.blk, 0, none⟩)] 29); have hown1 := own_below hownd hb1; have hc61 := cell_later hb1 c6d; have hne1 := lt_later hb1 hbld))
        all_goals
          go_wp2_with fail
          go_roundw
          case rel =>
            refine ⟨k + 1, .slice (some ⟨gg, 0, none⟩) (k + 1) cap2, by go_num, by omega, ?_⟩
            have hst := HB.out.drew.step (by decide) hL' hb1 hownd hown3 hgrow hat
            rw [ht] at hst
            rw [List.take_add_one, List.getElem?_eq_getElem hlt, Option.toList_some, List.map_append]
            exact hst
          case measure => simp [intOf]; omega
      · go_wp2_with fail
        go_ret
        have hkk : k = L.kids.length := by omega
        subst hkk
        have := hB.built (by simp; exact L.kids_le)
        rw [List.take_length, LT.tr_mk] at this
        exact this
end Go.Proofs.Ytdfbclkafocnpaa
