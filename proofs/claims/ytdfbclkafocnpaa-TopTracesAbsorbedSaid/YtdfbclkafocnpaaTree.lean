/- wTree makes a new tree of the node of a right formula: for every such node and every world in which the formula lies. -/
import Derived.Test.YtdfbclkafocnpaaSmall
import Derived.Test.YtdfbclkafocnpaaForm
namespace Go.Proofs.Ytdfbclkafocnpaa
open Go.RowKit

/-- The relation of the loop over a node's children. -/
def KidsRel (S E : TypeId) (T : Tr) (w : World) (b : Nat) (i : Value) (wr : World) : Prop :=
  ∃ (k : Nat) (v : Value), i = .int .i64 k ∧ k ≤ T.kids.length ∧ Building S E w b T.kind T.fact (T.kids.take k) v wr

theorem Tr.kids_le (T : Tr) : T.kids.length ≤ 2 := by cases T <;> simp [Tr.kids]
theorem Tr.kid_size {T a : Tr} (h : a ∈ T.kids) : a.size < T.size := by
  cases T with
  | n0 => simp [Tr.kids] at h
  | n1 => simp [Tr.kids] at h; subst h; simp [Tr.size]
  | n2 => simp [Tr.kids] at h; rcases h with rfl | rfl <;> simp [Tr.size] <;> omega

theorem RetTree.lower {S E : TypeId} {lo lo' : Nat} {T : Tr} {w w' : World} {e : Ending} (h : RetTree S E lo T w e w') (hl : lo' ≤ lo) : RetTree S E lo' T w e w' := by
  obtain ⟨L, h1, h2, h3, h4⟩ := h
  exact ⟨L, h1, h2, h3.mono hl (Nat.le_refl _), h4⟩
set_option maxHeartbeats 400000 in
theorem tree_any (n : Nat) : ∀ (ns : List Nd) (T : Tr) (i : Nat) (A : Option Addr) (m c : Nat) (w : World) (B : Nat), T.size ≤ n → NodesAt w B (.slice A m c) ns → SubAt ns i T → B ≤ w.heap.size →
    Calls Try.prog 40 #[.agg #[.slice A m c], .int .i64 (i : Int)] w (RetTree 38 29 w.heap.size T w) := by
  induction n with
  | zero => intro ns T i A m c w B h; have := T.size_pos; omega
  | succ n ih =>
    intro ns T i A m c w B hn hN hT hB
    obtain ⟨i0, hi0, hz0, hz1, hz2⟩ := info_parts Try.info29
    obtain ⟨A', c', hv, hc1, hc2, hat⟩ := hN.form
    injection hv with hA hm hc
    subst hA; subst hm; subst hc
    obtain ⟨js, hnd, hjs, hsub⟩ := hT.open_
    obtain ⟨b, off, u, rfl, hbB, k0, k1, k2, hI⟩ := hat i _ hnd
    obtain ⟨A2, c2, rfl, hl2, hc22, hkid⟩ := hI.form
    have hil : i < ns.length := (List.getElem?_eq_some_iff.1 hnd).1
    have HJ := Lib.hid hjs
    simp only [List.length_map, hjs] at k1 hl2
    have hi1 : (0 : Int) ≤ (i : Int) := Int.natCast_nonneg _
    have hi2 : (i : Int) < (ns.length : Int) := by omega
    have hbl : b < w.heap.size := by omega
    unfold maxLen at hc2 hc22
    have IH := Lib.hid ih
    have HK := Lib.hid hkid
    have HS := Lib.hid hsub
    have HN := Lib.hid hnd
    clear ih hkid hsub hat hnd hjs
    go_enter Try.func40, Try.ntmps40
    go_wp2_with fail
    go_region_held3 (fun w' => w'.cell? ⟨w.heap.size, 0, none⟩ = some (.slice (some ⟨b, off, none⟩) ns.length c) ∧ w'.cell? ⟨b, off + i * 3, none⟩ = some (.int .i64 T.kind) ∧ w'.cell? ⟨b, off + i * 3 + 2, none⟩ = some (.int .i64 T.fact)) (go_keep) (fail)
    go_wp2_with fail
    have hst : Building 38 29 (w.alloc (.cells #[.slice (some ⟨b, off, none⟩) ns.length c] 24)) (w.heap.size + 1) T.kind T.fact [] (.slice none 0 0) ((w.alloc (.cells #[.slice (some ⟨b, off, none⟩) ns.length c] 24)).alloc (.cells #[.int .i64 T.kind, .int .i64 T.fact, .slice none 0 0] 38)) := by
      have := Building.start (S := 38) (E := 29) (k := T.kind) (f := T.fact) (Below.refl _ (w.alloc (.cells #[.slice (some ⟨b, off, none⟩) ns.length c] 24)))
      rwa [World.size_alloc] at this
    have HST := Lib.hid hst
    clear hst
    go_loopw [29] (KidsRel 38 29 T (w.alloc (.cells #[.slice (some ⟨b, off, none⟩) ns.length c] 24)) (w.heap.size + 1)) (fun i _ => T.kids.length - (intOf i).toNat)
    case atStart => exact ⟨0, _, rfl, Nat.zero_le _, HST.out.drew⟩
    case round =>
      obtain ⟨k, v, rfl, hk, hB'⟩ := hrel
      by_cases hlt : k < T.kids.length
      · have hja : k < js.length := by rw [HJ.out]; exact hlt
        have hjk : js[k]? = some js[k] := List.getElem?_eq_getElem hja
        obtain ⟨hk1, hk2⟩ := HS.out k _ _ hjk (List.getElem?_eq_getElem hlt)
        obtain ⟨g, off2, rfl, g1, g2⟩ := HK.out k (js[k] : Int) (by rw [List.getElem?_map, hjk]; rfl)
        have hbel := hB'.below
        have hszw := hbel.size
        rw [World.size_alloc] at hszw
        have c5 : wr.cell? ⟨g, off2 + k, none⟩ = some (.int .i64 (js[k] : Int)) := cell_later hbel (by rw [World.cell?_alloc_lt _ _ _ (by exact Nat.lt_of_lt_of_le g1 hB)]; exact g2)
        have c6 := hB'.cell2
        have f6 := hB'.free2
        have hbl2 := hB'.lt
        have cb : wr.cell? ⟨w.heap.size, 0, none⟩ = some (.slice (some ⟨b, off, none⟩) ns.length c) := cell_later hbel (by simp)
        obtain ⟨ps, hown⟩ := hB'.own
        rw [List.length_take_of_le (by omega)] at hown
        have hNr := (hN.below ((Below.refl B w).alloc hB _) (Nat.le_refl _)).below hbel (by rw [World.size_alloc]; omega)
        have hNd : NodesAt wr.drew B (.slice (some ⟨b, off, none⟩) ns.length c) ns := hNr
        have hkl : (T.kids[k]).size ≤ n := by have := Tr.kid_size (T := T) (List.getElem_mem hlt); omega
        have hBd : B ≤ wr.drew.heap.size := by show B ≤ wr.heap.size; omega
        have hb63 : k + 1 ≤ maxLen := by have := T.kids_le; unfold maxLen; omega
        have hbby : (k + 1) * 8 ≤ 140737488355328 := by have := T.kids_le; omega
        have hrne := hB'.row_ne (by decide)
        have hbld : w.heap.size + 1 < wr.drew.heap.size := hbl2
        have c6d : wr.drew.cell? ⟨w.heap.size + 1, 2, none⟩ = some v := c6
        have f6d : wr.drew.frozen? ⟨w.heap.size + 1, 2, none⟩ = false := f6
        have cbd : wr.drew.cell? ⟨w.heap.size, 0, none⟩ = some (.slice (some ⟨b, off, none⟩) ns.length c) := cb
        have hownd := hown.drew
        rw [World.size_alloc] at hownd
        have hszd : w.heap.size + 1 ≤ wr.drew.heap.size := by show _ ≤ wr.heap.size; omega
        have HB := Lib.hid hB'
        clear hB' hjk
        go_wp2_with fail
        go_region_law (first
           | (refine step_append_lies _ (by rfl) _ _ _ (by rfl) (w.heap.size + 1) 29 i0 _ 1 8 Try.underlying33 hi0 hz0 hz1 hz2 rfl (by omega) v k ps (by rfl) (hown1.alloc _) ⟨w1.heap.size, 0, none⟩ 1 1 [.pointer (some ⟨L'.blk, 0, none⟩)] (by rfl) (by rfl) (World.news_of_block (cs := #[.pointer (some ⟨L'.blk, 0, none⟩)]) (t := 29) (fr := (0, 0)) (heap_alloc_new _ _)) (by simp [Value.oneCell']) (by omega) hb63 hbby hbs (w1.heap.size + 1) (by simp) ?_; intro gg cap2 w3 hown3 hgrow hat hlt3; have hc7 := keep_cell (a := ⟨w.heap.size + 1, 2, none⟩) hbld hb1 c6d hrne hgrow; have hf7 := keep_frozen (a := ⟨w.heap.size + 1, 2, none⟩) hbld hb1 f6d hrne hgrow)
           | (go_simp; go_at_call 40; refine (IH.out ns (T.kids[k]) (js[k]) _ _ _ _ B hkl hNd hk2 hBd).mono ?_; rintro e w1 ⟨L', rfl, ht, hL', hb1⟩; have hbs := alloc_ge hszd hb1 (.cells #[.pointer (some ⟨L'.blk, 0, none⟩)] 29); have hown1 := own_below hownd hb1; have hc61 := cell_later hb1 c6d; have hne1 := lt_later hb1 hbld))
        all_goals
          go_wp2_with fail
          go_roundw
          case rel =>
            refine ⟨k + 1, .slice (some ⟨gg, 0, none⟩) (k + 1) cap2, by go_num, by omega, ?_⟩
            have hst := HB.out.drew.step (by decide) hL' hb1 (by rw [World.size_alloc]; exact hownd) (by rw [World.size_alloc]; exact hown3) hgrow hat
            rw [ht] at hst
            rw [List.take_add_one, List.getElem?_eq_getElem hlt, Option.toList_some]
            exact hst
          case measure => simp [intOf]; omega
      · go_wp2_with fail
        go_ret
        have hkk : k = T.kids.length := by omega
        subst hkk
        have := hB'.built (by rw [List.take_length]; exact T.kids_le)
        rw [List.take_length, Tr.mk_kids] at this
        exact (this.behind ((Below.refl _ _).alloc (Nat.le_refl _) _)).lower (by rw [World.size_alloc]; omega)
end Go.Proofs.Ytdfbclkafocnpaa
