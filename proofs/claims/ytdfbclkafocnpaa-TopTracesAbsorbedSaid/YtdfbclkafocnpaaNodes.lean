/- wNodes writes the nodes of a tree behind those of a formula and returns the root's number: for every tree that lies below the formula. -/
import Derived.Test.YtdfbclkafocnpaaTree
import Derived.Test.YtdfbclkafocnpaaFlat
namespace Go.Proofs.Ytdfbclkafocnpaa
open Go.RowKit

theorem grown_undrew {w w' : World} {r : Option Nat} (h : w.drew.grownBy w' r) : w.grownBy w' r := ⟨h.os, h.tape, h.output, h.size, h.block⟩
theorem own_form {w : World} {base : Nat} {E : TypeId} {size n : Nat} {v : Value} {xs : List Value} (h : w.ownsRow base E size v n xs) : ∃ A cap, v = .slice A n cap := by
  rcases h.2 with ⟨rfl, rfl⟩ | ⟨g, cap, cur, rfl, _⟩
  · exact ⟨none, 0, rfl⟩
  · exact ⟨_, _, rfl⟩

theorem sizeL_take_kid (T : Tr) (k : Nat) (a : Tr) (h : T.kids[k]? = some a) : sizeL (T.kids.take k) + a.size < T.size := by
  cases T with
  | n0 => simp [Tr.kids] at h
  | n1 f k' b => match k with
    | 0 => simp only [Tr.kids, List.getElem?_cons_zero, Option.some.injEq] at h; subst h; simp [sizeL, Tr.size]
    | k + 1 => simp [Tr.kids] at h
  | n2 f k' b c => match k with
    | 0 => simp only [Tr.kids, List.getElem?_cons_zero, Option.some.injEq] at h; subst h; simp only [Tr.kids, List.take_zero, sizeL, Tr.size]; omega
    | 1 => simp only [Tr.kids, List.getElem?_cons_succ, List.getElem?_cons_zero, Option.some.injEq] at h; subst h; simp only [Tr.kids, List.take_succ_cons, List.take_zero, sizeL, Tr.size]; omega
    | k + 2 => simp [Tr.kids] at h

def NodesPost (F : Nat) (v : Value) (ps : List (Nd × Value)) (T : Tr) (w : World) (e : Ending) (w' : World) : Prop :=
  ∃ v' news, ∃ r : Int, e = .returned (.int .i64 r) ∧ Hid (r = (ps.length + T.size - 1 : Int)) ∧ PutDone (some F) w v (F + 1) ps news T v' w'

def NodesRel (F : Nat) (v : Value) (ps : List (Nd × Value)) (T : Tr) (w : World) (i : Value) (wr : World) : Prop :=
  ∃ (k : Nat) (vk ck : Value) (news : List (Nd × Value)), i = .int .i64 k ∧ k ≤ T.kids.length ∧
    Putting (some F) w v (F + 1) w.heap.size T.kind T.fact ps news (T.kids.take k) (idxL ps.length (T.kids.take k)) vk ck wr

set_option maxHeartbeats 800000 in
theorem nodes_any (n : Nat) : ∀ (L : LT) (w : World) (lo F : Nat) (v : Value) (ps : List (Nd × Value)), L.tr.size ≤ n → L.In w 38 29 lo F → RowN w (F + 1) v ps → Blk w F 24 #[v] → ps.length + L.tr.size ≤ 1000000 →
    Calls Try.prog 41 #[.pointer (some ⟨L.blk, 0, none⟩), .pointer (some ⟨F, 0, none⟩)] w (NodesPost F v ps L.tr w) := by
  induction n with
  | zero => intro L w lo F v ps h; have := L.tr.size_pos; omega
  | succ n ih =>
    intro L w lo F v ps hn hin hrow hF hsz
    obtain ⟨i0, hi0, hz0, hz1, hz2⟩ := info_parts Try.info3
    obtain ⟨j0, hj0, hy0, hy1, hy2⟩ := info_parts Try.info50
    obtain ⟨n1, n2, n3, n4⟩ := hin.node
    have c0 : w.cell? ⟨L.blk, 0, none⟩ = some (.int .i64 L.tr.kind) := n3.cell 0
    have c1 : w.cell? ⟨L.blk, 1, none⟩ = some (.int .i64 L.tr.fact) := n3.cell 1
    have c2 : w.cell? ⟨L.blk, 2, none⟩ = some L.kidsV := n3.cell 2
    obtain ⟨A, cap, hv, hcap, hmx, hcell⟩ := n4.form
    rw [hv] at c2
    have hkk : L.tr.kids.length = L.kids.length := by rw [LT.tr_kids, List.length_map]
    rw [List.length_map] at *
    unfold maxLen at hmx
    have hlb : L.blk < w.heap.size := n3.lt
    have hFl : F < w.heap.size := hF.lt
    have IH := Lib.hid ih
    have HC := Lib.hid hcell
    have HK := Lib.hid hkk
    clear ih hv hcell hkk
    have hst := Putting.start (F := some F) (k := L.tr.kind) (f := L.tr.fact) hrow (by omega) (fun b e => by injection e with e; subst e; exact hF)
    have HST := Lib.hid hst
    clear hst
    go_enter Try.func41, Try.ntmps41
    go_wp2_with fail
    go_region_held3 (fun w' => w'.cell? ⟨L.blk, 0, none⟩ = some (.int .i64 L.tr.kind) ∧ w'.cell? ⟨L.blk, 1, none⟩ = some (.int .i64 L.tr.fact)) (go_keep) (fail)
    go_wp2_with fail
    go_loopw [22] (NodesRel F v ps L.tr w) (fun i _ => L.kids.length - (intOf i).toNat)
    case atStart => exact ⟨0, _, _, [], rfl, Nat.zero_le _, HST.out.drew⟩
    case round =>
      obtain ⟨k, vk, ck, news, rfl, hk, hP⟩ := hrel
      rw [HK.out] at hk
      have hFb := (hP.hF F rfl).2
      have hFw : wr.cell? ⟨F, 0, none⟩ = some vk := hFb.cell 0
      have hbel : Below F w wr := hP.kept.below (fun f e => by injection e with e; omega) (fun g e => by have := (hrow.1.lt g e).1; omega) (by omega)
      have hszw := hP.kept.size
      have cN0 : wr.cell? ⟨w.heap.size, 0, none⟩ = some (.int .i64 L.tr.kind) := hP.node.cell 0
      have cN1 : wr.cell? ⟨w.heap.size, 1, none⟩ = some ck := hP.node.cell 1
      have cN2 : wr.cell? ⟨w.heap.size, 2, none⟩ = some (.int .i64 L.tr.fact) := hP.node.cell 2
      have hNl := hP.node.lt
      have hlen : (idxL ps.length (L.tr.kids.take k)).length = k := by rw [idxL_length, List.length_take, HK.out]; omega
      by_cases hlt : k < L.kids.length
      · obtain ⟨g, rfl, g1, g2, g3, g4, g5⟩ := HC.out k (L.kids[k]).ptr (by simp [hlt])
        rw [LT.ptr] at g4
        have c5 : wr.cell? ⟨g, k, none⟩ = some (.pointer (some ⟨(L.kids[k]).blk, 0, none⟩)) := (hbel.cell (by exact g2)).trans g4
        have hkin : (L.kids[k]).In wr.drew 38 29 lo F := ((hin.kid (List.getElem_mem _)).below hbel (Nat.le_refl _)).drew
        have hkl : (L.kids[k]).tr.size ≤ n := by have := LT.kid_size (L := L) (List.getElem_mem hlt); omega
        have htk : L.tr.kids[k]? = some (L.kids[k]).tr := by rw [LT.tr_kids, List.getElem?_map, List.getElem?_eq_getElem hlt]; rfl
        have hnl : news.length = sizeL (L.tr.kids.take k) := by rw [← List.length_map (f := (·.1)), hP.nds, encL_length]
        have hss := sizeL_take_kid L.tr k _ htk
        have hkz : (ps ++ news).length + (L.kids[k]).tr.size ≤ 1000000 := by rw [List.length_append]; omega
        have hidx : (((ps ++ news).length : Int) + ((L.kids[k]).tr.size : Int) - 1) = (((ps.length + sizeL (L.tr.kids.take k) + (L.kids[k]).tr.size : Nat) : Int) - 1) := by rw [List.length_append, hnl]; omega
        have hb63 : k + 1 ≤ maxLen := by have := L.kids_le; unfold maxLen; omega
        have hbby : (k + 1) * 8 ≤ 140737488355328 := by have := L.kids_le; omega
        have hPd := hP.drew
        have hrd := hPd.row
        have hFd := (hPd.hF F rfl).2
        have HP := Lib.hid hPd
        have HT := Lib.hid htk
        have HI := Lib.hid hidx
        have HL := Lib.hid hlen
        clear hP hPd hnl htk hidx hlen
        go_wp2_with fail
        go_region_law (first
           | (refine step_append_lies _ (by rfl) _ _ _ (by rfl) (F + 1) 3 i0 _ 1 8 Try.underlying48 hi0 hz0 hz1 hz2 rfl (by omega) ck k _ (by rfl) (hown1.alloc _) ⟨w1.heap.size, 0, none⟩ 1 1 [.int .i64 r] (by rfl) (by rfl) (World.news_of_block (cs := #[.int .i64 r]) (t := 3) (fr := (0, 0)) (heap_alloc_new _ _)) (by simp [Value.oneCell']) (by omega) hb63 hbby hbs (w1.heap.size + 1) (by simp) ?_; intro gg cap2 w3 hown3 hgrow hat hlt3; have hc7 := keep_cell (a := ⟨w.heap.size, 1, none⟩) hNl1 (Below.refl _ _) cN11 hne1 hgrow; have hf7 := keep_frozen (a := ⟨w.heap.size, 1, none⟩) hNl1 (Below.refl _ _) fN11 hne1 hgrow)
           | (go_simp; go_at_call 41; refine (IH.out (L.kids[k]) _ lo F vk (ps ++ news) hkl hkin hrd hFd hkz).mono ?_; rintro e w1 ⟨v1, news1, r, rfl, hr, hd⟩; have HP1 := Lib.hid (HP.out.call hd); have hNl1 := HP1.out.node.lt; have cN11 : w1.cell? ⟨w.heap.size, 1, none⟩ = some ck := HP1.out.node.cell 1; have fN11 := HP1.out.node.frozen 1; have hne1 := own_ne_blk HP1.out.kids HP1.out.node (by decide); have hown1 := HP1.out.kids; rw [HL.out] at hown1; have hbs := alloc_ge (Nat.le_trans (show F + 1 ≤ w.heap.size from hFl) (Nat.le_of_lt hNl1)) (Below.refl w1.heap.size w1) (.cells #[.int .i64 r] 3)))
        all_goals
          go_wp2_with fail
          go_roundw
          case rel =>
            have htk1 : L.tr.kids.take (k + 1) = L.tr.kids.take k ++ [(L.kids[k]).tr] := by rw [List.take_add_one, HT.out, Option.toList_some]
            have hst := HP1.out.step (i := r) (gg := gg) (cap := cap2) (by rw [HL.out]; exact hown3) hgrow hat
            rw [HL.out] at hst
            refine ⟨k + 1, v1, .slice (some ⟨gg, 0, none⟩) (k + 1) cap2, news ++ news1, by go_num, by rw [HK.out]; omega, ?_⟩
            rw [htk1, idxL_snoc, ← HI.out, ← hr.out]
            exact hst
          case measure => simp [intOf]; omega
      · have hkk : k = L.tr.kids.length := by rw [HK.out]; omega
        subst hkk
        rw [List.take_length] at hP hlen
        have hnl : news.length = sizeL L.tr.kids := by rw [← List.length_map (f := (·.1)), hP.nds, encL_length]
        have hzz := size_kids L.tr
        obtain ⟨A3, cap3, rfl⟩ := own_form hP.kids
        obtain ⟨A4, cap4, rfl⟩ := own_form hP.row.1
        have hFl2 : F < wr.heap.size := by omega
        have hF0 := hFb.frozen 0
        have hb63 : (ps ++ news).length + 1 ≤ maxLen := by rw [List.length_append]; unfold maxLen; omega
        have hbby : ((ps ++ news).length + 1) * 40 ≤ 140737488355328 := by rw [List.length_append]; omega
        have hownd := hP.row.1
        have hbs : F + 1 ≤ (wr.alloc (.cells #[.int .i64 L.tr.kind, .slice A3 (idxL ps.length L.tr.kids).length cap3, .int .i64 L.tr.fact] 50)).drew.heap.size := by show F + 1 ≤ (wr.alloc _).heap.size; rw [World.size_alloc]; omega
        have hne1 := own_ne_blk hP.row.1 hFb (by decide)
        have hP2 := hP
        have hmm : ps.length + news.length = (ps ++ news).length := by rw [List.length_append]
        have hres : ((ps ++ news).length : Int) = (ps.length + L.tr.size - 1 : Int) := by rw [List.length_append, hnl, hzz]; omega
        obtain ⟨m, hm⟩ : ∃ m, (ps ++ news).length = m := ⟨_, rfl⟩
        rw [hm] at hownd hb63 hbby hFw hres hne1
        have HP := Lib.hid hP2
        have HL := Lib.hid hlen
        have HM := Lib.hid hm
        have HR := Lib.hid hres
        clear hP hP2 hnl hzz hlen hm hFb hmm hres
        go_wp2_with fail
        go_region_law (refine step_append_lies _ (by rfl) _ _ _ (by rfl) (F + 1) 50 j0 _ 3 40 Try.underlying22 hj0 hy0 hy1 hy2 rfl (by omega) (.slice A4 m cap4) m (flatN (ps ++ news)) (by rfl) ((hownd.alloc _).drew) ⟨wr.heap.size, 0, none⟩ 1 1 [.int .i64 L.tr.kind, .slice A3 (idxL ps.length L.tr.kids).length cap3, .int .i64 L.tr.fact] (by rfl) (by rfl) (World.news_of_block (cs := #[.int .i64 L.tr.kind, .slice A3 (idxL ps.length L.tr.kids).length cap3, .int .i64 L.tr.fact]) (t := 50) (fr := (0, 0)) (heap_alloc_new _ _)) (by simp [Value.oneCell']) (by omega) hb63 hbby hbs (wr.heap.size + 1) (by simp) ?_; intro gg cap2 w3 hown3 hgrow hat hlt3; have hc7 := keep_cell (a := ⟨F, 0, none⟩) hFl2 (Below.refl _ _) hFw hne1 (grown_undrew hgrow); have hf7 := keep_frozen (a := ⟨F, 0, none⟩) hFl2 (Below.refl _ _) hF0 hne1 (grown_undrew hgrow))
        all_goals
          go_wp2_with fail
          go_ret
          have hP := HP.out
          have hFb := (hP.hF F rfl).2
          have hl := hP.last (w3 := w3) (gg := gg) (cap := cap2) (w4 := w3.setCell ⟨F, 0, none⟩ (.slice (some ⟨gg, 0, none⟩) ((ps ++ news).length + 1) cap2)) rfl rfl (by rw [HM.out]; exact hown3) (by rw [HM.out]; exact grown_undrew hgrow) (by rw [HM.out]; exact hat) rfl rfl rfl (by simp [World.setCell])
            (fun g hg => Below.heap_setCell _ _ _ _ (fun e => hg (by rw [e]))) (fun b e => by
              injection e with e
              subst e
              have h3 : Blk w3 F 24 #[.slice A4 (ps ++ news).length cap4] := (hgrow.block F (by show F < (wr.alloc _).heap.size; rw [World.size_alloc]; omega) (Ne.symm hne1)).trans ((Below.heap_alloc _ _ _ hFl2).trans hFb)
              exact h3.set_ 0 _)
          rw [HM.out] at hl
          exact ⟨_, _, _, rfl, HR.out, hl⟩
end Go.Proofs.Ytdfbclkafocnpaa
