/- flat appends the nodes of a tree to a slice of nodes: for every tree that lies in memory below the slice's own rows. -/
import Derived.Test.YtdfbclkafocnpaaNodes
namespace Go.Proofs.Ytdfbclkafocnpaa
open Go.RowKit

def FlatPost (v : Value) (lo : Nat) (ps : List (Nd × Value)) (T : Tr) (w : World) (e : Ending) (w' : World) : Prop :=
  ∃ A c news, e = .returned (.slice A (ps ++ news).length c) ∧ PutDone none w v lo ps news T (.slice A (ps ++ news).length c) w'

def FlatRel (v : Value) (lo : Nat) (ps : List (Nd × Value)) (T : Tr) (w : World) (s i : Value) (wr : World) : Prop :=
  ∃ (k : Nat) (vk ck : Value) (news : List (Nd × Value)), s = vk ∧ i = .int .i64 k ∧ k ≤ T.kids.length ∧
    Putting none w v lo w.heap.size T.kind T.fact ps news (T.kids.take k) (idxL ps.length (T.kids.take k)) vk ck wr

set_option maxHeartbeats 800000 in
theorem flat_any (n : Nat) : ∀ (L : LT) (w : World) (lo0 hi lo : Nat) (A0 : Option Addr) (cap0 : Nat) (ps : List (Nd × Value)), L.tr.size ≤ n → L.In w 76 70 lo0 hi → hi ≤ lo → lo ≤ w.heap.size → RowN w lo (.slice A0 ps.length cap0) ps → ps.length + L.tr.size ≤ 1000000 →
    Calls Try.prog 50 #[.slice A0 ps.length cap0, .pointer (some ⟨L.blk, 0, none⟩)] w (FlatPost (.slice A0 ps.length cap0) lo ps L.tr w) := by
  induction n with
  | zero => intro L w lo0 hi lo A0 cap0 ps h; have := L.tr.size_pos; omega
  | succ n ih =>
    intro L w lo0 hi lo A0 cap0 ps hn hin hhi hlo hrow hsz
    obtain ⟨i0, hi0, hz0, hz1, hz2⟩ := info_parts Try.info3
    obtain ⟨j0, hj0, hy0, hy1, hy2⟩ := info_parts Try.info50
    obtain ⟨n1, n2, n3, n4⟩ := hin.node
    have c0 : w.cell? ⟨L.blk, 0, none⟩ = some (.int .i64 L.tr.kind) := n3.cell 0
    have c1 : w.cell? ⟨L.blk, 1, none⟩ = some (.int .i64 L.tr.fact) := n3.cell 1
    have c2 : w.cell? ⟨L.blk, 2, none⟩ = some L.kidsV := n3.cell 2
    obtain ⟨A, cap, hv, hcap, hmx, hcell⟩ := n4.form
    rw [hv] at c2
    have hkk : L.tr.kids.length = L.kids.length := by rw [LT.tr_kids, List.length_map]
    rw [List.length_map] at *
    unfold maxLen at hmx
    have hlb : L.blk < w.heap.size := n3.lt
    obtain ⟨m0, hm0⟩ : ∃ m0, ps.length = m0 := ⟨_, rfl⟩
    have IH := Lib.hid ih
    have HC := Lib.hid hcell
    have HK := Lib.hid hkk
    have HM0 := Lib.hid hm0
    clear ih hv hcell hkk
    have hst := Putting.start (F := none) (k := L.tr.kind) (f := L.tr.fact) hrow hlo (fun b e => by cases e)
    have HST := Lib.hid hst
    clear hst
    have HROW := Lib.hid hrow
    clear hrow
    rw [hm0]
    clear hm0
    go_enter Try.func50, Try.ntmps50
    go_wp2_with fail
    go_region_held3 (fun w' => w'.cell? ⟨L.blk, 0, none⟩ = some (.int .i64 L.tr.kind) ∧ w'.cell? ⟨L.blk, 1, none⟩ = some (.int .i64 L.tr.fact)) (go_keep) (fail)
    go_wp2_with fail
    go_loopw [0, 22] (FlatRel (.slice A0 ps.length cap0) lo ps L.tr w) (fun _ i _ => L.kids.length - (intOf i).toNat)
    case atStart => exact ⟨0, _, _, [], by rw [HM0.out], rfl, Nat.zero_le _, HST.out.drew⟩
    case round =>
      obtain ⟨k, vk, ck, news, rfl, rfl, hk, hP⟩ := hrel
      rw [HK.out] at hk
      have hbel : Below lo w wr := hP.kept.below (fun f e => by cases e) (fun g e => (HROW.out.1.lt g e).1) hlo
      have hszw := hP.kept.size
      have hNl := hP.node.lt
      have hlen : (idxL ps.length (L.tr.kids.take k)).length = k := by rw [idxL_length, List.length_take, HK.out]; omega
      obtain ⟨Av, cv, rfl⟩ := own_form hP.row.1
      by_cases hlt : k < L.kids.length
      · obtain ⟨g, rfl, g1, g2, g3, g4, g5⟩ := HC.out k (L.kids[k]).ptr (by simp [hlt])
        rw [LT.ptr] at g4
        have c5 : wr.cell? ⟨g, k, none⟩ = some (.pointer (some ⟨(L.kids[k]).blk, 0, none⟩)) := (hbel.cell (by exact Nat.lt_of_lt_of_le g2 hhi)).trans g4
        have hkin : (L.kids[k]).In wr 76 70 lo0 hi := (hin.kid (List.getElem_mem _)).below hbel hhi
        have hkl : (L.kids[k]).tr.size ≤ n := by have := LT.kid_size (L := L) (List.getElem_mem hlt); omega
        have htk : L.tr.kids[k]? = some (L.kids[k]).tr := by rw [LT.tr_kids, List.getElem?_map, List.getElem?_eq_getElem hlt]; rfl
        have hnl : news.length = sizeL (L.tr.kids.take k) := by rw [← List.length_map (f := (·.1)), hP.nds, encL_length]
        have hss := sizeL_take_kid L.tr k _ htk
        have hkz : (ps ++ news).length + (L.kids[k]).tr.size ≤ 1000000 := by rw [List.length_append]; omega
        have hidx : (((ps ++ news).length : Int) + ((L.kids[k]).tr.size : Int) - 1) = (((ps.length + sizeL (L.tr.kids.take k) + (L.kids[k]).tr.size : Nat) : Int) - 1) := by rw [List.length_append, hnl]; omega
        have hb63 : k + 1 ≤ maxLen := by have := L.kids_le; unfold maxLen; omega
        have hbby : (k + 1) * 8 ≤ 140737488355328 := by have := L.kids_le; omega
        have hlow : lo ≤ wr.heap.size := by omega
        have hcall := IH.out (L.kids[k]) wr lo0 hi lo Av cv (ps ++ news) hkl hkin hhi hlow hP.row hkz
        obtain ⟨m, hm⟩ : ∃ m, (ps ++ news).length = m := ⟨_, rfl⟩
        rw [hm] at hcall ⊢
        have HP := Lib.hid hP
        have HT := Lib.hid htk
        have HI := Lib.hid hidx
        have HL := Lib.hid hlen
        have HM := Lib.hid hm
        have HCALL := Lib.hid hcall
        clear hP hnl htk hidx hlen hm hcall
        go_wp2_with fail
        refine HCALL.out.mono ?_
        rintro e w1 ⟨A1, c1', news1, rfl, hd⟩
        rw [← HM.out] at hd
        have HP1 := Lib.hid (HP.out.call hd)
        have hnl1 : ((ps ++ news ++ news1).length : Int) = ((ps ++ news).length : Int) + ((L.kids[k]).tr.size : Int) := by
          have hn1l : news1.length = (L.kids[k]).tr.size := by have := congrArg List.length hd.nds; rwa [List.length_map, enc_length] at this
          rw [List.length_append, hn1l]; simp
        have hq1 : 1 ≤ (ps ++ news ++ news1).length := by have := (L.kids[k]).tr.size_pos; omega
        have hq2 : (ps ++ news ++ news1).length ≤ 1000000 := by omega
        obtain ⟨m1, hm1⟩ : ∃ m1, (ps ++ news ++ news1).length = m1 := ⟨_, rfl⟩
        rw [hm1] at hnl1 hq1 hq2 ⊢
        rw [hm1] at HP1
        have HM1 := Lib.hid hm1
        have HN1 := Lib.hid hnl1
        have hNl1 := HP1.out.node.lt
        have cN11 : w1.cell? ⟨w.heap.size, 1, none⟩ = some ck := HP1.out.node.cell 1
        have fN11 := HP1.out.node.frozen 1
        have hne1 := own_ne_blk HP1.out.kids HP1.out.node (by decide)
        have hown1 := HP1.out.kids
        rw [HL.out] at hown1
        clear hd hm1 hnl1
        have hbs : lo ≤ (w1.alloc (.cells #[.int .i64 ((m1 : Int) - 1)] 3)).heap.size := by rw [World.size_alloc]; omega
        go_wp2_with (at_builtin; refine wpList_append_lies _ rfl _ _ _ rfl lo 3 i0 _ 1 8 Try.underlying48 hi0 hz0 hz1 hz2 rfl (by omega) ck k _ rfl (hown1.alloc _) ⟨w1.heap.size, 0, none⟩ 1 1 [.int .i64 ((m1 : Int) - 1)] rfl rfl (World.news_of_block (cs := #[.int .i64 ((m1 : Int) - 1)]) (t := 3) (fr := (0, 0)) (heap_alloc_new _ _)) (by simp [Value.oneCell']) (by omega) hb63 hbby hbs (w1.heap.size + 1) (by simp) ?_; intro gg cap2 w3 hown3 hgrow hat hlt3; have hc7 := keep_cell (a := ⟨w.heap.size, 1, none⟩) hNl1 (Below.refl _ _) cN11 hne1 hgrow; have hf7 := keep_frozen (a := ⟨w.heap.size, 1, none⟩) hNl1 (Below.refl _ _) fN11 hne1 hgrow)
        go_roundw
        case rel =>
          have htk1 : L.tr.kids.take (k + 1) = L.tr.kids.take k ++ [(L.kids[k]).tr] := by rw [List.take_add_one, HT.out, Option.toList_some]
          have hst := HP1.out.step (i := (m1 : Int) - 1) (gg := gg) (cap := cap2) (by rw [HL.out]; exact hown3) hgrow hat
          rw [HL.out] at hst
          refine ⟨k + 1, .slice A1 m1 c1', .slice (some ⟨gg, 0, none⟩) (k + 1) cap2, news ++ news1, rfl, by go_num, by rw [HK.out]; omega, ?_⟩
          rw [htk1, idxL_snoc, ← HI.out, ← HN1.out]
          exact hst
        case measure => simp [intOf]; omega
      · have hkk : k = L.tr.kids.length := by rw [HK.out]; omega
        subst hkk
        rw [List.take_length] at hP hlen
        have hnl : news.length = sizeL L.tr.kids := by rw [← List.length_map (f := (·.1)), hP.nds, encL_length]
        have hzz := size_kids L.tr
        obtain ⟨A3, cap3, rfl⟩ := own_form hP.kids
        have cN0 : wr.cell? ⟨w.heap.size, 0, none⟩ = some (.int .i64 L.tr.kind) := hP.node.cell 0
        have cN1 : wr.cell? ⟨w.heap.size, 1, none⟩ = some (.slice A3 (idxL ps.length L.tr.kids).length cap3) := hP.node.cell 1
        have cN2 : wr.cell? ⟨w.heap.size, 2, none⟩ = some (.int .i64 L.tr.fact) := hP.node.cell 2
        have hb63 : (ps ++ news).length + 1 ≤ maxLen := by rw [List.length_append]; unfold maxLen; omega
        have hbby : ((ps ++ news).length + 1) * 40 ≤ 140737488355328 := by rw [List.length_append]; omega
        have hownd := hP.row.1
        have hbs : lo ≤ (wr.alloc (.cells #[.int .i64 L.tr.kind, .slice A3 (idxL ps.length L.tr.kids).length cap3, .int .i64 L.tr.fact] 50)).heap.size := by rw [World.size_alloc]; omega
        obtain ⟨m, hm⟩ : ∃ m, (ps ++ news).length = m := ⟨_, rfl⟩
        rw [hm] at hownd hb63 hbby ⊢
        have HP := Lib.hid hP
        have HL := Lib.hid hlen
        have HM := Lib.hid hm
        clear hP hnl hzz hlen hm
        go_wp2_with (at_builtin; refine wpList_append_lies _ rfl _ _ _ rfl lo 50 j0 _ 3 40 Try.underlying22 hj0 hy0 hy1 hy2 rfl (by omega) (.slice Av m cv) m (flatN (ps ++ news)) rfl (hownd.alloc _) ⟨wr.heap.size, 0, none⟩ 1 1 [.int .i64 L.tr.kind, .slice A3 (idxL ps.length L.tr.kids).length cap3, .int .i64 L.tr.fact] rfl rfl (World.news_of_block (cs := #[.int .i64 L.tr.kind, .slice A3 (idxL ps.length L.tr.kids).length cap3, .int .i64 L.tr.fact]) (t := 50) (fr := (0, 0)) (heap_alloc_new _ _)) (by simp [Value.oneCell']) (by omega) hb63 hbby hbs (wr.heap.size + 1) (by simp) ?_; intro gg cap2 w3 hown3 hgrow hat hlt3)
        go_ret
        have hl := HP.out.last (w3 := w3) (gg := gg) (cap := cap2) (w4 := w3) rfl rfl (by rw [HM.out]; exact hown3) (by rw [HM.out]; exact hgrow) (by rw [HM.out]; exact hat) rfl rfl rfl rfl (fun g hg => rfl) (fun b e => by cases e)
        have e1 : (ps ++ (news ++ [((⟨L.tr.kind, idxL ps.length L.tr.kids, L.tr.fact⟩ : Nd), Value.slice A3 (idxL ps.length L.tr.kids).length cap3)])).length = (ps ++ news).length + 1 := by rw [← List.append_assoc, List.length_append]; rfl
        refine ⟨some ⟨gg, 0, none⟩, cap2, news ++ [((⟨L.tr.kind, idxL ps.length L.tr.kids, L.tr.fact⟩ : Nd), Value.slice A3 (idxL ps.length L.tr.kids).length cap3)], ?_, ?_⟩
        · rw [e1, HM.out]
          rfl
        · rw [e1, ← HM0.out]
          exact hl
end Go.Proofs.Ytdfbclkafocnpaa
