/- wForms collects a tree and all within it, the root first: for every tree that lies in memory below the list. -/
import Derived.Test.YtdfbclkafocnpaaFlatw
namespace Go.Proofs.Ytdfbclkafocnpaa
open Go.RowKit

theorem LT.sub_kids (L : LT) : L.sub = L :: L.kids.flatMap LT.sub := by cases L <;> simp [LT.sub, LT.kids]

/-- The list that is collected lies in block F, in a row of its own. -/
structure Coll (F : Nat) (v : Value) (xs : List Value) (w0 w : World) : Prop where
  blk : Blk w F 33 #[v]
  own : w.ownsRow (F + 1) 29 1 v xs.length xs
  below : Below F w0 w

/-- One more is appended, and the list stored. -/
theorem coll_push {F gg cap : Nat} {v u : Value} {xs : List Value} {w w3 : World} {o : Obj} (hb : Blk w F 33 #[v]) (hown : w.ownsRow (F + 1) 29 1 v xs.length xs) (hg : (w.alloc o).grownBy w3 v.ownBlock)
    (hown3 : w3.ownsRow (F + 1) 29 1 (.slice (some ⟨gg, 0, none⟩) (xs.length + 1) cap) (xs.length + 1) (xs ++ [u])) :
    Coll F (.slice (some ⟨gg, 0, none⟩) (xs.length + 1) cap) (xs ++ [u]) w (w3.setCell ⟨F, 0, none⟩ (.slice (some ⟨gg, 0, none⟩) (xs.length + 1) cap)) := by
  have hne := own_ne_blk hown hb (by decide)
  have hl := hb.lt
  have h3 : Blk w3 F 33 #[v] := (hg.block F (by rw [World.size_alloc]; omega) (Ne.symm hne)).trans ((Below.heap_alloc _ _ _ hl).trans hb)
  refine ⟨h3.set_ 0 _, ?_, ?_⟩
  · rw [List.length_append, List.length_singleton]
    exact ownsRow_setCell_below hown3 (a := ⟨F, 0, none⟩) (by exact Nat.lt_succ_self F) _
  · refine Below.setCell (p := ⟨F, 0, none⟩) ?_ (Nat.le_refl F) _
    exact ((Below.refl F w).alloc (Nat.le_of_lt hl) o).grown hg (by rw [World.size_alloc]; omega) fun g e => by have := (hown.lt g e).1; omega

def FormsPost (F : Nat) (xs : List Value) (L : LT) (w : World) (e : Ending) (w' : World) : Prop :=
  (∃ r, e = .returned r) ∧ ∃ v', Coll F v' (xs ++ L.sub.map LT.ptr) w w'

def FormsRel (F : Nat) (xs : List Value) (L : LT) (w : World) (i : Value) (wr : World) : Prop :=
  ∃ (k : Nat) (v' : Value), i = .int .i64 k ∧ k ≤ L.kids.length ∧ Coll F v' (xs ++ L.ptr :: ((L.kids.take k).flatMap LT.sub).map LT.ptr) w wr

set_option maxHeartbeats 800000 in
theorem forms_any (n : Nat) : ∀ (L : LT) (w : World) (lo F : Nat) (v : Value) (xs : List Value), L.tr.size ≤ n → L.In w 38 29 lo F → Coll F v xs w w → xs.length + L.tr.size ≤ 1000000 →
    Calls Try.prog 26 #[.pointer (some ⟨L.blk, 0, none⟩), .pointer (some ⟨F, 0, none⟩)] w (FormsPost F xs L w) := by
  induction n with
  | zero => intro L w lo F v xs h; have := L.tr.size_pos; omega
  | succ n ih =>
    intro L w lo F v xs hn hin hC hsz
    obtain ⟨i0, hi0, hz0, hz1, hz2⟩ := info_parts Try.info29
    obtain ⟨n1, n2, n3, n4⟩ := hin.node
    have hFl : F < w.heap.size := hC.blk.lt
    have cF : w.cell? ⟨F, 0, none⟩ = some v := hC.blk.cell 0
    have fF : w.frozen? ⟨F, 0, none⟩ = false := hC.blk.frozen 0
    have hown := hC.own
    have hne := own_ne_blk hC.own hC.blk (by decide)
    have hbl := hC.blk
    have hneL : v.ownBlock ≠ some L.blk := fun e => by have := (hown.lt _ e).1; omega
    have hLF : ¬ L.blk = F := by omega
    have hLF' : L.blk ≠ F := by omega
    obtain ⟨Av, cv, rfl⟩ := own_form hown
    obtain ⟨A, cap, hv, hcap, hmx, hcell⟩ := n4.form
    have c2 : w.cell? ⟨L.blk, 2, none⟩ = some L.kidsV := n3.cell 2
    rw [hv] at c2
    rw [List.length_map] at *
    unfold maxLen at hmx
    have hlb : L.blk < w.heap.size := n3.lt
    have hb63 : xs.length + 1 ≤ maxLen := by unfold maxLen; omega
    have hbby : (xs.length + 1) * 8 ≤ 140737488355328 := by omega
    have hbs : F + 1 ≤ (w.alloc (.cells #[.pointer (some ⟨L.blk, 0, none⟩)] 29)).heap.size := by rw [World.size_alloc]; omega
    obtain ⟨m, hm⟩ : ∃ m, xs.length = m := ⟨_, rfl⟩
    rw [hm] at hown hb63 hbby hne hneL cF hbl
    have IH := Lib.hid ih
    have HC := Lib.hid hcell
    have HM := Lib.hid hm
    have HV := Lib.hid hv
    clear ih hv hcell hm hC
    go_enter Try.func26, Try.ntmps26
    go_wp2_with (at_builtin; refine wpList_append_lies _ rfl _ _ _ rfl (F + 1) 29 i0 _ 1 8 Try.underlying33 hi0 hz0 hz1 hz2 rfl (by omega) (.slice Av m cv) m xs rfl (hown.alloc _) ⟨w.heap.size, 0, none⟩ 1 1 [.pointer (some ⟨L.blk, 0, none⟩)] rfl rfl (World.news_of_block (cs := #[.pointer (some ⟨L.blk, 0, none⟩)]) (t := 29) (fr := (0, 0)) (heap_alloc_new _ _)) (by simp [Value.oneCell']) (by omega) hb63 hbby hbs (w.heap.size + 1) (by simp) ?_; intro gg cap2 w3 hown3 hgrow hat hlt3; have hc7 := keep_cell (a := ⟨F, 0, none⟩) hFl (Below.refl _ _) cF hne hgrow; have hf7 := keep_frozen (a := ⟨F, 0, none⟩) hFl (Below.refl _ _) fF hne hgrow; have hc2 := keep_cell (a := ⟨L.blk, 2, none⟩) hlb (Below.refl _ _) c2 hneL hgrow)
    have hst := coll_push hbl (by rw [HM.out]; exact hown) hgrow (by rw [HM.out]; exact hown3)
    rw [HM.out] at hst
    have HST := Lib.hid hst
    have hcF : F < w3.heap.size := by have := hgrow.size; rw [World.size_alloc] at this; omega
    clear hst hown3 hgrow hat
    go_wp2_with fail
    go_loopw [19] (FormsRel F xs L w) (fun i _ => L.kids.length - (intOf i).toNat)
    case atStart => exact ⟨0, _, rfl, Nat.zero_le _, HST.out⟩
    case round =>
      obtain ⟨k, v', rfl, hk, hP⟩ := hrel
      by_cases hlt : k < L.kids.length
      · obtain ⟨g, rfl, g1, g2, g3, g4, g5⟩ := HC.out k (L.kids[k]).ptr (by simp [hlt])
        rw [LT.ptr] at g4
        have c5 : wr.cell? ⟨g, k, none⟩ = some (.pointer (some ⟨(L.kids[k]).blk, 0, none⟩)) := (hP.below.cell (by exact g2)).trans g4
        have hkin : (L.kids[k]).In wr 38 29 lo F := (hin.kid (List.getElem_mem _)).below hP.below (Nat.le_refl _)
        have hkl : (L.kids[k]).tr.size ≤ n := by have := LT.kid_size (L := L) (List.getElem_mem hlt); omega
        have hck : Coll F v' (xs ++ L.ptr :: ((L.kids.take k).flatMap LT.sub).map LT.ptr) wr wr := ⟨hP.blk, hP.own, Below.refl _ _⟩
        have hlen : (xs ++ L.ptr :: ((L.kids.take k).flatMap LT.sub).map LT.ptr).length + (L.kids[k]).tr.size ≤ 1000000 := by
          have h1 : (L.kids.take k).flatMap LT.sub ++ (L.kids[k]).sub = (L.kids.take (k + 1)).flatMap LT.sub := by
            rw [List.take_add_one, List.getElem?_eq_getElem hlt, Option.toList_some, List.flatMap_append]; simp
          have h2 : ((L.kids.take (k + 1)).flatMap LT.sub).length + 1 ≤ L.tr.size := by
            rw [← LT.sub_length L, LT.sub_kids L, List.length_cons]
            have : L.kids = L.kids.take (k + 1) ++ L.kids.drop (k + 1) := (List.take_append_drop _ _).symm
            conv => rhs; rw [this]
            rw [List.flatMap_append, List.length_append]
            omega
          rw [← h1, List.length_append, LT.sub_length] at h2
          simp only [List.length_append, List.length_cons, List.length_map]
          omega
        have HP := Lib.hid hP
        have HCK := Lib.hid hck
        clear hP hck
        go_wp2_with (go_at_call 26; refine (IH.out (L.kids[k]) wr lo F v' _ hkl hkin HCK.out hlen).mono ?_; rintro e w1 ⟨⟨r, rfl⟩, v1, hc1⟩)
        go_roundw
        case rel =>
          refine ⟨k + 1, v1, by go_num, by omega, hc1.blk, ?_, HP.out.below.trans hc1.below⟩
          have h1 : xs ++ L.ptr :: ((L.kids.take k).flatMap LT.sub).map LT.ptr ++ (L.kids[k]).sub.map LT.ptr = xs ++ L.ptr :: ((L.kids.take (k + 1)).flatMap LT.sub).map LT.ptr := by
            rw [List.take_add_one, List.getElem?_eq_getElem hlt, Option.toList_some, List.flatMap_append]; simp
          rw [← h1]
          exact hc1.own
        case measure => simp [intOf]; omega
      · have hkk : k = L.kids.length := by omega
        subst hkk
        rw [List.take_length] at hP
        have HP := Lib.hid hP
        clear hP
        go_wp2_with fail
        go_end0
        refine ⟨⟨_, rfl⟩, v', ?_⟩
        rw [LT.sub_kids]
        exact HP.out
end Go.Proofs.Ytdfbclkafocnpaa
