/- after: what is left of a formula behind the first state is made in memory as the plain function says: for every right formula. -/
import Derived.Test.YtdfbclkafocnpaaAft
import Derived.Test.YtdfbclkafocnpaaSet
import Derived.Test.YtdfbclkafocnpaaOrig
namespace Go.Proofs.Ytdfbclkafocnpaa
open Go.RowKit

/-- The closure: the call at a child of the node. -/
theorem after1_any (T : Tr) (q j len c2 offA bx bn bA pb : Nat) (w : World) (hx : w.cell? ⟨bx, 0, none⟩ = some (.pointer (some ⟨pb, 0, none⟩))) (hn : w.cell? ⟨bn, 1, none⟩ = some (.slice (some ⟨bA, offA, none⟩) len c2)) (hA : w.cell? ⟨bA, offA + q, none⟩ = some (.int .i64 (j : Int)))
    (hq : q < len) (h : Calls Try.prog 51 #[.pointer (some ⟨pb, 0, none⟩), .int .i64 (j : Int)] w.drew (RetTree 76 70 0 T w.drew)) :
    Calls Try.prog 55 #[.int .i64 (q : Int), .pointer (some ⟨bx, 0, none⟩), .pointer (some ⟨bn, 0, none⟩)] w (RetTree 76 70 0 T w) := by
  have hq0 : (0 : Int) ≤ (q : Int) := Int.natCast_nonneg _
  have hq1 : (q : Int) < (len : Int) := by omega
  have H := Lib.hid h
  have hx' : w.drew.cell? ⟨bx, 0, none⟩ = some (.pointer (some ⟨pb, 0, none⟩)) := hx
  have hn' : w.drew.cell? ⟨bn, 1, none⟩ = some (.slice (some ⟨bA, offA, none⟩) len c2) := hn
  have hA' : w.drew.cell? ⟨bA, offA + q, none⟩ = some (.int .i64 (j : Int)) := hA
  clear h
  go_enter Try.func55, Try.ntmps55
  go_wp2_with fail
  go_region_held3 (fun w' => w'.cell? ⟨bx, 0, none⟩ = some (.pointer (some ⟨pb, 0, none⟩)) ∧ w'.cell? ⟨bn, 1, none⟩ = some (.slice (some ⟨bA, offA, none⟩) len c2) ∧ w'.cell? ⟨bA, offA + q, none⟩ = some (.int .i64 (j : Int)))
    (first | go_keep | exact ⟨cell_later hb1 hx', cell_later hb1 hn', cell_later hb1 hA'⟩)
    (first | (go_at_call 51; refine H.out.mono ?_; rintro e w1 ⟨L, rfl, ht, hL, hb1⟩))
  go_wp2_with fail
  go_ret
  exact ⟨L, rfl, ht, hL, ⟨hb1.os, hb1.tape, hb1.output, hb1.size, hb1.block⟩⟩

/-- The worlds of one call of after: what it reads. -/
structure AfterW (ns : List Nd) (s : List Int) (K f : Int) (js : List Nat) (w : World) (B pb bx bn m c c2 : Nat) (A A2 : Option Addr) (sv : Value) (W : World) : Prop where
  below : Below w.heap.size w W
  cp0 : W.cell? ⟨pb, 0, none⟩ = some (.slice A m c)
  cp1 : W.cell? ⟨pb, 1, none⟩ = some sv
  cbx : W.cell? ⟨bx, 0, none⟩ = some (.pointer (some ⟨pb, 0, none⟩))
  k0 : W.cell? ⟨bn, 0, none⟩ = some (.int .i64 K)
  k1 : W.cell? ⟨bn, 1, none⟩ = some (.slice A2 js.length c2)
  k2 : W.cell? ⟨bn, 2, none⟩ = some (.int .i64 f)
  nodes : NodesAt W B (.slice A m c) ns
  ints : IntsAt W B sv s
  kids : IntsAt W B (.slice A2 js.length c2) (js.map fun j : Nat => (j : Int))
  bB : B ≤ W.heap.size

section
variable {ns : List Nd} {s : List Int} {K f : Int} {js : List Nat} {w W W' : World} {B pb bx bn m c c2 : Nat} {A A2 : Option Addr} {sv : Value}
theorem AfterW.later (h : AfterW ns s K f js w B pb bx bn m c c2 A A2 sv W) (hb : Below W.heap.size W W') : AfterW ns s K f js w B pb bx bn m c c2 A A2 sv W' :=
  ⟨h.below.trans (hb.mono h.below.size), cell_later hb h.cp0, cell_later hb h.cp1, cell_later hb h.cbx, cell_later hb h.k0, cell_later hb h.k1, cell_later hb h.k2, h.nodes.below hb h.bB, h.ints.below hb h.bB, h.kids.below hb h.bB, Nat.le_trans h.bB hb.size⟩
theorem AfterW.drew (h : AfterW ns s K f js w B pb bx bn m c c2 A A2 sv W) : AfterW ns s K f js w B pb bx bn m c c2 A A2 sv W.drew := h.later ((Below.refl _ _).drew)

/-- The closure at child number q, in whatever world of the call. -/
theorem AfterW.child {T' : Tr} {q j : Nat} {qi : Int} (h : AfterW ns s K f js w B pb bx bn m c c2 A A2 sv W) (hqi : qi = (q : Int)) (hq : js[q]? = some j)
    (hc : ∀ W, AfterW ns s K f js w B pb bx bn m c c2 A A2 sv W → Calls Try.prog 51 #[.pointer (some ⟨pb, 0, none⟩), .int .i64 (j : Int)] W (RetTree 76 70 0 T' W)) :
    Calls Try.prog 55 #[.int .i64 qi, .pointer (some ⟨bx, 0, none⟩), .pointer (some ⟨bn, 0, none⟩)] W (RetTree 76 70 0 T' W) := by
  subst hqi
  obtain ⟨A', c', hv, _, _, hat⟩ := h.kids.form
  obtain ⟨bA, offA, e, hbA, hcell⟩ := hat q (j : Int) (by rw [List.getElem?_map, hq]; rfl)
  injection hv with hv1 hv2 hv3
  subst hv1
  subst e
  exact after1_any T' q j js.length c2 offA bx bn bA pb W h.cbx h.k1 hcell (List.getElem?_eq_some_iff.1 hq).1 (hc _ h.drew)
end

theorem after_start {ns : List Nd} {s : List Int} {K f : Int} {js : List Nat} {w : World} {B pb m c c2 : Nat} {A A2 : Option Addr} {sv : Value} (hp0 : w.cell? ⟨pb, 0, none⟩ = some (.slice A m c)) (hp1 : w.cell? ⟨pb, 1, none⟩ = some sv)
    (hN : NodesAt w B (.slice A m c) ns) (hS : IntsAt w B sv s) (hK : IntsAt w B (.slice A2 js.length c2) (js.map fun j : Nat => (j : Int))) (hB : B ≤ w.heap.size) :
    AfterW ns s K f js w B pb w.heap.size (w.heap.size + 1) m c c2 A A2 sv ((w.alloc (.cells #[.pointer (some ⟨pb, 0, none⟩)] 66)).alloc (.cells #[.int .i64 K, .slice A2 js.length c2, .int .i64 f] 50)) := by
  have hb : Below w.heap.size w ((w.alloc (.cells #[.pointer (some ⟨pb, 0, none⟩)] 66)).alloc (.cells #[.int .i64 K, .slice A2 js.length c2, .int .i64 f] 50)) := ((Below.refl _ _).alloc (Nat.le_refl _) _).alloc (by simp) _
  have b1 : Blk ((w.alloc (.cells #[.pointer (some ⟨pb, 0, none⟩)] 66)).alloc (.cells #[.int .i64 K, .slice A2 js.length c2, .int .i64 f] 50)) w.heap.size 66 #[.pointer (some ⟨pb, 0, none⟩)] := (Blk.new _ _ _).alloc _
  have b2 := Blk.new (w.alloc (.cells #[.pointer (some ⟨pb, 0, none⟩)] 66)) 50 #[.int .i64 K, .slice A2 js.length c2, .int .i64 f]
  rw [World.size_alloc] at b2
  exact ⟨hb, cell_later hb hp0, cell_later hb hp1, b1.cell 0, b2.cell 0, b2.cell 1, b2.cell 2, hN.below hb hB, hS.below hb hB, hK.below hb hB, Nat.le_trans hB hb.size⟩

theorem okc {facts : Int} {T : Tr} (h : T.ok facts) : (∃ f, T = .n0 1 f) ∨ (∃ f, T = .n0 2 f) ∨ (∃ f x, T = .n1 3 f x) ∨ (∃ f x y, T = .n2 4 f x y) ∨ (∃ f x y, T = .n2 5 f x y) ∨ (∃ f x, T = .n1 6 f x) ∨ (∃ f x y, T = .n2 7 f x y) ∨ (∃ f x, T = .n1 8 f x) ∨ (∃ f x, T = .n1 9 f x) := by
  cases T with
  | n0 k f =>
    rcases h with rfl | ⟨rfl, _⟩
    · exact .inl ⟨f, rfl⟩
    · exact .inr (.inl ⟨f, rfl⟩)
  | n1 k f x =>
    obtain ⟨rfl | rfl | rfl | rfl, _⟩ := h
    · exact .inr (.inr (.inl ⟨f, x, rfl⟩))
    · exact .inr (.inr (.inr (.inr (.inr (.inl ⟨f, x, rfl⟩)))))
    · exact .inr (.inr (.inr (.inr (.inr (.inr (.inr (.inl ⟨f, x, rfl⟩)))))))
    · exact .inr (.inr (.inr (.inr (.inr (.inr (.inr (.inr ⟨f, x, rfl⟩)))))))
  | n2 k f x y =>
    obtain ⟨rfl | rfl | rfl, _⟩ := h
    · exact .inr (.inr (.inr (.inl ⟨f, x, y, rfl⟩)))
    · exact .inr (.inr (.inr (.inr (.inl ⟨f, x, y, rfl⟩))))
    · exact .inr (.inr (.inr (.inr (.inr (.inr (.inl ⟨f, x, y, rfl⟩))))))

theorem kd1 {ns : List Nd} {k : Nat} {K f0 kd f : Int} {js : List Nat} {x : Tr} (hn : ns[k]? = some ⟨K, js.map (fun j : Nat => (j : Int)), f0⟩) (hs : SubAt ns k (.n1 kd f x)) : ∃ ia, js[0]? = some ia ∧ ia < k ∧ SubAt ns ia x := by
  obtain ⟨ia, h1, h2, h3⟩ := hs
  rw [hn] at h1
  simp only [Option.some.injEq, Nd.mk.injEq] at h1
  obtain ⟨_, h1, _⟩ := h1
  match js, h1 with
  | [j], h1 =>
    simp at h1
    have h1 : j = ia := by omega
    subst h1
    exact ⟨j, rfl, h2, h3⟩
theorem kd2 {ns : List Nd} {k : Nat} {K f0 kd f : Int} {js : List Nat} {x y : Tr} (hn : ns[k]? = some ⟨K, js.map (fun j : Nat => (j : Int)), f0⟩) (hs : SubAt ns k (.n2 kd f x y)) :
    ∃ ia ic, js[0]? = some ia ∧ js[1]? = some ic ∧ ia < k ∧ ic < k ∧ SubAt ns ia x ∧ SubAt ns ic y := by
  obtain ⟨ia, ic, h1, h2, h3, h4, h5⟩ := hs
  rw [hn] at h1
  simp only [Option.some.injEq, Nd.mk.injEq] at h1
  obtain ⟨_, h1, _⟩ := h1
  match js, h1 with
  | [j, j'], h1 =>
    simp at h1
    obtain ⟨e1, e2⟩ := h1
    have e1 : j = ia := by omega
    have e2 : j' = ic := by omega
    subst e1
    subst e2
    exact ⟨j, j', rfl, rfl, h2, h3, h4, h5⟩

theorem aft1 (s : List Int) (f : Int) : afterT s (.n0 1 f) = .n0 1 0 := by simp [afterT]
theorem aft2 (s : List Int) (f : Int) : afterT s (.n0 2 f) = if s.contains f = true then .n0 1 0 else .n1 3 0 (.n0 1 0) := by simp [afterT]
theorem aft3 (s : List Int) (f : Int) (x : Tr) : afterT s (.n1 3 f x) = notT (afterT s x) := by simp [afterT]
theorem aft4 (s : List Int) (f : Int) (x y : Tr) : afterT s (.n2 4 f x y) = andT (afterT s x) (afterT s y) := by simp [afterT]
theorem aft5 (s : List Int) (f : Int) (x y : Tr) : afterT s (.n2 5 f x y) = orT (afterT s x) (afterT s y) := by simp [afterT]
theorem aft6 (s : List Int) (f : Int) (x : Tr) : afterT s (.n1 6 f x) = x := by simp [afterT]
theorem aft7 (s : List Int) (f : Int) (x y : Tr) : afterT s (.n2 7 f x y) = orT (afterT s y) (andT (afterT s x) (.n2 7 f x y)) := by simp [afterT]
theorem aft8 (s : List Int) (f : Int) (x : Tr) : afterT s (.n1 8 f x) = andT (afterT s x) (.n1 8 f x) := by simp [afterT]
theorem aft9 (s : List Int) (f : Int) (x : Tr) : afterT s (.n1 9 f x) = orT (afterT s x) (.n1 9 f x) := by simp [afterT]
theorem LT.In.up {L : LT} {S E : TypeId} {lo : Nat} {w w' : World} (h : L.In w S E lo w.heap.size) (hb : Below w.heap.size w w') : L.In w' S E lo w'.heap.size := (h.below hb (Nat.le_refl _)).mono (Nat.le_refl _) hb.size

set_option maxHeartbeats 2000000 in
theorem after_any (facts : Int) (ns : List Nd) (s : List Int) (n : Nat) : ∀ (T : Tr) (i pb B m c : Nat) (A : Option Addr) (sv : Value) (w : World), T.size ≤ n → SubAt ns i T → T.ok facts → w.cell? ⟨pb, 0, none⟩ = some (.slice A m c) → w.cell? ⟨pb, 1, none⟩ = some sv →
    NodesAt w B (.slice A m c) ns → IntsAt w B sv s → B ≤ w.heap.size →
    Calls Try.prog 51 #[.pointer (some ⟨pb, 0, none⟩), .int .i64 (i : Int)] w (RetTree 76 70 0 (afterT s T) w) := by
  induction n with
  | zero => intro T i pb B m c A sv w h; have := T.size_pos; omega
  | succ n ih =>
    intro T i pb B m c A sv w hn hT hok hp0 hp1 hN hS hB
    obtain ⟨js, hnd, hjs, hsub⟩ := hT.open_
    obtain ⟨A', c', hv, hc1, hc2, hat⟩ := hN.form
    obtain ⟨b, off, u, e, hbB, k0, k1, k2, hI⟩ := hat i _ hnd
    injection hv with hA hm hc
    subst hA; subst hm; subst hc; subst e
    have hIw := hI
    obtain ⟨A2, c2, rfl, hl2, hc22, hkid⟩ := hI.form
    rw [List.length_map] at hl2 k1 hIw
    have hil : i < ns.length := (List.getElem?_eq_some_iff.1 hnd).1
    have hi1 : (0 : Int) ≤ (i : Int) := Int.natCast_nonneg _
    have hi2 : (i : Int) < (ns.length : Int) := by omega
    have hbl : b < w.heap.size := by omega
    have hpl := World.block_lt_of_cell? w _ hp0
    unfold maxLen at hc2 hc22
    have hA := after_start (K := T.kind) (f := T.fact) hp0 hp1 hN hS hIw hB
    have HA := Lib.hid hA
    have IH := Lib.hid ih
    have HS := Lib.hid hsub
    have HN := Lib.hid hnd
    have HJ := Lib.hid hjs
    clear ih hkid hsub hat hnd hjs hA hI
    go_enter Try.func51, Try.ntmps51
    go_upto_region 3 with (fail)
    generalize (w.alloc (.cells #[.pointer (some ⟨pb, 0, none⟩)] 66)).alloc (.cells #[.int .i64 T.kind, .slice A2 js.length c2, .int .i64 T.fact] 50) = W at HA ⊢
    have cp1 := HA.out.cp1
    have cbx := HA.out.cbx
    have k0W := HA.out.k0
    have k1W := HA.out.k1
    have k2W := HA.out.k2
    have HAd := Lib.hid HA.out.drew
    clear k0 k1 k2 hN hS hp0 hp1 hIw
    have HO : ∀ W', AfterW ns s T.kind T.fact js w B pb w.heap.size (w.heap.size + 1) ns.length c c2 (some ⟨b, off, none⟩) A2 sv W' → Calls Try.prog 60 #[.pointer (some ⟨pb, 0, none⟩), .int .i64 (i : Int)] W' (RetTree 76 70 0 T W') := fun W' hW' =>
      (orig_any T.size ns T i (some ⟨b, off, none⟩) ns.length c W' B pb (Nat.le_refl _) hW'.cp0 hW'.nodes hT hW'.bB).mono fun _ _ h => h.lower (Nat.zero_le _)
    have HORIG := Lib.hid HO
    clear HO
    rcases okc hok with ⟨f, rfl⟩ | ⟨f, rfl⟩ | ⟨f, x, rfl⟩ | ⟨f, x, y, rfl⟩ | ⟨f, x, y, rfl⟩ | ⟨f, x, rfl⟩ | ⟨f, x, y, rfl⟩ | ⟨f, x, rfl⟩ | ⟨f, x, rfl⟩
    all_goals simp only [Tr.kind, Tr.fact] at HA HAd k0W k2W HORIG ⊢
    · go_wp2_with fail
      refine (always_ret W).mono ?_
      rintro e w1 ⟨L, rfl, ht, hL, hb1⟩
      go_wp2_with fail
      go_ret
      exact ⟨L, rfl, by rw [ht, aft1], hL, (HA.out.later hb1).below⟩
    · have hcon := contains_any s f sv B W.drew HAd.out.ints
      have HCON := Lib.hid hcon
      clear hcon
      go_wp2_with fail
      go_region_held3 (fun w' => w'.cell? ⟨w.heap.size, 0, none⟩ = some (.pointer (some ⟨pb, 0, none⟩)) ∧ w'.cell? ⟨pb, 1, none⟩ = some sv ∧ w'.cell? ⟨w.heap.size + 1, 2, none⟩ = some (.int .i64 f))
        (first | go_keep | exact ⟨HA1.out.cbx, HA1.out.cp1, HA1.out.k2⟩)
        (first
         | (go_at_call 53; refine HCON.out.mono ?_; rintro e w' ⟨rfl, rfl⟩)
         | (go_at_call 56; refine (truth_ret _ _).mono ?_; rintro e w1 ⟨L, rfl, ht, hL, hb1⟩; have HA1 := Lib.hid (HAd.out.later hb1)))
      go_wp2_with fail
      go_ret
      exact ⟨L, rfl, by rw [ht, aft2, List.contains_eq_mem], hL, HA1.out.below⟩
    · obtain ⟨ia, hq0, hia, hsx⟩ := kd1 HN.out hT
      have okx := hok.2
      have hcx := fun W' (hW' : AfterW ns s 3 f js w B pb w.heap.size (w.heap.size + 1) ns.length c c2 (some ⟨b, off, none⟩) A2 sv W') => hW'.child (T' := afterT s x) (qi := 0) (q := 0) rfl hq0 (fun W'' hW'' => IH.out x ia pb B ns.length c (some ⟨b, off, none⟩) sv W'' (by simp only [Tr.size] at hn; omega) hsx okx hW''.cp0 hW''.cp1 hW''.nodes hW''.ints hW''.bB)
      have HC0 := Lib.hid hcx
      have okx' := afterT_ok (s := s) okx
      have hokT := hok
      clear hcx hsx hia
      go_wp2_with fail
      refine (HC0.out W HA.out).mono ?_
      rintro e w1 ⟨L1, rfl, ht1, hL1, hb1⟩
      go_wp2_with fail
      refine (not_ret facts L1 w1.heap.size w1 hL1 (Nat.le_refl _) (by rw [ht1]; exact okx')).mono ?_
      rintro e w2 ⟨L2, rfl, ht2, hL2, hb2⟩
      go_wp2_with fail
      go_ret
      exact ⟨L2, rfl, by rw [ht2, ht1, aft3], hL2, ((HA.out.later hb1).later hb2).below⟩
    · obtain ⟨ia, ic, hq0, hq1, hia, hic, hsx, hsy⟩ := kd2 HN.out hT
      have okx := hok.2.1
      have oky := hok.2.2
      have hcx := fun W' (hW' : AfterW ns s 4 f js w B pb w.heap.size (w.heap.size + 1) ns.length c c2 (some ⟨b, off, none⟩) A2 sv W') => hW'.child (T' := afterT s x) (qi := 0) (q := 0) rfl hq0 (fun W'' hW'' => IH.out x ia pb B ns.length c (some ⟨b, off, none⟩) sv W'' (by simp only [Tr.size] at hn; omega) hsx okx hW''.cp0 hW''.cp1 hW''.nodes hW''.ints hW''.bB)
      have hcy := fun W' (hW' : AfterW ns s 4 f js w B pb w.heap.size (w.heap.size + 1) ns.length c c2 (some ⟨b, off, none⟩) A2 sv W') => hW'.child (T' := afterT s y) (qi := 1) (q := 1) rfl hq1 (fun W'' hW'' => IH.out y ic pb B ns.length c (some ⟨b, off, none⟩) sv W'' (by simp only [Tr.size] at hn; omega) hsy oky hW''.cp0 hW''.cp1 hW''.nodes hW''.ints hW''.bB)
      have HC0 := Lib.hid hcx
      have HC1 := Lib.hid hcy
      have okx' := afterT_ok (s := s) okx
      have oky' := afterT_ok (s := s) oky
      have hokT := hok
      clear hcx hcy hsx hsy hia hic hq0 hq1
      go_wp2_with fail
      refine (HC0.out W HA.out).mono ?_
      rintro e w1 ⟨L1, rfl, ht1, hL1, hb1⟩
      have HA1 := Lib.hid (HA.out.later hb1)
      go_wp2_with fail
      refine (HC1.out w1 HA1.out).mono ?_
      rintro e w2 ⟨L2, rfl, ht2, hL2, hb2⟩
      go_wp2_with fail
      refine (and_ret facts L1 L2 w2.heap.size w2 (hL1.up hb2) hL2 (Nat.le_refl _) (by rw [ht1]; exact okx') (by rw [ht2]; exact oky')).mono ?_
      rintro e w3 ⟨L3, rfl, ht3, hL3, hb3⟩
      go_wp2_with fail
      go_ret
      exact ⟨L3, rfl, by rw [ht3, ht1, ht2, aft4], hL3, ((HA1.out.later hb2).later hb3).below⟩
    · obtain ⟨ia, ic, hq0, hq1, hia, hic, hsx, hsy⟩ := kd2 HN.out hT
      have okx := hok.2.1
      have oky := hok.2.2
      have hcx := fun W' (hW' : AfterW ns s 5 f js w B pb w.heap.size (w.heap.size + 1) ns.length c c2 (some ⟨b, off, none⟩) A2 sv W') => hW'.child (T' := afterT s x) (qi := 0) (q := 0) rfl hq0 (fun W'' hW'' => IH.out x ia pb B ns.length c (some ⟨b, off, none⟩) sv W'' (by simp only [Tr.size] at hn; omega) hsx okx hW''.cp0 hW''.cp1 hW''.nodes hW''.ints hW''.bB)
      have hcy := fun W' (hW' : AfterW ns s 5 f js w B pb w.heap.size (w.heap.size + 1) ns.length c c2 (some ⟨b, off, none⟩) A2 sv W') => hW'.child (T' := afterT s y) (qi := 1) (q := 1) rfl hq1 (fun W'' hW'' => IH.out y ic pb B ns.length c (some ⟨b, off, none⟩) sv W'' (by simp only [Tr.size] at hn; omega) hsy oky hW''.cp0 hW''.cp1 hW''.nodes hW''.ints hW''.bB)
      have HC0 := Lib.hid hcx
      have HC1 := Lib.hid hcy
      have okx' := afterT_ok (s := s) okx
      have oky' := afterT_ok (s := s) oky
      have hokT := hok
      clear hcx hcy hsx hsy hia hic hq0 hq1
      go_wp2_with fail
      refine (HC0.out W HA.out).mono ?_
      rintro e w1 ⟨L1, rfl, ht1, hL1, hb1⟩
      have HA1 := Lib.hid (HA.out.later hb1)
      go_wp2_with fail
      refine (HC1.out w1 HA1.out).mono ?_
      rintro e w2 ⟨L2, rfl, ht2, hL2, hb2⟩
      go_wp2_with fail
      refine (or_ret facts L1 L2 w2.heap.size w2 (hL1.up hb2) hL2 (Nat.le_refl _) (by rw [ht1]; exact okx') (by rw [ht2]; exact oky')).mono ?_
      rintro e w3 ⟨L3, rfl, ht3, hL3, hb3⟩
      go_wp2_with fail
      go_ret
      exact ⟨L3, rfl, by rw [ht3, ht1, ht2, aft5], hL3, ((HA1.out.later hb2).later hb3).below⟩
    · obtain ⟨ia, hq0, hia, hsx⟩ := kd1 HN.out hT
      obtain ⟨A'', c'', hv, _, _, hat⟩ := HA.out.kids.form
      obtain ⟨bA, offA, e, hbA, hcell⟩ := hat 0 (ia : Int) (by rw [List.getElem?_map, hq0]; rfl)
      injection hv with hv1 hv2 hv3
      subst hv1
      subst e
      have hjl : 0 < js.length := (List.getElem?_eq_some_iff.1 hq0).1
      have hjl' : (0 : Int) < (js.length : Int) := by omega
      rw [Nat.add_zero] at hcell
      have hct := fun W' (hW' : AfterW ns s 6 f js w B pb w.heap.size (w.heap.size + 1) ns.length c c2 (some ⟨b, off, none⟩) (some ⟨bA, offA, none⟩) sv W') => (orig_any x.size ns x ia (some ⟨b, off, none⟩) ns.length c W' B pb (Nat.le_refl _) hW'.cp0 hW'.nodes hsx hW'.bB).mono fun _ _ h => h.lower (Nat.zero_le _)
      have HCT := Lib.hid hct
      clear hct hat hq0 hsx hia hv2 hv3
      go_wp2_with fail
      go_region_held3 (fun w' => w'.cell? ⟨w.heap.size, 0, none⟩ = some (.pointer (some ⟨pb, 0, none⟩)) ∧ w'.cell? ⟨w.heap.size + 1, 1, none⟩ = some (.slice (some ⟨bA, offA, none⟩) js.length c2) ∧ w'.cell? ⟨bA, offA, none⟩ = some (.int .i64 (ia : Int)))
        (first | go_keep | exact ⟨HA1.out.cbx, HA1.out.k1, cell_later hb1 hcell⟩)
        (first
         | (go_at_call 60; refine (HCT.out W.drew HAd.out).mono ?_; rintro e w1 ⟨L, rfl, ht, hL, hb1⟩; have HA1 := Lib.hid (HAd.out.later hb1)))
      go_wp2_with fail
      go_ret
      exact ⟨L, rfl, by rw [ht, aft6], hL, HA1.out.below⟩
    · obtain ⟨ia, ic, hq0, hq1, hia, hic, hsx, hsy⟩ := kd2 HN.out hT
      have okx := hok.2.1
      have oky := hok.2.2
      have hcx := fun W' (hW' : AfterW ns s 7 f js w B pb w.heap.size (w.heap.size + 1) ns.length c c2 (some ⟨b, off, none⟩) A2 sv W') => hW'.child (T' := afterT s x) (qi := 0) (q := 0) rfl hq0 (fun W'' hW'' => IH.out x ia pb B ns.length c (some ⟨b, off, none⟩) sv W'' (by simp only [Tr.size] at hn; omega) hsx okx hW''.cp0 hW''.cp1 hW''.nodes hW''.ints hW''.bB)
      have hcy := fun W' (hW' : AfterW ns s 7 f js w B pb w.heap.size (w.heap.size + 1) ns.length c c2 (some ⟨b, off, none⟩) A2 sv W') => hW'.child (T' := afterT s y) (qi := 1) (q := 1) rfl hq1 (fun W'' hW'' => IH.out y ic pb B ns.length c (some ⟨b, off, none⟩) sv W'' (by simp only [Tr.size] at hn; omega) hsy oky hW''.cp0 hW''.cp1 hW''.nodes hW''.ints hW''.bB)
      have HC0 := Lib.hid hcx
      have HC1 := Lib.hid hcy
      have okx' := afterT_ok (s := s) okx
      have oky' := afterT_ok (s := s) oky
      have hokT := hok
      clear hcx hcy hsx hsy hia hic hq0 hq1
      go_wp2_with fail
      go_region_held3 (fun w' => w'.cell? ⟨w.heap.size, 0, none⟩ = some (.pointer (some ⟨pb, 0, none⟩)))
        (first | go_keep | exact cb1 | exact cb2 | exact cb3 | exact cb4 | exact cb5)
        (first
         | (go_at_call_of 55 (Value.int IntKind.i64 1); refine (HC1.out W.drew HAd.out).mono ?_; rintro e w1 ⟨L1, rfl, ht1, hL1, hb1⟩; have HA1 := Lib.hid (HAd.out.later hb1); have cb1 := HA1.out.cbx)
         | (go_at_call_of 55 (Value.int IntKind.i64 0); refine (HC0.out w1 HA1.out).mono ?_; rintro e w2 ⟨L2, rfl, ht2, hL2, hb2⟩; have HA2 := Lib.hid (HA1.out.later hb2); have cb2 := HA2.out.cbx)
         | (go_at_call 60; refine (HORIG.out w2 HA2.out).mono ?_; rintro e w3 ⟨L3, rfl, ht3, hL3, hb3⟩; have HA3 := Lib.hid (HA2.out.later hb3); have cb3 := HA3.out.cbx; have ok2 := okx'; rw [← ht2] at ok2; have ok3 := hokT; rw [← ht3] at ok3)
         | (go_at_call 58; refine (and_ret facts L2 L3 w3.heap.size w3 (hL2.up hb3) hL3 (Nat.le_refl _) ok2 ok3).mono ?_; rintro e w4 ⟨L4, rfl, ht4, hL4, hb4⟩; have HA4 := Lib.hid (HA3.out.later hb4); have cb4 := HA4.out.cbx; have ok1 := oky'; rw [← ht1] at ok1; have ok4 := andT_ok ok2 ok3; rw [← ht4] at ok4)
         | (go_at_call 59; refine (or_ret facts L1 L4 w4.heap.size w4 (((hL1.up hb2).up hb3).up hb4) hL4 (Nat.le_refl _) ok1 ok4).mono ?_; rintro e w5 ⟨L5, rfl, ht5, hL5, hb5⟩; have HA5 := Lib.hid (HA4.out.later hb5); have cb5 := HA5.out.cbx))
      go_wp2_with fail
      go_ret
      exact ⟨L5, rfl, by rw [ht5, ht4, ht3, ht2, ht1, aft7], hL5, HA5.out.below⟩
    · obtain ⟨ia, hq0, hia, hsx⟩ := kd1 HN.out hT
      have okx := hok.2
      have hcx := fun W' (hW' : AfterW ns s 8 f js w B pb w.heap.size (w.heap.size + 1) ns.length c c2 (some ⟨b, off, none⟩) A2 sv W') => hW'.child (T' := afterT s x) (qi := 0) (q := 0) rfl hq0 (fun W'' hW'' => IH.out x ia pb B ns.length c (some ⟨b, off, none⟩) sv W'' (by simp only [Tr.size] at hn; omega) hsx okx hW''.cp0 hW''.cp1 hW''.nodes hW''.ints hW''.bB)
      have HC0 := Lib.hid hcx
      have okx' := afterT_ok (s := s) okx
      have hokT := hok
      clear hcx hsx hia
      go_wp2_with fail
      go_region_held3 (fun w' => w'.cell? ⟨w.heap.size, 0, none⟩ = some (.pointer (some ⟨pb, 0, none⟩)))
        (first | go_keep | exact cb1 | exact cb2 | exact cb3)
        (first
         | (go_at_call 55; refine (HC0.out W.drew HAd.out).mono ?_; rintro e w1 ⟨L1, rfl, ht1, hL1, hb1⟩; have HA1 := Lib.hid (HAd.out.later hb1); have cb1 := HA1.out.cbx)
         | (go_at_call 60; refine (HORIG.out w1 HA1.out).mono ?_; rintro e w2 ⟨L2, rfl, ht2, hL2, hb2⟩; have HA2 := Lib.hid (HA1.out.later hb2); have cb2 := HA2.out.cbx; have ok1 := okx'; rw [← ht1] at ok1; have ok2 := hokT; rw [← ht2] at ok2)
         | (go_at_call 58; refine (and_ret facts L1 L2 w2.heap.size w2 (hL1.up hb2) hL2 (Nat.le_refl _) ok1 ok2).mono ?_; rintro e w3 ⟨L3, rfl, ht3, hL3, hb3⟩; have HA3 := Lib.hid (HA2.out.later hb3); have cb3 := HA3.out.cbx))
      go_wp2_with fail
      go_ret
      exact ⟨L3, rfl, by rw [ht3, ht2, ht1, aft8], hL3, HA3.out.below⟩
    · obtain ⟨ia, hq0, hia, hsx⟩ := kd1 HN.out hT
      have okx := hok.2
      have hcx := fun W' (hW' : AfterW ns s 9 f js w B pb w.heap.size (w.heap.size + 1) ns.length c c2 (some ⟨b, off, none⟩) A2 sv W') => hW'.child (T' := afterT s x) (qi := 0) (q := 0) rfl hq0 (fun W'' hW'' => IH.out x ia pb B ns.length c (some ⟨b, off, none⟩) sv W'' (by simp only [Tr.size] at hn; omega) hsx okx hW''.cp0 hW''.cp1 hW''.nodes hW''.ints hW''.bB)
      have HC0 := Lib.hid hcx
      have okx' := afterT_ok (s := s) okx
      have hokT := hok
      clear hcx hsx hia
      go_wp2_with fail
      go_region_held3 (fun w' => w'.cell? ⟨w.heap.size, 0, none⟩ = some (.pointer (some ⟨pb, 0, none⟩)))
        (first | go_keep | exact cb1 | exact cb2 | exact cb3)
        (first
         | (go_at_call 55; refine (HC0.out W.drew HAd.out).mono ?_; rintro e w1 ⟨L1, rfl, ht1, hL1, hb1⟩; have HA1 := Lib.hid (HAd.out.later hb1); have cb1 := HA1.out.cbx)
         | (go_at_call 60; refine (HORIG.out w1 HA1.out).mono ?_; rintro e w2 ⟨L2, rfl, ht2, hL2, hb2⟩; have HA2 := Lib.hid (HA1.out.later hb2); have cb2 := HA2.out.cbx; have ok1 := okx'; rw [← ht1] at ok1; have ok2 := hokT; rw [← ht2] at ok2)
         | (go_at_call 59; refine (or_ret facts L1 L2 w2.heap.size w2 (hL1.up hb2) hL2 (Nat.le_refl _) ok1 ok2).mono ?_; rintro e w3 ⟨L3, rfl, ht3, hL3, hb3⟩; have HA3 := Lib.hid (HA2.out.later hb3); have cb3 := HA3.out.cbx))
      go_wp2_with fail
      go_ret
      exact ⟨L3, rfl, by rw [ht3, ht2, ht1, aft9], hL3, HA3.out.below⟩
end Go.Proofs.Ytdfbclkafocnpaa
