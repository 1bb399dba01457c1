/- TopTracesAbsorbed returns true for every formula, number of facts, list of states and every other argument, and changes nothing that was there: its given statement holds. Conditions: none but the given statement's own. -/
import Derived.Test.YtdfbclkafocnpaaAbsCh
namespace Go.Proofs.Ytdfbclkafocnpaa
open Go.ChangeShapes Go.WideShapes Go.ChangeAt Go.RowKit

set_option maxHeartbeats 2000000 in
theorem absorbed_law (facts which withN how : Int) (ns : List Nd) (ss : States) (u vs : Value) (w : World) (hN : NodesAt w w.heap.size u ns) (hS : StatesAt w w.heap.size vs ss) :
    Calls Try.prog 6 #[.agg #[u], .int .i64 facts, vs, .int .i64 which, .int .i64 withN, .int .i64 how] w (fun e w' => e = .returned (.bool true) ∧ Below w.heap.size w w') := by
  obtain ⟨A, c, rfl, _, _, _⟩ := hN.form
  obtain ⟨As, cs, rfl, _, _, _⟩ := hS.form
  have s1 : (w.alloc (.cells #[.slice A ns.length c] 24)).heap.size = w.heap.size + 1 := World.size_alloc _ _
  have s2 : ((w.alloc (.cells #[.slice A ns.length c] 24)).alloc (.cells #[.int .i64 which] 3)).heap.size = w.heap.size + 1 + 1 := by rw [World.size_alloc, s1]
  have s3 : (((w.alloc (.cells #[.slice A ns.length c] 24)).alloc (.cells #[.int .i64 which] 3)).alloc (.cells #[.int .i64 withN] 3)).heap.size = w.heap.size + 1 + 1 + 1 := by rw [World.size_alloc, s2]
  have b1 : Blk (w.alloc (.cells #[.slice A ns.length c] 24)) w.heap.size 24 #[.slice A ns.length c] := Blk.new _ _ _
  have b2 := Blk.new (w.alloc (.cells #[.slice A ns.length c] 24)) 3 #[.int .i64 which]
  have b3 := Blk.new ((w.alloc (.cells #[.slice A ns.length c] 24)).alloc (.cells #[.int .i64 which] 3)) 3 #[.int .i64 withN]
  have b4 := Blk.new (((w.alloc (.cells #[.slice A ns.length c] 24)).alloc (.cells #[.int .i64 which] 3)).alloc (.cells #[.int .i64 withN] 3)) 3 #[.int .i64 how]
  rw [s1] at b2
  rw [s2] at b3
  rw [s3] at b4
  have hb0 : Below w.heap.size w ((((w.alloc (.cells #[.slice A ns.length c] 24)).alloc (.cells #[.int .i64 which] 3)).alloc (.cells #[.int .i64 withN] 3)).alloc (.cells #[.int .i64 how] 3)) := bel_aa.trans (bel_aa.mono bel_aa.size)
  have c1 : ((((w.alloc (.cells #[.slice A ns.length c] 24)).alloc (.cells #[.int .i64 which] 3)).alloc (.cells #[.int .i64 withN] 3)).alloc (.cells #[.int .i64 how] 3)).cell? ⟨w.heap.size, 0, none⟩ = some (.slice A ns.length c) := (((b1.alloc _).alloc _).alloc _).cell 0
  have HN := Lib.hid hN
  have HS := Lib.hid hS
  have HB0 := Lib.hid hb0
  have HC := Lib.hid (absorbed_change facts which withN how _ _ _ ((((w.alloc (.cells #[.slice A ns.length c] 24)).alloc (.cells #[.int .i64 which] 3)).alloc (.cells #[.int .i64 withN] 3)).alloc (.cells #[.int .i64 how] 3)) (b3.alloc _) ((b2.alloc _).alloc _) b4)
  clear hN hS hb0 b1 b2 b3 b4 s1 s2 s3
  go_enter Try.func6, Try.ntmps6
  go_wp2_with (go_at_call 15; refine (law_any facts ns ss _ _ w ((((w.alloc (.cells #[.slice A ns.length c] 24)).alloc (.cells #[.int .i64 which] 3)).alloc (.cells #[.int .i64 withN] 3)).alloc (.cells #[.int .i64 how] 3)) 25 _ HN.out HS.out HB0.out HC.out).mono ?_; rintro e w2 ⟨rfl, hb2⟩)
  go_ret
  exact ⟨rfl, HB0.out.trans (hb2.mono HB0.out.size)⟩

set_option maxRecDepth 100000 in
theorem absorbed_lifted (os : Os) (started : os.Started) (H : Type) (enc : TypeId × Value → H) :
    ReturnsInHanded {} Try.checked os 6 .any (Rows.topTracesAbsorbedSpec.pre6 enc Try.prog Try.f6 Rows.topTracesAbsorbedRow.domain false) (Rows.topTracesAbsorbedSpec.post enc Try.prog Try.f6 false true false false) := by
  refine returnsInHanded_of_change (C := Try.checked) Try.own started (by kernel_rfl) Try.func6
    (ChangeSpec.witness6 (enc := enc) (C := Try.checked) false ⟨#[], #[.agg #[.slice none 0 0], .int .i64 0, .slice none 0 0, .int .i64 0, .int .i64 0, .int .i64 0], []⟩ 8 (by kernel_rfl) (by kernel_rfl) (by kernel_rfl) (by kernel_rfl)) ?_
  intro W base args ds gs before hval0 hW hcnd _
  have hval : ∀ (j : Nat) t v, Try.f6.params[j]? = some t → args[j]? = some v → Value.okWide Try.prog W .any base t v := hval0
  have hW' := hW
  obtain ⟨p, q, hA0, hV, rfl, hfz, hnd⟩ := hW
  have hA : DataW.TrodAll enc Try.prog W 0 (fun _ => true) true Try.f6.params.toList args.toList ds p := hA0
  have hA1 := hA
  rw [Try.params6] at hA hval
  obtain ⟨v0, vs0, d0, ds0, p0, q0, hargs, rfl, rfl, h0, r0⟩ := trodAll_cons hA
  obtain ⟨v1, vs1, d1, ds1, p1, q1, rfl, rfl, rfl, h1, r1⟩ := trodAll_cons r0
  obtain ⟨v2, vs2, d2, ds2, p2, q2, rfl, rfl, rfl, h2, r2⟩ := trodAll_cons r1
  obtain ⟨v3, vs3, d3, ds3, p3, q3, rfl, rfl, rfl, h3, r3⟩ := trodAll_cons r2
  obtain ⟨v4, vs4, d4, ds4, p4, q4, rfl, rfl, rfl, h4, r4⟩ := trodAll_cons r3
  obtain ⟨v5, vs5, d5, ds5, p5, q5, rfl, rfl, rfl, h5, r5⟩ := trodAll_cons r4
  obtain ⟨rfl, rfl, rfl⟩ := trodAll_nil r5
  obtain rfl : args = #[v0, v1, v2, v3, v4, v5] := by cases args; simp_all
  obtain ⟨rfl, rfl⟩ := trodVars_none hV
  obtain ⟨u, ns, rfl, hN⟩ := open_formula (hval 0 24 v0 rfl rfl) h0
  obtain ⟨facts, rfl, rfl, rfl, w1⟩ := open_int Try.underlying3 (hval 1 3 v1 rfl rfl) h1
  obtain ⟨ss, hS⟩ := open_states (hval 2 25 v2 rfl rfl) h2
  obtain ⟨which, rfl, rfl, rfl, w3⟩ := open_int Try.underlying3 (hval 3 3 v3 rfl rfl) h3
  obtain ⟨withN, rfl, rfl, rfl, w4⟩ := open_int Try.underlying3 (hval 4 3 v4 rfl rfl) h4
  obtain ⟨how, rfl, rfl, rfl, w5⟩ := open_int Try.underlying3 (hval 5 3 v5 rfl rfl) h5
  clear hA0 hval0
  simp only [List.append_nil] at hW'
  refine (absorbed_law facts which withN how ns ss u v2 W hN hS).mono fun e W' ⟨he, hb⟩ => ?_
  subst he
  exact ⟨_, rfl, law_post hW' (by kernel_rfl) (by simpa using hA1) hb (by kernel_rfl) rfl rfl rfl rfl⟩

theorem absorbed_holds : Rows.TopTracesAbsorbedSaid :=
  OpenClaim.holds_of_wide 6 Try.f6 rfl rfl rfl rfl rfl rfl rfl ⟨rfl, rfl, rfl, rfl, rfl⟩ rfl rfl rfl rfl rfl (by kernel_rfl) Try.func6 (by kernel_rfl)
    (of_decide_eq_true (by kernel_rfl)) (by unfold Func.isWrapper; first | (rw [if_pos (by decide +kernel)]; kernel_rfl) | (rw [if_neg (by decide +kernel)]; exact ⟨rfl, rfl⟩))
    (fun os started H enc _ => absorbed_lifted os started H enc)
end Go.Proofs.Ytdfbclkafocnpaa
