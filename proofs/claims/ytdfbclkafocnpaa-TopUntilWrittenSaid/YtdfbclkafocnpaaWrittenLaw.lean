/- TopUntilWritten returns true for every formula, number of facts, list of states and every other argument, and changes nothing that was there: its given statement holds. Conditions: none but the given statement's own. -/
import Derived.Test.YtdfbclkafocnpaaFin
import Derived.Test.YtdfbclkafocnpaaWritten
namespace Go.Proofs.Ytdfbclkafocnpaa
open Go.ChangeShapes Go.WideShapes Go.ChangeAt Go.RowKit

set_option maxHeartbeats 2000000 in
theorem written_law (facts which : Int) (ns : List Nd) (ss : States) (u vs : Value) (w : World) (hN : NodesAt w w.heap.size u ns) (hS : StatesAt w w.heap.size vs ss) :
    Calls Try.prog 12 #[.agg #[u], .int .i64 facts, vs, .int .i64 which] w (fun e w' => e = .returned (.bool true) ∧ Below w.heap.size w w') := by
  obtain ⟨A, c, rfl, _, _, _⟩ := hN.form
  obtain ⟨As, cs, rfl, _, _, _⟩ := hS.form
  have hb0 : Below w.heap.size w (w.alloc (.cells #[.slice A ns.length c] 24)).drew := ((Below.refl _ w).alloc (Nat.le_refl _) _).drew
  have b1 : Blk (w.alloc (.cells #[.slice A ns.length c] 24)).drew w.heap.size 24 #[.slice A ns.length c] := (Blk.new w 24 _).drew
  have c1 : (w.alloc (.cells #[.slice A ns.length c] 24)).drew.cell? ⟨w.heap.size, 0, none⟩ = some (.slice A ns.length c) := b1.cell 0
  have HN := Lib.hid hN
  have HS := Lib.hid hS
  have HB0 := Lib.hid hb0
  clear hN hS hb0 b1
  go_enter Try.func12, Try.ntmps12
  go_wp2_with fail
  go_region_held3 (fun w' => w'.cell? ⟨w.heap.size, 0, none⟩ = some (.slice A ns.length c)) (first | go_keep | exact cell_later hb1 c1 | exact cell_later hb2 (cell_later hb1 c1)) (first | (go_at_call 16; refine (wPut_ret which 35 _ _).mono ?_; rintro e w1 ⟨tb, wb, rfl, htb, hwb, hb1⟩; have HB1 := Lib.hid (HB0.out.trans (hb1.mono HB0.out.size))) | (go_at_call 15; refine (law_any facts ns ss _ _ w w1 44 _ HN.out HS.out HB1.out (change_ok htb hwb fun W hW => written_by facts W.heap.size W)).mono ?_; rintro e w2 ⟨rfl, hb2⟩))
  all_goals
    go_wp2_with fail
    go_ret
    exact ⟨rfl, HB1.out.trans (hb2.mono HB1.out.size)⟩

set_option maxRecDepth 100000 in
theorem written_lifted (os : Os) (started : os.Started) (H : Type) (enc : TypeId × Value → H) :
    ReturnsInHanded {} Try.checked os 12 .any (Rows.topUntilWrittenSpec.pre6 enc Try.prog Try.f12 Rows.topUntilWrittenRow.domain false) (Rows.topUntilWrittenSpec.post enc Try.prog Try.f12 false true false false) := by
  refine returnsInHanded_of_change (C := Try.checked) Try.own started (by kernel_rfl) Try.func12
    (ChangeSpec.witness6 (enc := enc) (C := Try.checked) false ⟨#[], #[.agg #[.slice none 0 0], .int .i64 0, .slice none 0 0, .int .i64 0], []⟩ 8 (by kernel_rfl) (by kernel_rfl) (by kernel_rfl) (by kernel_rfl)) ?_
  intro W base args ds gs before hval0 hW hcnd _
  have hval : ∀ (j : Nat) t v, Try.f12.params[j]? = some t → args[j]? = some v → Value.okWide Try.prog W .any base t v := hval0
  have hW' := hW
  obtain ⟨p, q, hA0, hV, rfl, hfz, hnd⟩ := hW
  have hA : DataW.TrodAll enc Try.prog W 0 (fun _ => true) true Try.f12.params.toList args.toList ds p := hA0
  have hA1 := hA
  rw [Try.params12] at hA hval
  obtain ⟨v0, vs0, d0, ds0, p0, q0, hargs, rfl, rfl, h0, r0⟩ := trodAll_cons hA
  obtain ⟨v1, vs1, d1, ds1, p1, q1, rfl, rfl, rfl, h1, r1⟩ := trodAll_cons r0
  obtain ⟨v2, vs2, d2, ds2, p2, q2, rfl, rfl, rfl, h2, r2⟩ := trodAll_cons r1
  obtain ⟨v3, vs3, d3, ds3, p3, q3, rfl, rfl, rfl, h3, r3⟩ := trodAll_cons r2
  obtain ⟨rfl, rfl, rfl⟩ := trodAll_nil r3
  obtain rfl : args = #[v0, v1, v2, v3] := by cases args; simp_all
  obtain ⟨rfl, rfl⟩ := trodVars_none hV
  obtain ⟨u, ns, rfl, hN⟩ := open_formula (hval 0 24 v0 rfl rfl) h0
  obtain ⟨facts, rfl, rfl, rfl, w1⟩ := open_int Try.underlying3 (hval 1 3 v1 rfl rfl) h1
  obtain ⟨ss, hS⟩ := open_states (hval 2 25 v2 rfl rfl) h2
  obtain ⟨which, rfl, rfl, rfl, w3⟩ := open_int Try.underlying3 (hval 3 3 v3 rfl rfl) h3
  clear hA0 hval0
  simp only [List.append_nil] at hW'
  refine (written_law facts which ns ss u v2 W hN hS).mono fun e W' ⟨he, hb⟩ => ?_
  subst he
  exact ⟨_, rfl, law_post hW' (by kernel_rfl) (by simpa using hA1) hb (by kernel_rfl) rfl rfl rfl rfl⟩

theorem written_holds : Rows.TopUntilWrittenSaid :=
  OpenClaim.holds_of_wide 12 Try.f12 rfl rfl rfl rfl rfl rfl rfl ⟨rfl, rfl, rfl, rfl, rfl⟩ rfl rfl rfl rfl rfl (by kernel_rfl) Try.func12 (by kernel_rfl)
    (of_decide_eq_true (by kernel_rfl)) (by unfold Func.isWrapper; first | (rw [if_pos (by decide +kernel)]; kernel_rfl) | (rw [if_neg (by decide +kernel)]; exact ⟨rfl, rfl⟩))
    (fun os started H enc _ => written_lifted os started H enc)
end Go.Proofs.Ytdfbclkafocnpaa
