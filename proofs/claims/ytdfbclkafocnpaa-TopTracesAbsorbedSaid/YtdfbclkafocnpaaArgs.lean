/- The arguments of the laws, opened to nodes and states; and a row's last step. -/
import Derived.Test.YtdfbclkafocnpaaForm
import Derived.Test.YtdfbclkafocnpaaHead
import Derived.ProofKit
import Derived.Carry
import Derived.Deep.Slices
namespace Go.Proofs.Ytdfbclkafocnpaa
open Go.ChangeShapes Go.WideShapes Go.ChangeAt Go.RowKit Go.Deep

section
variable {H : Type} {enc : TypeId × Value → H} {P : Program} {W W' : World}
theorem trodAll_below (hl : laidOutB P = true) : ∀ (ts : List TypeId) (vs : List Value) (ds : List (DataW H)) (ps : List MemPlace), (ts.all fun t => P.readableRec t && decide (t < P.types.size)) = true →
    DataW.TrodAll enc P W 0 (fun _ => true) true ts vs ds ps → Below W.heap.size W W' → (∀ x ∈ ps, x.block < W.heap.size) → DataW.TrodAll enc P W' 0 (fun b => decide (b < W.heap.size)) true ts vs ds ps
  | [], [], [], _, _, h, _, _ => h
  | t :: ts, v :: vs, d :: ds, _, hr, ⟨p, q, h1, h2, e⟩, hb, hs => by
    simp only [List.all_cons, Bool.and_eq_true, decide_eq_true_eq] at hr
    refine ⟨p, q, Below.trod hl hr.1.1 hr.1.2 h1 hb (fun x hx => hs x (by rw [e]; exact List.mem_append_left _ hx)), trodAll_below hl ts vs ds q hr.2 h2 hb (fun x hx => hs x (by rw [e]; exact List.mem_append_right _ hx)), e⟩
end

theorem Try.cells3 : Try.prog.cellsOf 3 = 1 := by kernel_rfl
theorem Try.cells48 : Try.prog.cellsOf 48 = 1 := by kernel_rfl
theorem Try.cells50 : Try.prog.cellsOf 50 = 3 := by kernel_rfl

section
variable {H : Type} {enc : TypeId × Value → H} {W : World} {sp : Nat → Bool}

theorem spot_none {w : World} {a : Addr} {v : Value} (h : w.cell? a = some v) : a = ⟨a.block, a.off, none⟩ := by
  obtain ⟨b, o, s⟩ := a
  cases s with
  | none => rfl
  | some k => unfold World.cell? at h; split at h <;> simp at h
theorem lt_of_cell {w : World} {a : Addr} {v : Value} (h : w.cell? a = some v) : a.block < w.heap.size := World.block_lt_of_cell? w a h
theorem add_none (b o i : Nat) : (⟨b, o, none⟩ : Addr).add i = ⟨b, o + i, none⟩ := by unfold Addr.add; split <;> simp_all

/-- A slice of ints that reads. -/
theorem ints_at {n : Nat} {v : Value} {x : DataW H × List MemPlace} (h : DataW.trod enc Try.prog W 0 sp true n 48 [v] = some x) : ∃ l, IntsAt W W.heap.size v l := by
  rcases open_ints Try.underlying48 Try.underlying3 Try.cells3 h with ⟨hc, _⟩ | ⟨a, len, cap, zs, hc, _, hl, hm, hz, _, hat, _⟩
  · injection hc with hc _
    subst hc
    exact ⟨[], none, 0, rfl, Nat.le_refl _, Nat.zero_le _, fun j u hj => by simp at hj⟩
  · injection hc with hc _
    subst hc
    have hlz : len ≤ zs.length := by rw [hz]; split <;> omega
    have hlen : (zs.take len).length = len := by rw [List.length_take]; omega
    refine ⟨zs.take len, some a, cap, by rw [hlen], by rw [hlen]; exact hl, hm, fun j u hj => ?_⟩
    rw [List.getElem?_map] at hj
    obtain ⟨y, hy, rfl⟩ := Option.map_eq_some_iff.1 hj
    have hjl : j < len := by have := (List.getElem?_eq_some_iff.1 hy).1; omega
    have h0 := hat 0 (by omega)
    have hj' := hat j (by omega)
    have hs := spot_none h0
    have e0 : a.add 0 = a := by simp [Addr.add]
    rw [e0] at h0 hs
    rw [hs] at hj'
    rw [add_none] at hj'
    refine ⟨a.block, a.off, by rw [← hs], lt_of_cell h0, hj'.trans ?_⟩
    rw [List.getElem?_take_of_lt hjl] at hy
    rw [List.getD_eq_getElem?_getD, hy]
    rfl

/-- A slice of states that reads. -/
theorem states_at {n : Nat} {v : Value} {x : DataW H × List MemPlace} (h : DataW.trod enc Try.prog W 0 sp true n 25 [v] = some x) : ∃ ss, StatesAt W W.heap.size v ss := by
  rcases open_slice Try.underlying25 h with ⟨hc, _⟩ | ⟨a, len, cap, m, k, D, Pl, hc, _, hl, hm, hmm, _, hat⟩
  · injection hc with hc _
    subst hc
    exact ⟨[], none, 0, [], rfl, Nat.le_refl _, Nat.zero_le _, rfl, fun j u hj => by simp at hj, fun i s u hs => by simp at hs⟩
  · injection hc with hc _
    subst hc
    have hlm : len ≤ m := by rw [hmm]; split <;> omega
    have hel : ∀ i : Nat, ∃ (u : Value) (l : List Int), i < len → W.cell? (a.add i) = some u ∧ IntsAt W W.heap.size u l := by
      intro i
      by_cases hi : i < len
      · obtain ⟨cs', h1, h2⟩ := hat i (by omega)
        rw [Try.cells48, Nat.mul_one] at h1
        obtain ⟨_, hcl, hce⟩ := World.cells?_some h1
        match cs', hcl with
        | [u], _ =>
          obtain ⟨l, hl'⟩ := ints_at h2
          have := hce 0 (by decide)
          rw [add_add, Nat.add_zero] at this
          exact ⟨u, l, fun _ => ⟨this, hl'⟩⟩
      · exact ⟨.nilFunc, [], fun h => absurd h hi⟩
    obtain ⟨U, hU⟩ := Classical.skolem.1 hel
    obtain ⟨N, hN⟩ := Classical.skolem.1 hU
    have e0 : a.add 0 = a := by simp [Addr.add]
    refine ⟨(List.range len).map N, some a, cap, (List.range len).map U, by simp, by simpa using hl, hm, by simp, fun j u hj => ?_, fun i s u hs hu => ?_⟩
    · rw [List.getElem?_map] at hj
      obtain ⟨y, hy, rfl⟩ := Option.map_eq_some_iff.1 hj
      obtain ⟨hjl, rfl⟩ := List.getElem?_eq_some_iff.1 hy
      rw [List.length_range] at hjl
      have hsp := (hN j hjl).1
      have h0 := (hN 0 (by omega)).1
      rw [e0] at h0
      have hs := spot_none h0
      rw [hs] at hsp
      rw [add_none] at hsp
      simp only [List.getElem_range]
      exact ⟨a.block, a.off, by rw [← hs], lt_of_cell h0, hsp⟩
    · rw [List.getElem?_map] at hs hu
      obtain ⟨y, hy, rfl⟩ := Option.map_eq_some_iff.1 hs
      obtain ⟨y', hy', rfl⟩ := Option.map_eq_some_iff.1 hu
      rw [hy] at hy'
      injection hy' with hy'
      subst hy'
      obtain ⟨hjl, rfl⟩ := List.getElem?_eq_some_iff.1 hy
      rw [List.length_range] at hjl
      simp only [List.getElem_range]
      exact (hN i hjl).2

/-- A slice of nodes that reads. -/
theorem nodes_at {n : Nat} {v : Value} {x : DataW H × List MemPlace} (h : DataW.trod enc Try.prog W 0 sp true n 22 [v] = some x) : ∃ ns, NodesAt W W.heap.size v ns := by
  rcases open_slice Try.underlying22 h with ⟨hc, _⟩ | ⟨a, len, cap, m, k, D, Pl, hc, _, hl, hm, hmm, _, hat⟩
  · injection hc with hc _
    subst hc
    exact ⟨[], none, 0, [], rfl, Nat.le_refl _, Nat.zero_le _, rfl, fun j u hj => by simp [flatN] at hj, fun i s u hs => by simp at hs⟩
  · injection hc with hc _
    subst hc
    have hlm : len ≤ m := by rw [hmm]; split <;> omega
    have hel : ∀ i : Nat, ∃ (u : Value) (nd : Nd), i < len → W.cell? (a.add (i * 3)) = some (.int .i64 nd.kind) ∧ W.cell? (a.add (i * 3 + 1)) = some u ∧ W.cell? (a.add (i * 3 + 2)) = some (.int .i64 nd.fact) ∧ IntsAt W W.heap.size u nd.kids := by
      intro i
      by_cases hi : i < len
      · obtain ⟨cs', h1, h2⟩ := hat i (by omega)
        rw [Try.cells50] at h1
        obtain ⟨_, hcl, hce⟩ := World.cells?_some h1
        obtain ⟨xs, n', _, _, _, hxl, hf⟩ := DataW.trod_struct Try.underlying50 h2
        match cs', hcl with
        | [c0, c1, c2], _ =>
          have g0 : DataW.trod enc Try.prog W 0 sp true n' 3 ((([c0, c1, c2] : List Value).drop 0).take (Try.prog.cellsOf 3)) = xs[0]? := hf 0 _ rfl
          have g1 : DataW.trod enc Try.prog W 0 sp true n' 48 ((([c0, c1, c2] : List Value).drop 1).take (Try.prog.cellsOf 48)) = xs[1]? := hf 1 _ rfl
          have g2 : DataW.trod enc Try.prog W 0 sp true n' 3 ((([c0, c1, c2] : List Value).drop 2).take (Try.prog.cellsOf 3)) = xs[2]? := hf 2 _ rfl
          rw [Try.cells3] at g0 g2
          rw [Try.cells48] at g1
          have g0 : DataW.trod enc Try.prog W 0 sp true n' 3 [c0] = xs[0]? := g0
          have g1 : DataW.trod enc Try.prog W 0 sp true n' 48 [c1] = xs[1]? := g1
          have g2 : DataW.trod enc Try.prog W 0 sp true n' 3 [c2] = xs[2]? := g2
          match xs, hxl with
          | [x0, x1, x2], _ =>
            obtain ⟨n0, e0, _⟩ := DataW.trod_int Try.underlying3 (g0.trans rfl)
            obtain ⟨n2, e2, _⟩ := DataW.trod_int Try.underlying3 (g2.trans rfl)
            obtain ⟨l, hl'⟩ := ints_at (g1.trans rfl)
            injection e0 with e0 _
            injection e2 with e2 _
            subst e0; subst e2
            have q0 := hce 0 (by decide)
            have q1 := hce 1 (by decide)
            have q2 := hce 2 (by decide)
            rw [add_add] at q0 q1 q2
            exact ⟨c1, ⟨n0, l, n2⟩, fun _ => ⟨q0, q1, q2, hl'⟩⟩
      · exact ⟨.nilFunc, ⟨0, [], 0⟩, fun h => absurd h hi⟩
    obtain ⟨U, hU⟩ := Classical.skolem.1 hel
    obtain ⟨N, hN⟩ := Classical.skolem.1 hU
    have e0 : a.add 0 = a := by simp [Addr.add]
    refine ⟨(List.range len).map N, some a, cap, (List.range len).map U, by simp, by simpa using hl, hm, by simp, fun j u hj => ?_, fun i s u hs hu => ?_⟩
    · rw [List.zip_map'] at hj
      have hjl : j < len * 3 := by
        have := (List.getElem?_eq_some_iff.1 hj).1
        rw [flatN_length, List.length_map, List.length_range] at this
        exact this
      have hd : j / 3 < len := by omega
      obtain ⟨s0, s1, s2, _⟩ := hN (j / 3) hd
      obtain ⟨h0, _⟩ := hN 0 (by omega)
      rw [Nat.zero_mul, e0] at h0
      have hs := spot_none h0
      obtain ⟨f0, f1, f2⟩ := flatN_at ((List.range len).map fun i => (N i, U i)) (j / 3) (N (j / 3)) (U (j / 3)) (by rw [List.getElem?_map, List.getElem?_range hd]; rfl)
      refine ⟨a.block, a.off, by rw [← hs], lt_of_cell h0, ?_⟩
      rw [hs] at s0 s1 s2
      rw [add_none] at s0 s1 s2
      have h3 : j % 3 = 0 ∨ j % 3 = 1 ∨ j % 3 = 2 := by omega
      rcases h3 with h3 | h3 | h3
      · have e : j / 3 * 3 = j := by omega
        rw [e] at s0 f0
        rw [← hj, f0]
        exact s0
      · have e : j / 3 * 3 + 1 = j := by omega
        rw [e] at s1 f1
        rw [← hj, f1]
        exact s1
      · have e : j / 3 * 3 + 2 = j := by omega
        rw [e] at s2 f2
        rw [← hj, f2]
        exact s2
    · rw [List.getElem?_map] at hs hu
      obtain ⟨y, hy, rfl⟩ := Option.map_eq_some_iff.1 hs
      obtain ⟨y', hy', rfl⟩ := Option.map_eq_some_iff.1 hu
      rw [hy] at hy'
      injection hy' with hy'
      subst hy'
      obtain ⟨hjl, rfl⟩ := List.getElem?_eq_some_iff.1 hy
      rw [List.length_range] at hjl
      simp only [List.getElem_range]
      exact (hN i hjl).2.2.2

/-- A formula that came in. -/
theorem open_formula {v : Value} {d : DataW H} {p : List MemPlace} {b0 : Nat} {r : Reach} (hv : Value.okWide Try.prog W r b0 24 v) (h : DataW.Trod enc Try.prog W 0 sp true 24 v d p) : ∃ u ns, v = .agg #[u] ∧ NodesAt W W.heap.size u ns := by
  obtain ⟨cs, rfl, hsz⟩ := okWide_struct Try.underlying24 hv
  obtain ⟨l⟩ := cs
  have hC : Try.prog.cellsOf 24 = 1 := by kernel_rfl
  match l, hsz.trans hC with
  | [u], _ =>
    obtain ⟨fuel, hf⟩ := h
    obtain ⟨xs, n', _, _, _, hxl, hg⟩ := DataW.trod_struct Try.underlying24 hf
    match xs, hxl with
    | [x0], _ =>
      have g0 : DataW.trod enc Try.prog W 0 sp true n' 22 (((Value.agg #[u]).cells.toList.drop 0).take (Try.prog.cellsOf 22)) = some x0 := hg 0 _ rfl
      have h22 : Try.prog.cellsOf 22 = 1 := by kernel_rfl
      rw [h22] at g0
      have g0 : DataW.trod enc Try.prog W 0 sp true n' 22 [u] = some x0 := g0
      obtain ⟨ns, hns⟩ := nodes_at (g0.trans rfl)
      exact ⟨u, ns, rfl, hns⟩
/-- A list of states that came in. -/
theorem open_states {v : Value} {d : DataW H} {p : List MemPlace} {b0 : Nat} {r : Reach} (hv : Value.okWide Try.prog W r b0 25 v) (h : DataW.Trod enc Try.prog W 0 sp true 25 v d p) : ∃ ss, StatesAt W W.heap.size v ss := by
  obtain ⟨a, len, cap, rfl⟩ := okWide_slice Try.underlying25 hv
  obtain ⟨fuel, hf⟩ := h
  exact states_at hf
end
end Go.Proofs.Ytdfbclkafocnpaa
