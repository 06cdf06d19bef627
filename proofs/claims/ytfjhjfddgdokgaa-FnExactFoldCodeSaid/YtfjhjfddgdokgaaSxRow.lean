/- From the abstract walk of a law to its row: what the law's call is, and how the arguments are opened. -/
import Derived.Test.YtfjhjfddgdokgaaRows
import Derived.Test.YtfjhjfddgdokgaaSxQuad
import Derived.Test.YtfjhjfddgdokgaaSxList
import Derived.WalkKit
import Derived.ProofKit
import Derived.OpenShut
import Derived.ShutString
import Derived.ChangeOld
import Derived.Below
import Derived.SizedLaws
import Derived.Lib.SmallJoins
import Derived.Deep.Slices
import Derived.Deep.Fields
import Derived.ChangeSame
namespace Go.Proofs.Ytfjhjfddgdokgaa
set_option linter.all false
open Go Go.RowKit Go.Joins Go.ChangeShapes Go.WideShapes Go.ChangeAt Go.Deep
set_option linter.unusedVariables false
set_option maxRecDepth 100000

theorem own : ownKnob Try.prog.godebug = none := by kernel_rfl
theorem laidOut : laidOutB Try.prog = true := by kernel_rfl
theorem calls_true {P : Program} {w0 : World} {H : AHeap} {f : Nat} {args : List Value} (h : ACalls P w0 f args H fun v _ => v = .bool true) (hs : Sat w0 H w0) :
    Calls P f args.toArray w0 fun e w' => e = .returned (.bool true) ∧ Below w0.heap.size w0 w' :=
  (h.2 w0 hs).mono fun e w' ⟨v, H', he, hs', hv⟩ => ⟨by rw [he, hv], hs'.below⟩
theorem sat_none (w : World) : Sat w (fun _ => none) w := ⟨Below.refl _ _, fun b k hk => by cases hk⟩
/-- The heap that is there: for reading alone. -/
def heapOf (w : World) : AHeap := fun b => match w.heap[b]? with
  | some (.cells c t _) => some ⟨c.toList, false, t, c.size⟩
  | _ => none
theorem sat_heap (w : World) : Sat w (heapOf w) w := ⟨Below.refl _ _, fun b k hk => by
  unfold heapOf at hk
  split at hk
  · rename_i c t fz hw
    obtain rfl := Option.some.inj hk
    exact ⟨c, fz, hw, rfl, fun j v hv => by simpa using hv, fun h => by cases h⟩
  · cases hk⟩
theorem heap_cell {w : World} {a : Addr} {v : Value} (h : w.cell? a = some v) : (heapOf w).cell (some a) = some v := by
  simp only [World.cell?] at h
  simp only [AHeap.cell, heapOf]
  split at h
  · rename_i c t fz hw
    rw [hw]
    split at h
    · cases h
    · rename_i hs
      rw [if_neg hs]
      simpa using h
  · cases h

section
variable {H : Type} {enc : TypeId × Value → H} {P : Program} {w : World} {base : Nat} {spare : Nat → Bool} {held : Bool}
theorem open_slice_fields {t e : TypeId} {fs : Array Field} {fuel : Nat} {cs : List Value} {x : DataW H × List MemPlace} (ht : P.underlying t = some (.slice e)) (he : P.underlying e = some (.struct fs))
    (hone : oneCellFields P fs = true) (hC : P.cellsOf e = fs.size) (h : DataW.trod enc P w base spare held fuel t cs = some x) :
    (cs = [.slice none 0 0] ∧ x = (.nil, [])) ∨
    ∃ (a : Addr) (len cap m : Nat) (D : Nat → DataW H) (Pl : Nat → List MemPlace), cs = [.slice (some a) len cap] ∧ base ≤ a.block ∧ len ≤ cap ∧ cap ≤ maxLen ∧ m = (if spare a.block then cap else len) ∧
      x = (.slice ((List.range len).map D) ((List.range (m - len)).map fun j => D (len + j)), MemPlace.row a (m * fs.size) ++ (List.range m).flatMap Pl) ∧
      ∀ i, i < m → ∃ (ys : List (DataW H × List MemPlace)) (n : Nat), D i = .agg (ys.map (·.1)) ∧ Pl i = ys.flatMap (·.2) ∧ ys.length = fs.size ∧
        ∀ (j : Nat) (f : Field), fs[j]? = some f → ∃ (v : Value) (y : DataW H × List MemPlace), w.cell? (a.add (i * fs.size + j)) = some v ∧ ys[j]? = some y ∧ DataW.trod enc P w base spare held n f.type [v] = some y := by
  rcases open_slice ht h with h0 | ⟨a, len, cap, m, n, D, Pl, hcs, hb, hl, hm, hmm, hx, hi⟩
  · exact .inl h0
  · refine .inr ⟨a, len, cap, m, D, Pl, hcs, hb, hl, hm, hmm, by rw [hC] at hx; exact hx, fun i him => ?_⟩
    obtain ⟨cs', hc, ht'⟩ := hi i him
    rw [hC] at hc
    obtain ⟨ys, n', hn', hy, hlen, hyl, hf⟩ := DataW.trod_struct he ht'
    obtain ⟨_, hcl, hat⟩ := World.cells?_some hc
    simp only [Prod.mk.injEq] at hy
    refine ⟨ys, n', hy.1, hy.2, hyl, fun j f hj => ?_⟩
    obtain ⟨ho, hk⟩ := hone_of hone j f hj
    have hjl : j < fs.size := (Array.getElem?_eq_some_iff.1 hj).1
    have hcell := hat j hjl
    have hv : cs'[j]? = some (cs'[j]'(by omega)) := List.getElem?_eq_getElem (by omega)
    have h1 := hf j f hj
    rw [ho, hk] at h1
    have hone' : (cs'.drop j).take 1 = [cs'[j]'(by omega)] := by
      rw [List.drop_eq_getElem_cons (by omega)]
      rfl
    rw [hone'] at h1
    have hys : ys[j]? = some (ys[j]'(by omega)) := List.getElem?_eq_getElem (by omega)
    refine ⟨_, _, ?_, hys, h1.trans hys⟩
    rw [← Go.Deep.add_add, hcell, hv]
theorem open_agg5 {r : Reach} {b0 : Nat} {t : TypeId} {f0 f1 f2 f3 f4 : Field} {v : Value} {d : DataW H} {p : List MemPlace} (hs : P.underlying t = some (.struct #[f0, f1, f2, f3, f4])) (hone : oneCellFields P #[f0, f1, f2, f3, f4] = true) (hC : P.cellsOf t = 5)
    (hv : Value.okWide P w r b0 t v) (h : DataW.Trod enc P w base spare held t v d p) :
    ∃ (v0 v1 v2 v3 v4 : Value) (y0 y1 y2 y3 y4 : DataW H × List MemPlace) (n : Nat), v = .agg #[v0, v1, v2, v3, v4] ∧ d = .agg [y0.1, y1.1, y2.1, y3.1, y4.1] ∧ p = y0.2 ++ (y1.2 ++ (y2.2 ++ (y3.2 ++ y4.2))) ∧
      DataW.trod enc P w base spare held n f0.type [v0] = some y0 ∧ DataW.trod enc P w base spare held n f1.type [v1] = some y1 ∧ DataW.trod enc P w base spare held n f2.type [v2] = some y2 ∧ DataW.trod enc P w base spare held n f3.type [v3] = some y3 ∧ DataW.trod enc P w base spare held n f4.type [v4] = some y4 := by
  obtain ⟨cs, rfl, hsz⟩ := okWide_struct hs hv
  obtain ⟨l⟩ := cs
  match l, hsz.trans hC with
  | [c0, c1, c2, c3, c4], _ =>
    obtain ⟨fuel, hf⟩ := h
    obtain ⟨xs, n, _, hx, _, hlen, hg⟩ := DataW.trod_struct hs hf
    obtain ⟨o0, k0⟩ := hone_of hone 0 f0 rfl
    obtain ⟨o1, k1⟩ := hone_of hone 1 f1 rfl
    obtain ⟨o2, k2⟩ := hone_of hone 2 f2 rfl
    obtain ⟨o3, k3⟩ := hone_of hone 3 f3 rfl
    obtain ⟨o4, k4⟩ := hone_of hone 4 f4 rfl
    match xs, hlen with
    | [y0, y1, y2, y3, y4], _ =>
      simp only [Prod.mk.injEq] at hx
      exact ⟨c0, c1, c2, c3, c4, y0, y1, y2, y3, y4, n, rfl, by simpa using hx.1, by simpa using hx.2, by simpa [Value.cells, o0, k0] using hg 0 f0 rfl, by simpa [Value.cells, o1, k1] using hg 1 f1 rfl, by simpa [Value.cells, o2, k2] using hg 2 f2 rfl, by simpa [Value.cells, o3, k3] using hg 3 f3 rfl, by simpa [Value.cells, o4, k4] using hg 4 f4 rfl⟩
theorem open_bytes {t e : TypeId} {a : Option Addr} {len cap : Nat} {d : DataW H} {p : List MemPlace} (ht : P.underlying t = some (.slice e)) (he : P.underlying e = some (.int .u8)) (hc : P.cellsOf e = 1)
    (h : DataW.Trod enc P w base spare held t (.slice a len cap) d p) : ∃ zs : List Int, zs.length = len ∧ (len ≤ cap ∧ len ≤ maxLen ∧ ∀ z ∈ zs, 0 ≤ z ∧ z < 256) ∧ Fl (heapOf w) a (zs.map (Value.int .u8 ·)) := by
  obtain ⟨fuel, hf⟩ := h
  rcases open_ints ht he hc hf with ⟨hcs, _⟩ | ⟨x, l, c, zs, hcs, _, hl, hm, hz, _, hcell, hwz⟩
  · simp [Value.cells] at hcs
    obtain ⟨rfl, rfl, rfl⟩ := hcs
    exact ⟨[], rfl, ⟨Nat.le_refl _, Nat.zero_le _, fun z hz => by cases hz⟩, Fl.nil _ _⟩
  · simp [Value.cells] at hcs
    obtain ⟨rfl, rfl, rfl⟩ := hcs
    have hz' : len ≤ zs.length := by rw [hz]; split <;> omega
    refine ⟨zs.take len, by rw [List.length_take]; omega, ⟨hl, by omega, fun z hzm => ?_⟩, fun j v hj => ?_⟩
    · have := hwz z (List.mem_of_mem_take hzm)
      have e1 : IntKind.u8.min = 0 := by decide
      have e2 : IntKind.u8.max = 255 := by decide
      simp [Lit.wf, e1, e2] at this
      omega
    · have hj' : j < len := by
        have := (List.getElem?_eq_some_iff.1 hj).1
        rw [List.length_map, List.length_take] at this
        omega
      have hjz : j < zs.length := by omega
      have := hcell j hjz
      simp only [List.map_take, List.getElem?_take, hj', if_true, List.getElem?_map, List.getElem?_eq_getElem hjz, Option.map_some, Option.some.injEq] at hj
      subst hj
      have e : zs.getD j 0 = zs[j] := by simp [List.getD, hjz]
      rw [e] at this
      exact heap_cell this
theorem open_quads {t e u : TypeId} {f0 f1 f2 f3 f4 : Field} {a : Option Addr} {len cap : Nat} {d : DataW H} {p : List MemPlace} (ht : P.underlying t = some (.slice e)) (he : P.underlying e = some (.struct #[f0, f1, f2, f3, f4])) (hone : oneCellFields P #[f0, f1, f2, f3, f4] = true) (hC : P.cellsOf e = 5)
    (hu : P.underlying u = some (.int .i64)) (hf : f0.type = u ∧ f1.type = u ∧ f2.type = u ∧ f3.type = u ∧ f4.type = u) (h : DataW.Trod enc P w base spare held t (.slice a len cap) d p) :
    ∃ qs : List Qd, qs.length = len ∧ len ≤ maxLen ∧ Fl (heapOf w) a (qcells qs) := by
  obtain ⟨fuel, h⟩ := h
  rcases open_slice_fields ht he hone hC h with ⟨hcs, _⟩ | ⟨x, l, c, m, D, Pl, hcs, _, hl, hm, hmm, _, hi⟩
  · simp [Value.cells] at hcs
    obtain ⟨rfl, rfl, rfl⟩ := hcs
    exact ⟨[], rfl, Nat.zero_le _, Fl.nil _ _⟩
  · simp [Value.cells] at hcs
    obtain ⟨rfl, rfl, rfl⟩ := hcs
    have hlm : len ≤ m := by rw [hmm]; split <;> omega
    have hq : ∀ i, i < len → ∃ q : Qd, ∀ j, j < 5 → w.cell? (x.add (i * 5 + j)) = q.cells[j]? := by
      intro i hil
      obtain ⟨ys, n, _, _, _, hg⟩ := hi i (by omega)
      have one : ∀ j f, (#[f0, f1, f2, f3, f4] : Array Field)[j]? = some f → f.type = u → ∃ z : Int, w.cell? (x.add (i * 5 + j)) = some (.int .i64 z) := by
        intro j f hj hft
        obtain ⟨v, y, hc, _, ht'⟩ := hg j f hj
        rw [hft] at ht'
        obtain ⟨z, hz, _, _⟩ := DataW.trod_int hu ht'
        simp only [List.cons.injEq, and_true] at hz
        exact ⟨z, by rw [← hz]; exact hc⟩
      obtain ⟨z0, h0⟩ := one 0 f0 rfl hf.1
      obtain ⟨z1, h1⟩ := one 1 f1 rfl hf.2.1
      obtain ⟨z2, h2⟩ := one 2 f2 rfl hf.2.2.1
      obtain ⟨z3, h3⟩ := one 3 f3 rfl hf.2.2.2.1
      obtain ⟨z4, h4⟩ := one 4 f4 rfl hf.2.2.2.2
      refine ⟨⟨z0, z1, z2, z3, z4⟩, fun j hj => ?_⟩
      match j, hj with
      | 0, _ => exact h0
      | 1, _ => exact h1
      | 2, _ => exact h2
      | 3, _ => exact h3
      | 4, _ => exact h4
    have hfun : ∃ g : Nat → Qd, ∀ i, i < len → ∀ j, j < 5 → w.cell? (x.add (i * 5 + j)) = (g i).cells[j]? :=
      ⟨fun i => if hi : i < len then (hq i hi).choose else ⟨0, 0, 0, 0, 0⟩, fun i hi => by simp only [hi, dif_pos]; exact (hq i hi).choose_spec⟩
    obtain ⟨g, hg⟩ := hfun
    refine ⟨(List.range len).map g, by simp, by omega, fun j v hv => ?_⟩
    have hj : j < len * 5 := by
      have := (List.getElem?_eq_some_iff.1 hv).1
      rw [qcells_len] at this
      simpa using this
    have hk : j / 5 < ((List.range len).map g).length := by rw [List.length_map, List.length_range]; omega
    have := qcells_at hk (j % 5) (by omega)
    rw [show j / 5 * 5 + j % 5 = j by omega, hv] at this
    have e : ((List.range len).map g)[j / 5] = g (j / 5) := by simp
    rw [e, ← hg (j / 5) (by omega) (j % 5) (by omega), show j / 5 * 5 + j % 5 = j by omega] at this
    exact heap_cell this.symm
end
end Go.Proofs.Ytfjhjfddgdokgaa
