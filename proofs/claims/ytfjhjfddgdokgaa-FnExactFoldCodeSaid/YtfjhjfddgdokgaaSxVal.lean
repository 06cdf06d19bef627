/- What a small instruction yields, the model's operation yields: for those that write nothing and call nothing. -/
import Derived.Test.YtfjhjfddgdokgaaSxOps
namespace Go.Proofs.Ytfjhjfddgdokgaa
set_option linter.all false
open Go Go.RowKit
set_option linter.unusedSimpArgs false

theorem run_under {P : Program} {t : TypeId} {d : TypeDesc} (h : P.underlying t = some d) (w : World) : (underlying t).run P w = .ok d w := run_underlying h w
theorem run_size {P : Program} {t : TypeId} {n : Nat} (h : sizeB P t = some n) (w : World) : (sizeOf t).run P w = .ok n w := by
  unfold sizeB at h
  cases hi : P.info? t with
  | none => rw [hi] at h; cases h
  | some i => rw [hi] at h; obtain rfl := Option.some.inj h; simp [sizeOf, typeInfo, hi]
theorem run_zero {P : Program} {t : TypeId} {z : List Value} (h : zeroB P t = some z) (w : World) : ∃ zv : Value, zv.cells.toList = z ∧ (zeroValue t).run P w = .ok zv w := by
  unfold zeroB at h
  cases hi : P.info? t with
  | none => rw [hi] at h; cases h
  | some i =>
    rw [hi] at h
    obtain ⟨zv, hz, rfl⟩ := Option.map_eq_some_iff.1 h
    exact ⟨zv, rfl, by simp [zeroValue, typeInfo, hi, hz]⟩
theorem run_isAgg {P : Program} {t : TypeId} {b : Bool} (h : aggB P t = some b) (w : World) : (isAgg t).run P w = .ok b w := by
  unfold aggB at h
  cases hd : P.underlying t with
  | none => rw [hd] at h; cases h
  | some d =>
    rw [hd] at h
    simp only [Option.map_some, Option.some.injEq] at h
    simp only [isAgg, Sem.run_bind, run_underlying hd, Result.andThen_ok]
    cases d <;> simp_all
theorem cells_load {w0 w : World} {H : AHeap} {P : Program} (hs : Sat w0 H w) {a : Addr} {n : Nat} {l : List Value} (h : H.rdn (some a) n = some l) :
    (loadCells a n).run P w = .ok l.toArray w := by
  have hl := rdn_length h
  rw [← hl]
  refine run_loadCells_list w a l fun j v hv => ?_
  have := rdn_cell h j v hv
  exact hs.cell this

section
variable {P : Program} {w0 w : World} {H : AHeap} {ρ : Operand → Value}

theorem fold_setR : ∀ (vs : List Value) (k off : Nat) (cs : Array Value),
    ((vs.zipIdx k).foldl (fun (cs : Array Value) (p : Value × Nat) => cs.setIfInBounds (off + p.2) p.1) cs).toList = setR cs.toList (off + k) vs
  | [], _, _, _ => rfl
  | v :: r, k, off, cs => by
    simp only [List.zipIdx_cons, List.foldl_cons, setR]
    rw [fold_setR r (k + 1) off]
    simp [Array.toList_setIfInBounds, Nat.add_assoc]
theorem fold_arr (vs : Array Value) (off : Nat) (cs : Array Value) :
    (vs.zipIdx.foldl (fun (cs : Array Value) (p : Value × Nat) => cs.setIfInBounds (off + p.2) p.1) cs).toList = setR cs.toList off vs.toList := by
  have h := fold_setR vs.toList 0 off cs
  rw [← Array.foldl_toList]
  simpa using h
theorem fill_eq (place : Nat → Option (Nat × Nat)) : ∀ (parts : List (Nat × Value)) (qs : List (Nat × Nat × Value)) (cells : Array Value) (r : List Value),
    (List.length parts = List.length qs) → (∀ (i : Nat) (p : Nat × Value) (q : Nat × Nat × Value), parts[i]? = some p → qs[i]? = some q → place p.1 = some (q.1, q.2.1) ∧ p.2 = q.2.2) →
    fillL cells.toList qs = some r → Instr.fill place cells parts = some r.toArray
  | [], [], cells, r, _, _, h => by
    obtain rfl := Option.some.inj h
    simp [Instr.fill]
  | [], q :: qs, _, _, hl, _, _ => by simp at hl
  | p :: ps, [], _, _, hl, _, _ => by simp at hl
  | p :: ps, q :: qs, cells, r, hl, hp, h => by
    obtain ⟨h1, h2⟩ := hp 0 p q rfl rfl
    obtain ⟨i, v⟩ := p
    obtain ⟨off, size, u⟩ := q
    simp only at h1 h2
    subst h2
    simp only [fillL] at h
    split at h
    · rename_i hc
      obtain ⟨c1, c2⟩ := hc
      simp only [Instr.fill, h1]
      have hno : ¬ ((v.cells.size ≠ size || decide (off + v.cells.size > cells.size)) = true) := by
        simp only [Array.length_toList] at c2
        simp [c1]; omega
      rw [if_neg hno]
      refine fill_eq place ps qs _ r (by simpa using hl) (fun j x y hx hy => hp (j + 1) x y (by simpa using hx) (by simpa using hy)) ?_
      rw [fold_arr]
      exact h
    · cases h

theorem sb_run {v : Value} {y d r : Nat} (code : BoundsCode) (h : bndv y (some v) d = some r) : (Instr.sliceBound v y code).run P w = .ok r w := by
  cases v <;> simp only [bndv] at h <;> first | (cases h; done) | skip
  rename_i k i
  split at h
  · rename_i hi
    obtain rfl := Option.some.inj h
    simp [Instr.sliceBound, asIntOf, hi]
  · cases h
theorem bnds_run {ln cap l h m : Nat} {lo hi mx : Option Value} (isSlice : Bool) (hb : bnds ln cap lo hi mx = some (l, h, m)) :
    (Instr.sliceBounds isSlice ln cap lo hi mx).run P w = .ok (l, h, m) w := by
  unfold bnds at hb
  cases hm : bndv cap mx cap with
  | none => rw [hm] at hb; cases hb
  | some m' =>
    rw [hm] at hb
    cases hi with
    | none =>
      cases mx with
      | some _ => cases hb
      | none =>
        change (match bndv ln lo 0 with | none => none | some x => some (x, ln, m')) = _ at hb
        obtain rfl := Option.some.inj hm
        cases hl : bndv ln lo 0 with
        | none => rw [hl] at hb; cases hb
        | some l' =>
          rw [hl] at hb
          simp only [Option.some.injEq, Prod.mk.injEq] at hb
          obtain ⟨rfl, rfl, rfl⟩ := hb
          cases lo with
          | none => obtain rfl := Option.some.inj hl; simp [Instr.sliceBounds]
          | some lv => simp [Instr.sliceBounds, sb_run _ hl]
    | some hv =>
      change (match bndv m' (some hv) ln with | none => none | some h => match bndv h lo 0 with | none => none | some l => some (l, h, m')) = _ at hb
      cases hh : bndv m' (some hv) ln with
      | none => rw [hh] at hb; cases hb
      | some h' =>
        rw [hh] at hb
        simp only at hb
        cases hl : bndv h' lo 0 with
        | none => rw [hl] at hb; cases hb
        | some l' =>
          rw [hl] at hb
          simp only [Option.some.injEq, Prod.mk.injEq] at hb
          obtain ⟨rfl, rfl, rfl⟩ := hb
          cases mx with
          | none =>
            obtain rfl := Option.some.inj hm
            cases lo with
            | none => obtain rfl := Option.some.inj hl; simp [Instr.sliceBounds, sb_run _ hh]
            | some lv => simp [Instr.sliceBounds, sb_run _ hh, sb_run _ hl]
          | some mv =>
            cases lo with
            | none => obtain rfl := Option.some.inj hl; simp [Instr.sliceBounds, sb_run _ hm, sb_run _ hh]
            | some lv => simp [Instr.sliceBounds, sb_run _ hm, sb_run _ hh, sb_run _ hl]
end
end Go.Proofs.Ytfjhjfddgdokgaa
