/- '==' of structs whose fields are whole numbers. -/
import Derived.Test.YtfjhjfddgdokgaaSxHeap
import Derived.Laws.StructEq
import Derived.KernelRfl
namespace Go.Proofs.Ytfjhjfddgdokgaa
set_option linter.all false
open Go Go.RowKit

def intAt (xs : List Value) (i : Nat) : Int := match xs[i]? with
  | some (.int _ n) => n
  | _ => 0
def flatInts (P : Program) (t : TypeId) (n : Nat) : Bool := match P.underlying t with
  | some (.struct fs) => fs.toList.map (·.offset) == List.range n && fs.toList.all (fun f => f.name != "_" && (match P.underlying f.type with | some (.int _) => true | _ => false)) && !P.stoodInHeld t && !P.eqGuardType P.depth t
  | _ => false
section
variable {P : Program} {w : World}
theorem part_int {t : TypeId} {k : IntKind} (h : P.underlying t = some (.int k)) {cs : Array Value} {i : Nat} {v : Value} (hv : cs[i]? = some v) : (part t cs i).run P w = .ok v w := by
  have ha : aggB P t = some false := by simp [aggB, h]
  simp only [part, Sem.run_bind, run_isAgg ha, Result.andThen_ok, Bool.false_eq_true, if_false, hv, Sem.run_pure]
theorem eqFields_ints {d : Nat} {xs ys : List Value} : ∀ (fs : List Field), (∀ f ∈ fs, f.name ≠ "_" ∧ (∃ k, P.underlying f.type = some (.int k)) ∧ ∃ k a b, xs[f.offset]? = some (.int k a) ∧ ys[f.offset]? = some (.int k b)) →
    (Op.eqFields (d + 1) xs.toArray ys.toArray fs).run P w = .ok (fs.all fun f => intAt xs f.offset == intAt ys f.offset) w
  | [], _ => by simp [Op.eqFields]
  | f :: fs, h => by
    obtain ⟨hn, ⟨k, hk⟩, k', a, b, ha, hb⟩ := h f (by simp)
    have ih := eqFields_ints (d := d) fs (fun g hg => h g (by simp [hg]))
    have pa : (part f.type xs.toArray f.offset).run P w = .ok (.int k' a) w := part_int hk (by simpa using ha)
    have pb : (part f.type ys.toArray f.offset).run P w = .ok (.int k' b) w := part_int hk (by simpa using hb)
    have he := run_equalIn_int (P := P) w d f.type k' k a b hk
    rw [Op.eqFields]
    simp only [if_pos hn, Sem.run_bind, pa, pb, he, Result.andThen_ok]
    have e : (intAt xs f.offset == intAt ys f.offset) = (a == b) := by simp only [intAt, ha, hb]
    simp only [List.all_cons, e]
    cases hab : (a == b)
    · simp
    · simpa using ih
theorem eqs_ints {t : TypeId} {n : Nat} (hf : flatInts P t n = true) {xs ys : List Value} (h : ∀ i, i < n → ∃ k a b, xs[i]? = some (.int k a) ∧ ys[i]? = some (.int k b)) :
    EqRun P t (.agg xs.toArray) (.agg ys.toArray) ((List.range n).all fun i => intAt xs i == intAt ys i) := by
  unfold flatInts at hf
  split at hf
  · rename_i fs hu
    simp only [Bool.and_eq_true, beq_iff_eq, Bool.not_eq_true', List.all_eq_true, bne_iff_ne] at hf
    obtain ⟨⟨⟨h1, h2⟩, h3⟩, h4⟩ := hf
    refine ⟨⟨_, rfl⟩, ⟨_, rfl⟩, h4, fun w => ?_⟩
    have hfl : P.fieldsOf t = fs := by simp [Program.fieldsOf, hu]
    have hr := run_equalIn_struct (P := P) w 9999 t xs.toArray ys.toArray (by rw [hfl]; exact hu) h3
    rw [hfl] at hr
    have hq := eqFields_ints (P := P) (w := w) (d := 9998) (xs := xs) (ys := ys) fs.toList (fun f hf => by
      obtain ⟨g1, g2⟩ := h2 f hf
      refine ⟨g1, ?_, ?_⟩
      · revert g2
        cases P.underlying f.type with
        | none => intro g2; cases g2
        | some d => cases d <;> intro g2 <;> first | exact ⟨_, rfl⟩ | cases g2
      · have hm : f.offset ∈ List.range n := by rw [← h1]; exact List.mem_map_of_mem hf
        exact h _ (List.mem_range.1 hm))
    have e : (fs.toList.all fun f => intAt xs f.offset == intAt ys f.offset) = (List.range n).all fun i => intAt xs i == intAt ys i := by
      rw [← h1, List.all_map]
      rfl
    rw [← e]
    show (Op.equalIn (9999 + 1) t _ _).run P w = _
    rw [hr]
    exact hq
  · cases hf
theorem eqsK_ints {ng : Bool} {t : TypeId} {n : Nat} (hf : flatInts P t n = true) {xs ys : List Value} (h : ∀ i, i < n → ∃ k a b, xs[i]? = some (.int k a) ∧ ys[i]? = some (.int k b)) {C : Value → Prop}
    (hC : C (.bool (ng != ((List.range n).all fun i => intAt xs i == intAt ys i)))) : eqsK P ng t (.agg xs.toArray) (.agg ys.toArray) C := ⟨_, eqs_ints hf h, hC⟩
theorem eqs_five {t : TypeId} (hf : flatInts P t 5 = true) {ng : Bool} {k0 k1 k2 k3 k4 : IntKind} {x0 x1 x2 x3 x4 y0 y1 y2 y3 y4 : Int} {C : Value → Prop}
    (hC : C (.bool (ng != decide (x0 = y0 ∧ x1 = y1 ∧ x2 = y2 ∧ x3 = y3 ∧ x4 = y4)))) :
    eqsK P ng t (.agg #[.int k0 x0, .int k1 x1, .int k2 x2, .int k3 x3, .int k4 x4]) (.agg #[.int k0 y0, .int k1 y1, .int k2 y2, .int k3 y3, .int k4 y4]) C := by
  refine eqsK_ints (xs := [.int k0 x0, .int k1 x1, .int k2 x2, .int k3 x3, .int k4 x4]) (ys := [.int k0 y0, .int k1 y1, .int k2 y2, .int k3 y3, .int k4 y4]) hf (fun i hi => ?_) ?_
  · match i, hi with
    | 0, _ => exact ⟨_, _, _, rfl, rfl⟩
    | 1, _ => exact ⟨_, _, _, rfl, rfl⟩
    | 2, _ => exact ⟨_, _, _, rfl, rfl⟩
    | 3, _ => exact ⟨_, _, _, rfl, rfl⟩
    | 4, _ => exact ⟨_, _, _, rfl, rfl⟩
  · have e : ((List.range 5).all fun i => intAt [.int k0 x0, .int k1 x1, .int k2 x2, .int k3 x3, .int k4 x4] i == intAt [.int k0 y0, .int k1 y1, .int k2 y2, .int k3 y3, .int k4 y4] i) = decide (x0 = y0 ∧ x1 = y1 ∧ x2 = y2 ∧ x3 = y3 ∧ x4 = y4) := by
      rw [Bool.eq_iff_iff]
      simp [List.range_succ, intAt, and_assoc]
    rw [e]; exact hC
end
theorem kb {K : Value → AHeap → Prop} {H : AHeap} {b c : Bool} (h : K (.bool b) H) (e : c = b) : K (.bool c) H := e ▸ h
theorem ki {K : Value → AHeap → Prop} {H : AHeap} {k : IntKind} {b c : Int} (h : K (.int k b) H) (e : c = b) : K (.int k c) H := e ▸ h
theorem false_bne' (b : Bool) : (false != b) = b := by simp
theorem true_bne' (b : Bool) : (true != b) = !b := by simp
end Go.Proofs.Ytfjhjfddgdokgaa
