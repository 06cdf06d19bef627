/- The rules by which the abstract walk goes on: one bundle of equations for simp. -/
import Derived.Test.YtfjhjfddgdokgaaSxRegion
namespace Go.Proofs.Ytfjhjfddgdokgaa
set_option linter.all false
open Go Go.RowKit

/-- A struct read at a place. -/
def ldnV (H : AHeap) (n : Nat) (v : Value) : Option Value := match v with
  | .pointer a => if a.isSome then (H.rdn a n).map fun cs => .agg cs.toArray else none
  | _ => none
theorem ldnV_p (H : AHeap) (n : Nat) (a : Option Addr) : ldnV H n (.pointer a) = if a.isSome = true then (H.rdn a n).map fun cs => .agg cs.toArray else none := by exact id rfl
theorem ldnV_eq (ρ : Operand → Value) (H : AHeap) (n : Nat) (x : Operand) : X.val ρ H (.ldn n x) = ldnV H n (ρ x) := by
  simp only [X.val, ldnV]
  cases ρ x <;> try rfl
  rename_i a
  cases a <;> rfl
def putK (K : Fr → AHeap → Prop) (d : Option Nat) (fr : Fr) : Value → AHeap → Prop := fun v H => K (putD fr d v) H
def valK (K : Value → AHeap → Prop) (H : AHeap) : Value → Prop := fun v => K v H
/-- A guarded instruction, its guard's value known. -/
def sxGd (P : Program) (w0 : World) (v : Value) (t : Nat) (b : Bool) (d : Option Nat) (x : X) (K : Fr → AHeap → Prop) (fr : Fr) (H : AHeap) : Prop := match v with
  | .bool c => (c = b → sxEff P w0 x fr.ev H (putK K d fr)) ∧ (c ≠ b → K (putD fr d undef) H)
  | _ => K (putD fr d undef) H
def sxC (v : Value) (A B : Prop) : Prop := match v with
  | .bool t => (t = true → A) ∧ (t = false → B)
  | _ => False
def retF (K : Value → AHeap → Prop) (H : AHeap) : Value → Prop := fun v => ∃ H', AHeap.le H' H ∧ K v H'
/-- A new block: the heap with it, and its place. -/
def newK (K : Value → AHeap → Prop) (H : AHeap) (k : Blk) : Prop := ∀ b, H b = none → K (.pointer (some ⟨b, 0, none⟩)) (H.set b k)
def rowK (K : Value → AHeap → Prop) (H : AHeap) (k : Blk) (l c : Nat) : Prop := ∀ b, H b = none → K (.slice (some ⟨b, 0, none⟩) l c) (H.set b k)
def rowsK (K : Value → AHeap → Prop) (H : AHeap) (t : TypeId) (ln : Nat) : List Value → Prop := fun cs => rowK K H ⟨cs, true, t, cs.length⟩ ln ln
def stK (n : Nat) (p v : Value) (K : Value → AHeap → Prop) (H : AHeap) : Prop := match p with
  | .pointer (some a) => a.spot = none ∧ ∃ k, H a.block = some k ∧ k.own = true ∧ v.cells.size = n ∧ a.off + n ≤ k.cells.length ∧ (∀ u ∈ v.cells.toList, u.oneCell' = true) ∧
      K undef (H.set a.block { k with cells := setR k.cells a.off v.cells.toList })
  | _ => False
def mkK (z : List Value) (t : TypeId) (bytes : Nat) (l c : Value) (K : Value → AHeap → Prop) (H : AHeap) : Prop := match l, c with
  | .int _ l, .int _ c => 0 ≤ l ∧ l ≤ c ∧ (bytes : Int) * c ≤ 281474976710656 ∧ c ≤ 9223372036854775807 ∧ rowK K H ⟨repl z c.toNat, true, t, c.toNat * z.length⟩ l.toNat c.toNat
  | _, _ => False
def appK (P : Program) (w0 : World) (z : List Value) (t : TypeId) (bytes : Nat) (s x : Value) (K : Value → AHeap → Prop) (H : AHeap) : Prop :=
  sxEff P w0 (.app z t bytes (.const s) (.const x)) (fun o => match o with | .const v => v | _ => undef) H K
def callK (P : Program) (w0 : World) (f : Value) (args : List Value) (H : AHeap) (K : Value → AHeap → Prop) : Prop := match f with
  | .func (.func f) fi ca => ACalls P w0 f (fi.toList ++ args ++ ca.toList) H K
  | _ => False
def eqsK (P : Program) (ng : Bool) (t : TypeId) (u v : Value) (K : Value → Prop) : Prop := ∃ r : Bool, EqRun P t u v r ∧ K (.bool (ng != r))

theorem wrap_i64 {n : Int} (h1 : -9223372036854775808 ≤ n) (h2 : n ≤ 9223372036854775807) : IntKind.i64.wrap n = n := by rw [IntKind.wrap_i64]; omega
theorem wrap_i64_idem (n : Int) : IntKind.i64.wrap (IntKind.i64.wrap n) = IntKind.i64.wrap n := by simp only [IntKind.wrap_i64]; omega
theorem in_if {c : Prop} [Decidable c] {α : Type} (x y : α) (h : c) : (if c then x else y) = x := if_pos h
theorem in_range {i : Int} {n : Nat} {α : Type} (x y : α) (h : 0 ≤ i ∧ i < n) : (if 0 ≤ i ∧ i < (n : Int) then x else y) = x := if_pos h
theorem in_bnd {i : Int} {n : Nat} {α : Type} (x y : α) (h : 0 ≤ i ∧ i ≤ n) : (if 0 ≤ i ∧ i ≤ (n : Int) then x else y) = x := if_pos h
theorem fr0_zero (a : Value) (l : List Value) : fr0 (a :: l) 0 = a := rfl
theorem fr0_succ (a : Value) (l : List Value) (n : Nat) : fr0 (a :: l) (n + 1) = fr0 l n := rfl
theorem fr0_nil (n : Nat) : fr0 [] n = undef := rfl
theorem put_at (fr : Fr) (d t : Nat) (v : Value) : Fr.put fr d v t = if t = d then v else fr t := rfl

/-! The rules, one by one (none of them by 'rfl': each step is then a rewriting of its own). -/
theorem zA1 : ∀ (P : Program) (w0 : World) Q fr H, sx P w0 .skip Q fr H = Q .normal fr H := by intros; exact id rfl
theorem zA2 : ∀ (P : Program) (w0 : World) l Q fr H, sx P w0 (.ops l) Q fr H = sxOps P w0 l (Q .normal) fr H := by intros; exact id rfl
theorem zA3 : ∀ (P : Program) (w0 : World) a b Q fr H, sx P w0 (.seq a b) Q fr H = sx P w0 a (thenK (sx P w0 b Q) Q) fr H := by intros; exact id rfl
theorem zA4 : ∀ (P : Program) (w0 : World) c a b Q fr H, sx P w0 (.cond c a b) Q fr H = sxC (fr.ev c) (sx P w0 a Q fr H) (sx P w0 b Q fr H) := by intros; exact id rfl
theorem zA5 : ∀ (P : Program) (w0 : World) id c Q fr H, sx P w0 (.block id c) Q fr H = sx P w0 c (blockK id Q) fr H := by intros; exact id rfl
theorem zA6 : ∀ (P : Program) (w0 : World) id Q fr H, sx P w0 (.exit id) Q fr H = Q (.exit id) fr H := by intros; exact id rfl
theorem zA7 : ∀ (P : Program) (w0 : World) Q fr H, sx P w0 .ret Q fr H = Q .ret fr H := by intros; exact id rfl
theorem zA8 : ∀ k Q fr H, thenK k Q .normal fr H = k fr H := by intros; exact id rfl
theorem zA9 : ∀ k Q fr H, thenK k Q .ret fr H = Q .ret fr H := by intros; exact id rfl
theorem zA10 : ∀ k Q id fr H, thenK k Q (.exit id) fr H = Q (.exit id) fr H := by intros; exact id rfl
theorem zA11 : ∀ id Q fr H, blockK id Q .normal fr H = Q .normal fr H := by intros; exact id rfl
theorem zA12 : ∀ id Q fr H, blockK id Q .ret fr H = Q .ret fr H := by intros; exact id rfl
theorem zA13 : ∀ id id' Q fr H, blockK id Q (.exit id') fr H = if id' = id then Q .normal fr H else Q (.exit id') fr H := by intros; exact id rfl
theorem zA14 : ∀ rs K fr H, retK rs K .normal fr H = needs (resV fr H rs) (retF K H) := by intros; exact id rfl
theorem zA15 : ∀ rs K fr H, retK rs K .ret fr H = needs (resV fr H rs) (retF K H) := by intros; exact id rfl
theorem zA16 : ∀ (P : Program) (w0 : World) K fr H, sxOps P w0 [] K fr H = K fr H := by intros; exact id rfl
theorem zA17 : ∀ (P : Program) (w0 : World) o r K fr H, sxOps P w0 (o :: r) K fr H = sxOp P w0 o (sxOps P w0 r K) fr H := by intros; exact id rfl
theorem zA18 : ∀ (P : Program) (w0 : World) d x K fr H, sxOp P w0 ⟨d, x, none⟩ K fr H = sxEff P w0 x fr.ev H (putK K d fr) := by intros; exact id rfl
theorem zA19 : ∀ (P : Program) (w0 : World) d x t b K fr H, sxOp P w0 ⟨d, x, some (t, b)⟩ K fr H = sxGd P w0 (fr t) t b d x K fr H := by intros; exact id rfl
theorem zA20 : ∀ (P : Program) (w0 : World) t d x K fr H, sxGd P w0 (.bool true) t true d x K fr H = sxEff P w0 x fr.ev H (putK K d fr) := by intros; simp [sxGd]
theorem zA21 : ∀ (P : Program) (w0 : World) t d x K fr H, sxGd P w0 (.bool false) t true d x K fr H = K (putD fr d undef) H := by intros; simp [sxGd]
theorem zA22 : ∀ (P : Program) (w0 : World) t d x K fr H, sxGd P w0 (.bool true) t false d x K fr H = K (putD fr d undef) H := by intros; simp [sxGd]
theorem zA23 : ∀ (P : Program) (w0 : World) t d x K fr H, sxGd P w0 (.bool false) t false d x K fr H = sxEff P w0 x fr.ev H (putK K d fr) := by intros; simp [sxGd]
theorem zA36 : ∀ (P : Program) (w0 : World) t b d x K fr H, sxGd P w0 undef t b d x K fr H = K (putD fr d undef) H := by intros; exact id rfl
theorem zA24 : ∀ K d fr v H, putK K d fr v H = K (putD fr d v) H := by intros; exact id rfl
theorem zA25 : ∀ K H v, valK K H v = K v H := by intros; exact id rfl
theorem zA26 : ∀ A B, sxC (.bool true) A B = A := by intros; simp [sxC]
theorem zA27 : ∀ A B, sxC (.bool false) A B = B := by intros; simp [sxC]
theorem zA28 : ∀ fr d v, putD fr (some d) v = Fr.put fr d v := by intros; exact id rfl
theorem zA29 : ∀ fr v, putD fr none v = fr := by intros; exact id rfl
theorem zA30 : ∀ fr t, Fr.ev fr (.tmp t) = fr t := by intros; exact id rfl
theorem zA31 : ∀ fr v, Fr.ev fr (.const v) = v := by intros; exact id rfl
theorem zA32 : ∀ fr f, Fr.ev fr (.func f) = .func (.func f) #[] #[] := by intros; exact id rfl
theorem zA33 : ∀ K H v, retF K H v = ∃ H', AHeap.le H' H ∧ K v H' := by intros; exact id rfl
theorem zA34 : ∀ fr H r rs, List.mapM (rval fr H) (r :: rs) = (rval fr H r).bind fun v => (List.mapM (rval fr H) rs).map (v :: ·) := by
  intro fr H r rs
  rw [List.mapM_cons]
  cases rval fr H r with
  | none => rfl
  | some v =>
    show (List.mapM (rval fr H) rs >>= fun l => pure (v :: l)) = _
    cases List.mapM (rval fr H) rs <;> rfl
theorem zA35 : ∀ fr H, List.mapM (rval fr H) [] = some [] := by intros; rfl
theorem gd_split {P : Program} {w0 : World} {c : Bool} {t : Nat} {b : Bool} {d : Option Nat} {x : X} {K : Fr → AHeap → Prop} {fr : Fr} {H : AHeap} (hfr : fr t = .bool c)
    (h1 : c = true → sxGd P w0 (.bool true) t b d x K (fr.put t (.bool true)) H) (h2 : c = false → sxGd P w0 (.bool false) t b d x K (fr.put t (.bool false)) H) : sxGd P w0 (.bool c) t b d x K fr H := by
  have e : ∀ v, fr t = v → fr.put t v = fr := fun v hv => by
    funext u
    simp only [Fr.put]
    split
    · rename_i hu; rw [hu]; exact hv.symm
    · rfl
  cases c
  · have := h2 rfl; rw [e _ hfr] at this; exact this
  · have := h1 rfl; rw [e _ hfr] at this; exact this
theorem c_split {t : Bool} {A B : Prop} (h1 : t = true → A) (h2 : t = false → B) : sxC (.bool t) A B := ⟨h1, h2⟩
theorem ret_same {K : Value → AHeap → Prop} {H : AHeap} {v : Value} (h : K v H) : ∃ H', AHeap.le H' H ∧ K v H' := ⟨H, .refl _, h⟩

section
variable {P : Program} {w0 : World} {ρ : Operand → Value} {H : AHeap} {K : Value → AHeap → Prop}
/-! What each instruction asks. -/
theorem zB1 : ∀ x, sxEff P w0 (.mov x) ρ H K = K (ρ x) H := by intros; exact id rfl
theorem zB2 : ∀ c a b, sxEff P w0 (.pick c a b) ρ H K = sxC (ρ c) (K (ρ a) H) (K (ρ b) H) := by
  intro c a b
  show needs (X.val ρ H (.pick c a b)) _ = _
  simp only [X.val]
  cases ρ c <;> try rfl
  rename_i t
  cases t <;> simp [sxC, needs]
theorem zB3 : ∀ z ps, sxEff P w0 (.agg z ps) ρ H K = needs (X.val ρ H (.agg z ps)) (valK K H) := by intros; exact id rfl
theorem zB4 : ∀ x, sxEff P w0 (.ld x) ρ H K = needs (X.val ρ H (.ld x)) (valK K H) := by intros; exact id rfl
theorem zB5 : ∀ n x, sxEff P w0 (.ldn n x) ρ H K = needs (ldnV H n (ρ x)) (valK K H) := by
  intro n x
  rw [← ldnV_eq]
  exact id rfl
theorem zB6 : ∀ n x, sxEff P w0 (.fld n x) ρ H K = needs (X.val ρ H (.fld n x)) (valK K H) := by intros; exact id rfl
theorem zB7 : ∀ n x i, sxEff P w0 (.idx n x i) ρ H K = needs (X.val ρ H (.idx n x i)) (valK K H) := by intros; exact id rfl
theorem zB8 : ∀ l n x i, sxEff P w0 (.ida l n x i) ρ H K = needs (X.val ρ H (.ida l n x i)) (valK K H) := by intros; exact id rfl
theorem zB9 : ∀ o x y, sxEff P w0 (.bin o x y) ρ H K = needs (X.val ρ H (.bin o x y)) (valK K H) := by intros; exact id rfl
theorem zB10 : ∀ n x y, sxEff P w0 (.eqb n x y) ρ H K = needs (X.val ρ H (.eqb n x y)) (valK K H) := by intros; exact id rfl
theorem zB11 : ∀ n t x y, sxEff P w0 (.eqs n t x y) ρ H K = eqsK P n t (ρ x) (ρ y) (valK K H) := by intros; exact id rfl
theorem zB12 : ∀ x, sxEff P w0 (.not x) ρ H K = needs (X.val ρ H (.not x)) (valK K H) := by intros; exact id rfl
theorem zB13 : ∀ x, sxEff P w0 (.neg x) ρ H K = needs (X.val ρ H (.neg x)) (valK K H) := by intros; exact id rfl
theorem zB14 : ∀ k x, sxEff P w0 (.cnv k x) ρ H K = needs (X.val ρ H (.cnv k x)) (valK K H) := by intros; exact id rfl
theorem zB15 : ∀ n x a b c, sxEff P w0 (.slc n x a b c) ρ H K = needs (X.val ρ H (.slc n x a b c)) (valK K H) := by intros; exact id rfl
theorem zB16 : ∀ l n x a b c, sxEff P w0 (.sla l n x a b c) ρ H K = needs (X.val ρ H (.sla l n x a b c)) (valK K H) := by intros; exact id rfl
theorem zB17 : ∀ o n x, sxEff P w0 (.prt o n x) ρ H K = needs (X.val ρ H (.prt o n x)) (valK K H) := by intros; exact id rfl
theorem zB18 : ∀ l s n x i, sxEff P w0 (.ixv l s n x i) ρ H K = needs (X.val ρ H (.ixv l s n x i)) (valK K H) := by intros; exact id rfl
theorem zB19 : ∀ i x, sxEff P w0 (.ext i x) ρ H K = needs (X.val ρ H (.ext i x)) (valK K H) := by intros; exact id rfl
theorem zB20 : ∀ x, sxEff P w0 (.len x) ρ H K = needs (X.val ρ H (.len x)) (valK K H) := by intros; exact id rfl
theorem zB21 : ∀ n, sxEff P w0 (.lena n) ρ H K = K (.int .i64 n) H := by intros; exact id rfl
theorem zB22 : ∀ x y, sxEff P w0 (.max x y) ρ H K = needs (X.val ρ H (.max x y)) (valK K H) := by intros; exact id rfl
theorem zB23 : ∀ x y, sxEff P w0 (.min x y) ρ H K = needs (X.val ρ H (.min x y)) (valK K H) := by intros; exact id rfl
theorem zB24 : ∀ f a b, sxEff P w0 (.mkf f a b) ρ H K = needs (X.val ρ H (.mkf f a b)) (valK K H) := by intros; exact id rfl
theorem zB25 : ∀ x, sxEff P w0 (.nilc x) ρ H K = needs (X.val ρ H (.nilc x)) (valK K H) := by intros; exact id rfl
theorem zB26 : ∀ z t, sxEff P w0 (.new z t) ρ H K = newK K H ⟨z, true, t, z.length⟩ := by intros; exact id rfl
theorem zB27 : ∀ t x, sxEff P w0 (.box t x) ρ H K = newK K H ⟨(ρ x).cells.toList, true, t, (ρ x).cells.size⟩ := by intros; exact id rfl
theorem zB28 : ∀ z t l ps, sxEff P w0 (.lit z t l ps) ρ H K = needs (fillL z (ps.map fun p => (p.1, p.2.1, ρ p.2.2))) (rowsK K H t l) := by intros; exact id rfl
theorem zB29 : ∀ z t n l c, sxEff P w0 (.mks z t n l c) ρ H K = mkK z t n (ρ l) (ρ c) K H := by
  intro z t n l c
  simp only [sxEff, mkK]
  cases ρ l <;> cases ρ c <;> rfl
theorem zB30 : ∀ n a x, sxEff P w0 (.st n a x) ρ H K = stK n (ρ a) (ρ x) K H := by
  intro n a x
  simp only [sxEff, stK]
  cases ρ a <;> rfl
theorem zB31 : ∀ z t n s x, sxEff P w0 (.app z t n s x) ρ H K = appK P w0 z t n (ρ s) (ρ x) K H := by intros; exact id rfl
theorem zB32 : ∀ f a, sxEff P w0 (.call f a) ρ H K = callK P w0 (ρ f) (a.map ρ) H K := by
  intro f a
  simp only [sxEff, callK]
  cases ρ f <;> rfl
theorem zB34 : ∀ n x y, sxEff P w0 (.nils n x y) ρ H K = needs (X.val ρ H (.nils n x y)) (valK K H) := by intros; exact id rfl
theorem zB33 : ∀ f fi ca l, callK P w0 (.func (.func f) fi ca) l H K = ACalls P w0 f (fi.toList ++ l ++ ca.toList) H K := by intros; exact id rfl
end
/-! Regions that draw. -/
def takeK (P : Program) (w0 : World) (Hp : AHeap) (d : Option Nat) (r : Sch) (K : Fr → AHeap → Prop) (fr : Fr) (H : AHeap) : Value → Prop := fun v => sxSch P w0 Hp r K (putD fr d v) H
def altK (P : Program) (w0 : World) (Hp : AHeap) (r : Sch) (K : Fr → AHeap → Prop) : Fr → AHeap → Prop := fun fr H => AHeap.le Hp H ∧ sxSch P w0 Hp r K fr H
def sxTd (P : Program) (v : Value) (t : Nat) (b : Bool) (x : X) (K : Value → Prop) (fr : Fr) (H : AHeap) : Prop := match v with
  | .bool c => (c = b → sxVal P x fr.ev H K) ∧ (c ≠ b → K undef)
  | _ => K undef
section
variable {P : Program} {w0 : World} {Hp H : AHeap} {K : Fr → AHeap → Prop} {fr : Fr} {ρ : Operand → Value} {C : Value → Prop}
theorem zC1 : sxSch P w0 Hp .done K fr H = K fr H := by exact id rfl
theorem zC2 (d x r) : sxSch P w0 Hp (.take ⟨d, x, none⟩ r) K fr H = sxVal P x fr.ev Hp (takeK P w0 Hp d r K fr H) := by exact id rfl
theorem zC3 (d x t b r) : sxSch P w0 Hp (.take ⟨d, x, some (t, b)⟩ r) K fr H = sxTd P (fr t) t b x (takeK P w0 Hp d r K fr H) fr Hp := by exact id rfl
theorem zC4 (o r m) : sxSch P w0 Hp (.alt o r m) K fr H = (sxOp P w0 o (altK P w0 Hp r K) fr H ∧ sxSch P w0 Hp m K fr H) := by exact id rfl
theorem zC5 : sxSch P w0 Hp .none_ K fr H = True := by exact id rfl
theorem zC39 (o m) : sxSch P w0 Hp (.last o m) K fr H = (sxOp P w0 o K fr H ∧ sxSch P w0 Hp m K fr H) := by exact id rfl
theorem zC6 (d r v) : takeK P w0 Hp d r K fr H v = sxSch P w0 Hp r K (putD fr d v) H := by exact id rfl
theorem zC7 (r) : altK P w0 Hp r K fr H = (AHeap.le Hp H ∧ sxSch P w0 Hp r K fr H) := by exact id rfl
theorem zC8 (t x) : sxTd P (.bool true) t true x C fr H = sxVal P x fr.ev H C := by simp [sxTd]
theorem zC9 (t x) : sxTd P (.bool false) t true x C fr H = C undef := by simp [sxTd]
theorem zC10 (t x) : sxTd P (.bool true) t false x C fr H = C undef := by simp [sxTd]
theorem zC11 (t x) : sxTd P (.bool false) t false x C fr H = sxVal P x fr.ev H C := by simp [sxTd]
theorem zC38 (t b x) : sxTd P undef t b x C fr H = C undef := by exact id rfl
theorem zC12 (x) : sxVal P (.mov x) ρ H C = C (ρ x) := by exact id rfl
theorem zC13 (c a b) : sxVal P (.pick c a b) ρ H C = sxC (ρ c) (C (ρ a)) (C (ρ b)) := by
  show needs (X.val ρ H (.pick c a b)) _ = _
  simp only [X.val]
  cases ρ c <;> try rfl
  rename_i t
  cases t <;> simp [sxC, needs]
theorem zC14 (x) : sxVal P (.ld x) ρ H C = needs (X.val ρ H (.ld x)) C := by exact id rfl
theorem zC15 (n x) : sxVal P (.ldn n x) ρ H C = needs (ldnV H n (ρ x)) C := by
  rw [← ldnV_eq]
  exact id rfl
theorem zC16 (n x) : sxVal P (.fld n x) ρ H C = needs (X.val ρ H (.fld n x)) C := by exact id rfl
theorem zC17 (n x i) : sxVal P (.idx n x i) ρ H C = needs (X.val ρ H (.idx n x i)) C := by exact id rfl
theorem zC18 (l n x i) : sxVal P (.ida l n x i) ρ H C = needs (X.val ρ H (.ida l n x i)) C := by exact id rfl
theorem zC19 (o x y) : sxVal P (.bin o x y) ρ H C = needs (X.val ρ H (.bin o x y)) C := by exact id rfl
theorem zC20 (o x y) : sxVal P (.eqb o x y) ρ H C = needs (X.val ρ H (.eqb o x y)) C := by exact id rfl
theorem zC21 (n t x y) : sxVal P (.eqs n t x y) ρ H C = eqsK P n t (ρ x) (ρ y) C := by exact id rfl
theorem zC22 (x) : sxVal P (.not x) ρ H C = needs (X.val ρ H (.not x)) C := by exact id rfl
theorem zC23 (x) : sxVal P (.neg x) ρ H C = needs (X.val ρ H (.neg x)) C := by exact id rfl
theorem zC24 (k x) : sxVal P (.cnv k x) ρ H C = needs (X.val ρ H (.cnv k x)) C := by exact id rfl
theorem zC25 (n x a b c) : sxVal P (.slc n x a b c) ρ H C = needs (X.val ρ H (.slc n x a b c)) C := by exact id rfl
theorem zC26 (l n x a b c) : sxVal P (.sla l n x a b c) ρ H C = needs (X.val ρ H (.sla l n x a b c)) C := by exact id rfl
theorem zC27 (o n x) : sxVal P (.prt o n x) ρ H C = needs (X.val ρ H (.prt o n x)) C := by exact id rfl
theorem zC28 (l s n x i) : sxVal P (.ixv l s n x i) ρ H C = needs (X.val ρ H (.ixv l s n x i)) C := by exact id rfl
theorem zC29 (i x) : sxVal P (.ext i x) ρ H C = needs (X.val ρ H (.ext i x)) C := by exact id rfl
theorem zC30 (x) : sxVal P (.len x) ρ H C = needs (X.val ρ H (.len x)) C := by exact id rfl
theorem zC31 (n) : sxVal P (.lena n) ρ H C = C (.int .i64 n) := by exact id rfl
theorem zC32 (x y) : sxVal P (.max x y) ρ H C = needs (X.val ρ H (.max x y)) C := by exact id rfl
theorem zC33 (x y) : sxVal P (.min x y) ρ H C = needs (X.val ρ H (.min x y)) C := by exact id rfl
theorem zC34 (f a b) : sxVal P (.mkf f a b) ρ H C = needs (X.val ρ H (.mkf f a b)) C := by exact id rfl
theorem zC35 (x) : sxVal P (.nilc x) ρ H C = needs (X.val ρ H (.nilc x)) C := by exact id rfl
theorem zC36 (z ps) : sxVal P (.agg z ps) ρ H C = needs (X.val ρ H (.agg z ps)) C := by exact id rfl
theorem zC37 (n x y) : sxVal P (.nils n x y) ρ H C = needs (X.val ρ H (.nils n x y)) C := by exact id rfl
theorem draw_same {s : Sch} {Q : Exit → Fr → AHeap → Prop} (h : sxSch P w0 H s (Q .normal) fr H) : sx P w0 (.draw s) Q fr H := ⟨H, .refl _, h⟩
theorem draw_at (Hp : AHeap) {s : Sch} {Q : Exit → Fr → AHeap → Prop} (hl : AHeap.le Hp H) (h : sxSch P w0 Hp s (Q .normal) fr H) : sx P w0 (.draw s) Q fr H := ⟨Hp, hl, h⟩
theorem td_split {c : Bool} {t : Nat} {b : Bool} {x : X} {d : Option Nat} {r : Sch} (hfr : fr t = .bool c)
    (h1 : c = true → sxTd P (.bool true) t b x (takeK P w0 Hp d r K (fr.put t (.bool true)) H) (fr.put t (.bool true)) Hp) (h2 : c = false → sxTd P (.bool false) t b x (takeK P w0 Hp d r K (fr.put t (.bool false)) H) (fr.put t (.bool false)) Hp) :
    sxTd P (.bool c) t b x (takeK P w0 Hp d r K fr H) fr Hp := by
  have e : ∀ v, fr t = v → fr.put t v = fr := fun v hv => by
    funext u
    simp only [Fr.put]
    split
    · rename_i hu; rw [hu]; exact hv.symm
    · rfl
  cases c
  · have := h2 rfl; rw [e _ hfr] at this; exact this
  · have := h1 rfl; rw [e _ hfr] at this; exact this
def nextI (I : Nat → Fr → AHeap → Prop) (n : Nat) : Fr → AHeap → Prop := fun fr H => ∃ n' H', n' < n ∧ AHeap.le H' H ∧ I n' fr H'
theorem loop_rule {c : XC} {Q : Exit → Fr → AHeap → Prop} (I : Nat → Fr → AHeap → Prop) (n : Nat) (h0 : I n fr H) (h : ∀ n fr H, I n fr H → sx P w0 c (thenK (nextI I n) Q) fr H) : sx P w0 (.loop c) Q fr H := ⟨I, n, h0, h⟩
theorem new_intro {D : Value → AHeap → Prop} {k : Blk} (h : ∀ b, H b = none → D (.pointer (some ⟨b, 0, none⟩)) (H.set b k)) : newK D H k := h
theorem row_intro {D : Value → AHeap → Prop} {k : Blk} {l c : Nat} (h : ∀ b, H b = none → D (.slice (some ⟨b, 0, none⟩) l c) (H.set b k)) : rowK D H k l c := h
theorem rows_intro {D : Value → AHeap → Prop} {t : TypeId} {l : Nat} {cs : List Value} (h : ∀ b, H b = none → D (.slice (some ⟨b, 0, none⟩) l l) (H.set b ⟨cs, true, t, cs.length⟩)) : rowsK D H t l cs := h
theorem le_refl_true (A : AHeap) : AHeap.le A A = True := eq_true (AHeap.le.refl A)
theorem le_set_true {A B : AHeap} {b : Nat} {k : Blk} (hb : A b = none) : AHeap.le A (B.set b k) = AHeap.le A B := propext ⟨fun h i x hx => by
    have : i ≠ b := by rintro rfl; rw [hb] at hx; cases hx
    obtain ⟨k1, h1, r⟩ := h i x hx
    exact ⟨k1, by simpa [AHeap.set, this] using h1, r⟩, fun h i x hx => by
    have : i ≠ b := by rintro rfl; rw [hb] at hx; cases hx
    obtain ⟨k1, h1, r⟩ := h i x hx
    exact ⟨k1, by simp [AHeap.set, this, h1], r⟩⟩
end
end Go.Proofs.Ytfjhjfddgdokgaa
