/- The statement FnExactCrewNew holds for all arguments; part 0 of the texts that show it. No further condition. -/
import Derived.Calls
import Derived.OrdersHeld
import Derived.Below
import Derived.Laws.Entries
import Derived.Laws.Cells
import Derived.Laws.AppendOwn
import Derived.Laws.MakeOwn
import Derived.Laws.CopyRow
import Derived.Eval
import Derived.Maps.AppendAt
import Derived.Deep.RegionHeld
import Derived.Deep.LoopGhost
import Derived.Laws.StructEq
import Derived.KernelRfl
import Derived.Test.YtfjhjfddgdokgaaProg
namespace Go.Proofs.Ytfjhjfddgdokgaa
set_option linter.all false
open Go Go.RowKit
/-- What is known of a block: its first cells; whether the call owns it (it may be written); its element type; how many cells it has. -/
structure Blk where
  cells : List Value
  own : Bool
  ty : TypeId
  cap : Nat
abbrev AHeap := Nat → Option Blk
def AHeap.cell (H : AHeap) : Option Addr → Option Value
  | some a => if a.spot.isSome then none else (H a.block).bind fun k => k.cells[a.off]?
  | none => none
def AHeap.set (H : AHeap) (b : Nat) (k : Blk) : AHeap := fun i => if i = b then some k else H i
def AHeap.del (H : AHeap) (b : Nat) : AHeap := fun i => if i = b then none else H i
/-- H' knows all that H knows. -/
def AHeap.le (H H' : AHeap) : Prop := ∀ (b : Nat) (k : Blk), H b = some k → ∃ k' : Blk, H' b = some k' ∧ k'.own = k.own ∧ k'.ty = k.ty ∧ k'.cap = k.cap ∧ ∀ (j : Nat) (v : Value), k.cells[j]? = some v → k'.cells[j]? = some v
theorem AHeap.le.refl (H : AHeap) : AHeap.le H H := fun _ k h => ⟨k, h, rfl, rfl, rfl, fun _ _ h => h⟩
theorem AHeap.le.trans {A B C : AHeap} (h : AHeap.le A B) (h' : AHeap.le B C) : AHeap.le A C := fun b k hk => by
  obtain ⟨k1, h1, o1, t1, c1, r1⟩ := h b k hk
  obtain ⟨k2, h2, o2, t2, c2, r2⟩ := h' b k1 h1
  exact ⟨k2, h2, o2.trans o1, t2.trans t1, c2.trans c1, fun j v hv => r2 j v (r1 j v hv)⟩
theorem AHeap.le.fresh {A B : AHeap} (h : AHeap.le A B) {b : Nat} (hb : B b = none) (k : Blk) : AHeap.le A (B.set b k) := fun i x hx => by
  obtain ⟨k1, h1, r⟩ := h i x hx
  have : i ≠ b := by rintro rfl; rw [hb] at h1; cases h1
  exact ⟨k1, by simp [AHeap.set, this, h1], r⟩
theorem AHeap.le.set {A B : AHeap} (h : AHeap.le A B) (b : Nat) (k : Blk) : AHeap.le (A.set b k) (B.set b k) := fun i x hx => by
  by_cases hi : i = b
  · subst hi
    simp only [AHeap.set, if_true] at hx ⊢
    obtain rfl := Option.some.inj hx
    exact ⟨k, rfl, rfl, rfl, rfl, fun _ _ h => h⟩
  · simp only [AHeap.set, hi, if_false] at hx ⊢
    exact h i x hx
theorem AHeap.le.del {A B : AHeap} (h : AHeap.le A B) {b : Nat} (hb : A b = none) : AHeap.le A (B.del b) := fun i x hx => by
  have : i ≠ b := by rintro rfl; rw [hb] at hx; cases hx
  obtain ⟨k1, h1, r⟩ := h i x hx
  exact ⟨k1, by simp [AHeap.del, this, h1], r⟩
theorem AHeap.del_le (H : AHeap) (b : Nat) : AHeap.le (H.del b) H := fun i x hx => by
  simp only [AHeap.del] at hx
  split at hx
  · cases hx
  · exact ⟨x, hx, rfl, rfl, rfl, fun _ _ h => h⟩
theorem AHeap.le.none {A B : AHeap} (h : AHeap.le A B) {b : Nat} (hb : B b = none) : A b = none := by
  cases hA : A b with
  | none => rfl
  | some k => obtain ⟨k', hk, _⟩ := h b k hA; rw [hb] at hk; cases hk
theorem AHeap.le.cell {A B : AHeap} (h : AHeap.le A B) {a : Option Addr} {v : Value} (ha : A.cell a = some v) : B.cell a = some v := by
  cases a with
  | none => cases ha
  | some a =>
    simp only [AHeap.cell] at ha ⊢
    split at ha
    · cases ha
    · rename_i hs
      rw [if_neg hs]
      cases hk : A a.block with
      | none => rw [hk] at ha; cases ha
      | some k =>
        rw [hk] at ha
        obtain ⟨k', hk', _, _, _, r⟩ := h _ _ hk
        rw [hk']
        exact r _ _ ha
/-- The world is as the abstract heap says; what stood when the law's call began is as it was. -/
structure Sat (w0 : World) (H : AHeap) (w : World) : Prop where
  below : Below w0.heap.size w0 w
  blk : ∀ (b : Nat) (k : Blk), H b = some k → ∃ (c : Array Value) (fz : Nat × Nat), w.heap[b]? = some (.cells c k.ty fz) ∧ c.size = k.cap ∧ (∀ (j : Nat) (v : Value), k.cells[j]? = some v → c[j]? = some v) ∧ (k.own = true → w0.heap.size ≤ b ∧ fz = (0, 0))
theorem Sat.mono {w0 w : World} {A B : AHeap} (h : Sat w0 B w) (hl : AHeap.le A B) : Sat w0 A w := ⟨h.below, fun b k hk => by
  obtain ⟨k', hk', ho, ht, hc, hr⟩ := hl b k hk
  obtain ⟨c, fz, h1, h2, h3, h4⟩ := h.blk b k' hk'
  exact ⟨c, fz, by rw [← ht]; exact h1, by rw [← hc]; exact h2, fun j v hv => h3 j v (hr j v hv), fun hown => h4 (by rw [ho]; exact hown)⟩⟩
theorem Sat.lt {w0 w : World} {H : AHeap} (h : Sat w0 H w) {b : Nat} {k : Blk} (hk : H b = some k) : b < w.heap.size := by
  obtain ⟨c, fz, h1, _⟩ := h.blk b k hk
  rcases Nat.lt_or_ge b w.heap.size with hlt | hge
  · exact hlt
  · rw [Array.getElem?_eq_none hge] at h1; cases h1
theorem Sat.fresh {w0 w : World} {H : AHeap} (h : Sat w0 H w) : H w.heap.size = none := by
  cases hk : H w.heap.size with
  | none => rfl
  | some k => exact absurd (h.lt hk) (Nat.lt_irrefl _)
theorem Sat.cell {w0 w : World} {H : AHeap} (h : Sat w0 H w) {a : Addr} {v : Value} (hc : H.cell (some a) = some v) : w.cell? a = some v := by
  simp only [AHeap.cell] at hc
  split at hc
  · cases hc
  · rename_i hs
    cases hk : H a.block with
    | none => rw [hk] at hc; cases hc
    | some k =>
      rw [hk] at hc
      obtain ⟨c, fz, h1, _, h3, _⟩ := h.blk _ _ hk
      simp only [World.cell?, h1, hs]
      exact h3 _ _ hc
theorem Sat.drew {w0 w : World} {H : AHeap} (h : Sat w0 H w) : Sat w0 H w.drew := ⟨h.below.drew, h.blk⟩
theorem Sat.alloc {w0 w : World} {H : AHeap} (h : Sat w0 H w) (cs : Array Value) (cells : List Value) (t : TypeId) (hc : ∀ (j : Nat) (v : Value), cells[j]? = some v → cs[j]? = some v) :
    Sat w0 (H.set w.heap.size ⟨cells, true, t, cs.size⟩) (w.alloc (.cells cs t)) := by
  refine ⟨h.below.alloc h.below.size _, fun b k hk => ?_⟩
  simp only [AHeap.set] at hk
  split at hk
  · rename_i hb
    obtain rfl := Option.some.inj hk
    subst hb
    exact ⟨cs, (0, 0), heap_alloc_new w _, rfl, hc, fun _ => ⟨h.below.size, rfl⟩⟩
  · have hlt := h.lt hk
    obtain ⟨c, fz, h1, r⟩ := h.blk b k hk
    exact ⟨c, fz, (Below.heap_alloc w _ b hlt).trans h1, r⟩
theorem Sat.setCell {w0 w : World} {H : AHeap} (h : Sat w0 H w) {b off : Nat} {k : Blk} (hk : H b = some k) (ho : k.own = true) (v : Value) :
    Sat w0 (H.set b { k with cells := k.cells.set off v }) (w.setCell ⟨b, off, none⟩ v) := by
  obtain ⟨c, fz, h1, h2, h3, h4⟩ := h.blk b k hk
  obtain ⟨hb, hfz⟩ := h4 ho
  refine ⟨h.below.setCell hb v, fun i x hx => ?_⟩
  simp only [AHeap.set] at hx
  split at hx
  · rename_i hi
    obtain rfl := Option.some.inj hx
    subst hi
    refine ⟨c.setIfInBounds off v, fz, by simp [World.setCell, Array.getElem?_modify, h1], by simpa using h2, fun j u hu => ?_, h4⟩
    simp only [List.getElem?_set] at hu
    split at hu
    · rename_i hj
      subst hj
      split at hu
      · rename_i hlt
        obtain rfl := Option.some.inj hu
        have := h3 off _ (List.getElem?_eq_getElem hlt)
        have hl : off < c.size := (Array.getElem?_eq_some_iff.1 this).1
        simp [hl]
      · cases hu
    · rename_i hj
      rw [Array.getElem?_setIfInBounds_ne hj]
      exact h3 j u hu
  · rename_i hi
    obtain ⟨c', fz', g1, r⟩ := h.blk i x hx
    exact ⟨c', fz', (Below.heap_setCell w _ v i hi).trans g1, r⟩
abbrev Fr := Nat → Value
def Fr.put (fr : Fr) (d : Nat) (v : Value) : Fr := fun t => if t = d then v else fr t
def Fr.ev (fr : Fr) : Operand → Value
  | .tmp t => fr t
  | .const v => v
  | .global g => .pointer (some ⟨g, 0, none⟩)
  | .func f => .func (.func f) #[] #[]
structure Sim (N : Nat) (fr : Fr) (a : Act) : Prop where
  size : a.tmps.size = N
  defers : a.defers = []
  at_ : ∀ t, a.tmps.getD t undef = fr t
theorem Sim.ev {N : Nat} {fr : Fr} {a : Act} (h : Sim N fr a) : a.eval = fr.ev := by
  funext x
  cases x with
  | tmp t => exact h.at_ t
  | _ => rfl
theorem Sim.put {N : Nat} {fr : Fr} {a : Act} (h : Sim N fr a) {d : Nat} (hd : d < N) (v : Value) : Sim N (fr.put d v) (a.put (some d) v) := by
  refine ⟨by simp [Act.put, h.size], h.defers, fun t => ?_⟩
  simp only [Act.put, Fr.put]
  have hs : d < a.tmps.size := by rw [h.size]; exact hd
  by_cases ht : t = d
  · subst ht; simp [hs]
  · rw [if_neg ht, ← h.at_ t]
    simp [Array.getElem?_setIfInBounds_ne (fun e => ht e.symm)]
end Go.Proofs.Ytfjhjfddgdokgaa
namespace Go.Proofs.Ytfjhjfddgdokgaa
set_option linter.all false
open Go Go.RowKit
inductive X where
  | mov (x : Operand)
  | pick (c a b : Operand)
  | new (z : List Value) (t : TypeId)
  | box (t : TypeId) (x : Operand)
  | agg (z : List Value) (ps : List (Nat × Nat × Operand))
  | lit (z : List Value) (t : TypeId) (len : Nat) (ps : List (Nat × Nat × Operand))
  | ld (x : Operand)
  | ldn (n : Nat) (x : Operand)
  | st (n : Nat) (a x : Operand)
  | fld (off : Nat) (x : Operand)
  | idx (size : Nat) (x i : Operand)
  | ida (len size : Nat) (x i : Operand)
  | bin (op : BinOp) (x y : Operand)
  | eqb (neg : Bool) (x y : Operand)
  | eqs (neg : Bool) (t : TypeId) (x y : Operand)
  | nils (neg : Bool) (x y : Operand)
  | not (x : Operand)
  | neg (x : Operand)
  | cnv (k : IntKind) (x : Operand)
  | mks (z : List Value) (t : TypeId) (bytes : Nat) (l c : Operand)
  | slc (size : Nat) (x : Operand) (lo hi mx : Option Operand)
  | sla (len size : Nat) (x : Operand) (lo hi mx : Option Operand)
  | prt (off : Nat) (n : Option Nat) (x : Operand)
  | ixv (len size : Nat) (n : Option Nat) (x i : Operand)
  | ext (i : Nat) (x : Operand)
  | call (f : Operand) (args : List Operand)
  | len (x : Operand)
  | lena (n : Nat)
  | app (z : List Value) (t : TypeId) (bytes : Nat) (s x : Operand)
  | max (x y : Operand)
  | min (x y : Operand)
  | mkf (fn : Fn) (first captured : List Operand)
  | nilc (x : Operand)
def aggB (P : Program) (t : TypeId) : Option Bool := (P.underlying t).map fun | .struct _ => true | .array _ _ => true | _ => false
def sizeB (P : Program) (t : TypeId) : Option Nat := (P.info? t).map (·.size)
/-- One cell, or a row of cells: how many. -/
def partB (P : Program) (t : TypeId) : Option (Option Nat) := match aggB P t, sizeB P t with
  | some true, some n => some (some n)
  | some false, some _ => some none
  | _, _ => none
def zeroB (P : Program) (t : TypeId) : Option (List Value) := match P.info? t with
  | some i => i.zero.map (·.cells.toList)
  | none => none
def X.of (P : Program) : Op → Option X
  | .move x => some (.mov x)
  | .assign x => some (.mov x)
  | .pick c a b => some (.pick c a b)
  | .alloc t => (zeroB P t).map fun z => .new z t
  | .box t x => some (.box t x)
  | .build t parts => match P.underlying t, zeroB P t with
    | some (.struct fs), some z => if fs.all (fun f => (sizeB P f.type).isSome) then
        (parts.toList.mapM fun (p : Nat × Operand) => match fs[p.1]? with
          | some f => (sizeB P f.type).map fun n => (f.offset, n, p.2)
          | none => none).map fun ps => .agg z ps
      else none
    | some (.array _ e), some z => (sizeB P e).map fun n => .agg z (parts.toList.map fun p => (p.1 * n, n, p.2))
    | _, _ => none
  | .buildSlice t ln parts => match P.underlying t with
    | some (.slice e) => match sizeB P e, zeroB P e with
      | some n, some z => if ln * n ≤ 16777216 then some (.lit (madeCells z.toArray (ln * n)).toList e ln (parts.toList.map fun p => (p.1 * n, n, p.2))) else none
      | _, _ => none
    | _ => none
  | .load t a => (partB P t).map fun | some n => .ldn n a | none => .ld a
  | .store t a x => (sizeB P t).map fun n => .st n a x
  | .fieldAddr t x f => match P.underlying t with
    | some (.struct fs) => match fs[f]? with
      | some fd => match sizeB P fd.type with
        | some (_ + 1) => some (.fld fd.offset x)
        | _ => none
      | none => none
    | _ => none
  | .indexAddr t x i => match P.underlying t with
    | some (.slice e) => (sizeB P e).map fun n => .idx n x i
    | some (.array l e) => (sizeB P e).map fun n => .ida l n x i
    | _ => none
  | .binOp op t x y _ => match P.underlying t with
    | some (.int _) => some (.bin op x y)
    | some .bool => match op with
      | .eql => some (.eqb false x y)
      | .neq => some (.eqb true x y)
      | _ => none
    | some (.slice _) => match op with
      | .eql => some (.nils false x y)
      | .neq => some (.nils true x y)
      | _ => none
    | some (.struct _) => match op with
      | .eql => some (.eqs false t x y)
      | .neq => some (.eqs true t x y)
      | _ => none
    | some (.array _ _) => match op with
      | .eql => some (.eqs false t x y)
      | .neq => some (.eqs true t x y)
      | _ => none
    | _ => none
  | .unOp .not _ x => some (.not x)
  | .unOp .neg _ x => some (.neg x)
  | .convert src dst x => match P.underlying src, P.underlying dst with
    | some (.int _), some (.int k) => some (.cnv k x)
    | _, _ => none
  | .makeSlice t l c => match P.underlying t with
    | some (.slice e) => match P.info? e, zeroB P e with
      | some i, some z => if i.size = z.length then some (.mks z e i.bytes l c) else none
      | _, _ => none
    | _ => none
  | .slice t x lo hi mx => match P.underlying t with
    | some (.slice e) => (sizeB P e).map fun n => .slc n x lo hi mx
    | some (.array l e) => (sizeB P e).map fun n => .sla l n x lo hi mx
    | _ => none
  | .field t x f => match P.underlying t with
    | some (.struct fs) => match fs[f]? with
      | some fd => (partB P fd.type).map fun n => .prt fd.offset n x
      | none => none
    | _ => none
  | .index t x i => match P.underlying t with
    | some (.array l e) => match sizeB P e, partB P e with
      | some n, some p => some (.ixv l n p x i)
      | _, _ => none
    | _ => none
  | .extract x i => some (.ext i x)
  | .makeFunc fn a b => some (.mkf fn a.toList b.toList)
  | .nilCheck x => some (.nilc x)
  | .call c => match c.callee with
    | .value f => some (.call f c.args.toList)
    | .builtin .len => match c.argTypes.toList, c.args.toList with
      | [t], [x] => match P.underlying t with
        | some (.slice _) => some (.len x)
        | some (.array n _) => some (.lena n)
        | _ => none
      | _, _ => none
    | .builtin .append => match c.argTypes.toList, c.args.toList with
      | [t, u], [s, x] => if t = u then match P.underlying t with
          | some (.slice e) => match P.info? e, zeroB P e with
            | some i, some z => if i.size = z.length ∧ 0 < i.size then some (.app z e i.bytes s x) else none
            | _, _ => none
          | _ => none
        else none
      | _, _ => none
    | .builtin .max => match c.args.toList with
      | [x, y] => some (.max x y)
      | _ => none
    | .builtin .min => match c.args.toList with
      | [x, y] => some (.min x y)
      | _ => none
    | _ => none
  | _ => none
def adr (a : Option Addr) (n : Nat) : Option Addr := a.map (·.add n)
theorem Addr.add_add (a : Addr) (m n : Nat) : (a.add m).add n = a.add (m + n) := by
  unfold Addr.add
  by_cases hm : m = 0 <;> by_cases hn : n = 0 <;> simp [hm, hn, Nat.add_assoc]
theorem adr_adr (a : Option Addr) (m n : Nat) : adr (adr a m) n = adr a (m + n) := by
  cases a <;> simp [adr, Addr.add_add]
theorem adr_zero (a : Option Addr) : adr a 0 = a := by cases a <;> simp [adr, Addr.add]
theorem adr_lit (b o n : Nat) : adr (some ⟨b, o, none⟩) n = some ⟨b, o + n, none⟩ := by simp [adr, Addr.add_lit]
theorem adr_some (a : Option Addr) (n : Nat) : (adr a n).isSome = a.isSome := by cases a <;> rfl
def AHeap.rdn (H : AHeap) (a : Option Addr) : Nat → Option (List Value)
  | 0 => some []
  | n + 1 => match H.cell a with
    | some v => (AHeap.rdn H (adr a 1) n).map (v :: ·)
    | none => none
theorem rdn_length {H : AHeap} : ∀ {n : Nat} {a : Option Addr} {l : List Value}, H.rdn a n = some l → l.length = n
  | 0, _, l, h => by obtain rfl := Option.some.inj h; rfl
  | n + 1, a, l, h => by
    simp only [AHeap.rdn] at h
    split at h
    · obtain ⟨l', hl, rfl⟩ := Option.map_eq_some_iff.1 h
      simp [rdn_length hl]
    · cases h
theorem rdn_cell {H : AHeap} : ∀ {n : Nat} {a : Option Addr} {l : List Value}, H.rdn a n = some l → ∀ (j : Nat) (v : Value), l[j]? = some v → H.cell (adr a j) = some v
  | 0, _, l, h => by obtain rfl := Option.some.inj h; intro j v hv; simp at hv
  | n + 1, a, l, h => by
    simp only [AHeap.rdn] at h
    split at h
    · rename_i u hu
      obtain ⟨l', hl, rfl⟩ := Option.map_eq_some_iff.1 h
      intro j v hv
      cases j with
      | zero => rw [adr_zero]; simp at hv; rw [← hv]; exact hu
      | succ j => have := rdn_cell hl j v (by simpa using hv); rw [adr_adr, Nat.add_comm] at this; exact this
    · cases h
theorem rdn_of {H : AHeap} : ∀ {n : Nat} {a : Option Addr} {l : List Value}, l.length = n → (∀ (j : Nat) (v : Value), l[j]? = some v → H.cell (adr a j) = some v) → H.rdn a n = some l
  | 0, _, l, h, _ => by obtain rfl := List.eq_nil_of_length_eq_zero h; rfl
  | n + 1, a, [], h, _ => by simp at h
  | n + 1, a, v :: l, h, hc => by
    have h0 := hc 0 v rfl
    rw [adr_zero] at h0
    simp only [AHeap.rdn, h0]
    rw [rdn_of (l := l) (by simpa using h) (fun j u hu => by rw [adr_adr, Nat.add_comm]; exact hc (j + 1) u (by simpa using hu))]
    rfl
theorem AHeap.le.rdn {A B : AHeap} (h : AHeap.le A B) {a : Option Addr} {n : Nat} {l : List Value} (hl : A.rdn a n = some l) : B.rdn a n = some l :=
  rdn_of (rdn_length hl) fun j v hv => h.cell (rdn_cell hl j v hv)
def setR (cells : List Value) (off : Nat) : List Value → List Value
  | [] => cells
  | v :: r => setR (cells.set off v) (off + 1) r
def fillL (cells : List Value) : List (Nat × Nat × Value) → Option (List Value)
  | [] => some cells
  | (off, size, v) :: r => if v.cells.size = size ∧ off + size ≤ cells.length then fillL (setR cells off v.cells.toList) r else none
def binv (op : BinOp) (k : IntKind) (a b : Int) : Option Value := match op with
  | .add => some (.int k (k.wrap (a + b)))
  | .sub => some (.int k (k.wrap (a - b)))
  | .mul => some (.int k (k.wrap (a * b)))
  | .quo => if b = 0 then none else some (.int k (k.wrap (a.tdiv b)))
  | .rem => if b = 0 then none else some (.int k (a.tmod b))
  | .and => some (.int k (bits .and k a b))
  | .or => some (.int k (bits .or k a b))
  | .xor => some (.int k (bits .xor k a b))
  | .andNot => some (.int k (bits .andNot k a b))
  | .eql => some (.bool (a == b))
  | .neq => some (.bool (a != b))
  | .lss => some (.bool (decide (a < b)))
  | .leq => some (.bool (decide (a ≤ b)))
  | .gtr => some (.bool (decide (a > b)))
  | .geq => some (.bool (decide (a ≥ b)))
  | .shl => if b < 0 then none else some (.int k (k.wrap (a * 2 ^ (Nat.min b.toNat k.bits))))
  | .shr => if b < 0 then none else some (.int k (a.fdiv (2 ^ (Nat.min b.toNat k.bits))))
def bndv (y : Nat) : Option Value → (dflt : Nat) → Option Nat
  | some (.int _ i), _ => if 0 ≤ i ∧ i ≤ y then some i.toNat else none
  | some _, _ => none
  | none, d => some d
/-- The bounds of a slice expression: low, high, max. -/
def bnds (len cap : Nat) (lo hi mx : Option Value) : Option (Nat × Nat × Nat) :=
  match bndv cap mx cap with
  | none => none
  | some m => match hi, mx with
    | none, some _ => none
    | _, _ => match bndv m hi len with
      | none => none
      | some h => match bndv h lo 0 with
        | none => none
        | some l => some (l, h, m)
def prtv (off : Nat) (n : Option Nat) (cs : List Value) : Option Value := match n with
  | none => cs[off]?
  | some n => some (.agg ((cs.drop off).take n).toArray)
/-- What an instruction yields that writes nothing and calls nothing. -/
def X.val (ρ : Operand → Value) (H : AHeap) : X → Option Value
  | .mov x => some (ρ x)
  | .pick c a b => match ρ c with
    | .bool t => some (if t then ρ a else ρ b)
    | _ => none
  | .agg z ps => (fillL z (ps.map fun p => (p.1, p.2.1, ρ p.2.2))).map fun cs => .agg cs.toArray
  | .ld x => match ρ x with
    | .pointer a => H.cell a
    | _ => none
  | .ldn n x => match ρ x with
    | .pointer (some a) => (H.rdn (some a) n).map fun cs => .agg cs.toArray
    | .pointer a => if a.isSome then (H.rdn a n).map fun cs => .agg cs.toArray else none
    | _ => none
  | .fld off x => match ρ x with
    | .pointer a => if a.isSome then some (.pointer (adr a off)) else none
    | _ => none
  | .idx size x i => match ρ x, ρ i with
    | .slice a n _, .int _ i => if 0 ≤ i ∧ i < n then (if a.isSome then some (.pointer (adr a (i.toNat * size))) else none) else none
    | _, _ => none
  | .ida ln size x i => match ρ x, ρ i with
    | .pointer a, .int _ i => if 0 ≤ i ∧ i < ln then (if a.isSome then some (.pointer (adr a (i.toNat * size))) else none) else none
    | _, _ => none
  | .bin op x y => match ρ x, ρ y with
    | .int k a, .int k' b => match op with
      | .shl => binv .shl k a b
      | .shr => binv .shr k a b
      | op => if k = k' then binv op k a b else none
    | _, _ => none
  | .eqb ng x y => match ρ x, ρ y with
    | .bool a, .bool b => some (.bool (if ng then a != b else a == b))
    | _, _ => none
  | .nils ng x y => match ρ x, ρ y with
    | .slice none _ _, .slice b _ _ => some (.bool (ng != b.isNone))
    | .slice (some _) _ _, .slice none _ _ => some (.bool ng)
    | _, _ => none
  | .not x => match ρ x with
    | .bool b => some (.bool (!b))
    | _ => none
  | .neg x => match ρ x with
    | .int k n => some (.int k (k.wrap (0 - n)))
    | _ => none
  | .cnv k x => match ρ x with
    | .int _ n => some (.int k (k.wrap n))
    | _ => none
  | .slc size x lo hi mx => match ρ x with
    | .slice a ln cap => (bnds ln cap (lo.map ρ) (hi.map ρ) (mx.map ρ)).map fun b => .slice (if b.2.2 = b.1 then a else adr a (b.1 * size)) (b.2.1 - b.1) (b.2.2 - b.1)
    | _ => none
  | .sla ln size x lo hi mx => match ρ x with
    | .pointer (some a) => (bnds ln ln (lo.map ρ) (hi.map ρ) (mx.map ρ)).map fun b => .slice (if b.2.2 = b.1 then some a else adr (some a) (b.1 * size)) (b.2.1 - b.1) (b.2.2 - b.1)
    | _ => none
  | .prt off n x => match ρ x with
    | .agg cs => prtv off n cs.toList
    | _ => none
  | .ixv ln size n x i => match ρ x, ρ i with
    | .agg cs, .int _ i => if 0 ≤ i ∧ i < ln then prtv (i.toNat * size) n cs.toList else none
    | _, _ => none
  | .ext i x => match ρ x with
    | .tuple vs => vs.toList[i]?
    | _ => none
  | .len x => match ρ x with
    | .slice _ n _ => some (.int .i64 n)
    | _ => none
  | .lena n => some (.int .i64 n)
  | .max x y => match ρ x, ρ y with
    | .int k a, .int _ b => some (.int k (if b > a then b else a))
    | _, _ => none
  | .min x y => match ρ x, ρ y with
    | .int k a, .int _ b => some (.int k (if b < a then b else a))
    | _, _ => none
  | .mkf fn first captured => some (.func fn (first.map ρ).toArray (captured.map ρ).toArray)
  | .nilc x => match ρ x with
    | .pointer a => if a.isSome then some (.pointer a) else none
    | .func (.func f) first captured => some (.func (.func f) first captured)
    | _ => none
  | _ => none
end Go.Proofs.Ytfjhjfddgdokgaa
namespace Go.Proofs.Ytfjhjfddgdokgaa
set_option linter.all false
open Go Go.RowKit
set_option linter.unusedSimpArgs false
theorem run_size {P : Program} {t : TypeId} {n : Nat} (h : sizeB P t = some n) (w : World) : (sizeOf t).run P w = .ok n w := by
  unfold sizeB at h
  cases hi : P.info? t with
  | none => rw [hi] at h; cases h
  | some i => rw [hi] at h; obtain rfl := Option.some.inj h; simp [sizeOf, typeInfo, hi]
theorem run_zero {P : Program} {t : TypeId} {z : List Value} (h : zeroB P t = some z) (w : World) : ∃ zv : Value, zv.cells.toList = z ∧ (zeroValue t).run P w = .ok zv w := by
  unfold zeroB at h
  cases hi : P.info? t with
  | none => rw [hi] at h; cases h
  | some i =>
    rw [hi] at h
    obtain ⟨zv, hz, rfl⟩ := Option.map_eq_some_iff.1 h
    exact ⟨zv, rfl, by simp [zeroValue, typeInfo, hi, hz]⟩
theorem run_isAgg {P : Program} {t : TypeId} {b : Bool} (h : aggB P t = some b) (w : World) : (isAgg t).run P w = .ok b w := by
  unfold aggB at h
  cases hd : P.underlying t with
  | none => rw [hd] at h; cases h
  | some d =>
    rw [hd] at h
    simp only [Option.map_some, Option.some.injEq] at h
    simp only [isAgg, Sem.run_bind, run_underlying hd, Result.andThen_ok]
    cases d <;> simp_all
theorem cells_load {w0 w : World} {H : AHeap} {P : Program} (hs : Sat w0 H w) {a : Addr} {n : Nat} {l : List Value} (h : H.rdn (some a) n = some l) :
    (loadCells a n).run P w = .ok l.toArray w := by
  have hl := rdn_length h
  rw [← hl]
  refine run_loadCells_list w a l fun j v hv => ?_
  have := rdn_cell h j v hv
  exact hs.cell this
section
variable {P : Program} {w0 w : World} {H : AHeap} {ρ : Operand → Value}
theorem fold_setR : ∀ (vs : List Value) (k off : Nat) (cs : Array Value),
    ((vs.zipIdx k).foldl (fun (cs : Array Value) (p : Value × Nat) => cs.setIfInBounds (off + p.2) p.1) cs).toList = setR cs.toList (off + k) vs
  | [], _, _, _ => rfl
  | v :: r, k, off, cs => by
    simp only [List.zipIdx_cons, List.foldl_cons, setR]
    rw [fold_setR r (k + 1) off]
    simp [Array.toList_setIfInBounds, Nat.add_assoc]
theorem fold_arr (vs : Array Value) (off : Nat) (cs : Array Value) :
    (vs.zipIdx.foldl (fun (cs : Array Value) (p : Value × Nat) => cs.setIfInBounds (off + p.2) p.1) cs).toList = setR cs.toList off vs.toList := by
  have h := fold_setR vs.toList 0 off cs
  rw [← Array.foldl_toList]
  simpa using h
theorem fill_eq (place : Nat → Option (Nat × Nat)) : ∀ (parts : List (Nat × Value)) (qs : List (Nat × Nat × Value)) (cells : Array Value) (r : List Value),
    (List.length parts = List.length qs) → (∀ (i : Nat) (p : Nat × Value) (q : Nat × Nat × Value), parts[i]? = some p → qs[i]? = some q → place p.1 = some (q.1, q.2.1) ∧ p.2 = q.2.2) →
    fillL cells.toList qs = some r → Instr.fill place cells parts = some r.toArray
  | [], [], cells, r, _, _, h => by
    obtain rfl := Option.some.inj h
    simp [Instr.fill]
  | [], q :: qs, _, _, hl, _, _ => by simp at hl
  | p :: ps, [], _, _, hl, _, _ => by simp at hl
  | p :: ps, q :: qs, cells, r, hl, hp, h => by
    obtain ⟨h1, h2⟩ := hp 0 p q rfl rfl
    obtain ⟨i, v⟩ := p
    obtain ⟨off, size, u⟩ := q
    simp only at h1 h2
    subst h2
    simp only [fillL] at h
    split at h
    · rename_i hc
      obtain ⟨c1, c2⟩ := hc
      simp only [Instr.fill, h1]
      have hno : ¬ ((v.cells.size ≠ size || decide (off + v.cells.size > cells.size)) = true) := by
        simp only [Array.length_toList] at c2
        simp [c1]; omega
      rw [if_neg hno]
      refine fill_eq place ps qs _ r (by simpa using hl) (fun j x y hx hy => hp (j + 1) x y (by simpa using hx) (by simpa using hy)) ?_
      rw [fold_arr]
      exact h
    · cases h
theorem sb_run {v : Value} {y d r : Nat} (code : BoundsCode) (h : bndv y (some v) d = some r) : (Instr.sliceBound v y code).run P w = .ok r w := by
  cases v <;> simp only [bndv] at h <;> first | (cases h; done) | skip
  rename_i k i
  split at h
  · rename_i hi
    obtain rfl := Option.some.inj h
    simp [Instr.sliceBound, asIntOf, hi]
  · cases h
theorem bnds_run {ln cap l h m : Nat} {lo hi mx : Option Value} (isSlice : Bool) (hb : bnds ln cap lo hi mx = some (l, h, m)) :
    (Instr.sliceBounds isSlice ln cap lo hi mx).run P w = .ok (l, h, m) w := by
  unfold bnds at hb
  cases hm : bndv cap mx cap with
  | none => rw [hm] at hb; cases hb
  | some m' =>
    rw [hm] at hb
    cases hi with
    | none =>
      cases mx with
      | some _ => cases hb
      | none =>
        change (match bndv ln lo 0 with | none => none | some x => some (x, ln, m')) = _ at hb
        obtain rfl := Option.some.inj hm
        cases hl : bndv ln lo 0 with
        | none => rw [hl] at hb; cases hb
        | some l' =>
          rw [hl] at hb
          simp only [Option.some.injEq, Prod.mk.injEq] at hb
          obtain ⟨rfl, rfl, rfl⟩ := hb
          cases lo with
          | none => obtain rfl := Option.some.inj hl; simp [Instr.sliceBounds]
          | some lv => simp [Instr.sliceBounds, sb_run _ hl]
    | some hv =>
      change (match bndv m' (some hv) ln with | none => none | some h => match bndv h lo 0 with | none => none | some l => some (l, h, m')) = _ at hb
      cases hh : bndv m' (some hv) ln with
      | none => rw [hh] at hb; cases hb
      | some h' =>
        rw [hh] at hb
        simp only at hb
        cases hl : bndv h' lo 0 with
        | none => rw [hl] at hb; cases hb
        | some l' =>
          rw [hl] at hb
          simp only [Option.some.injEq, Prod.mk.injEq] at hb
          obtain ⟨rfl, rfl, rfl⟩ := hb
          cases mx with
          | none =>
            obtain rfl := Option.some.inj hm
            cases lo with
            | none => obtain rfl := Option.some.inj hl; simp [Instr.sliceBounds, sb_run _ hh]
            | some lv => simp [Instr.sliceBounds, sb_run _ hh, sb_run _ hl]
          | some mv =>
            cases lo with
            | none => obtain rfl := Option.some.inj hl; simp [Instr.sliceBounds, sb_run _ hm, sb_run _ hh]
            | some lv => simp [Instr.sliceBounds, sb_run _ hm, sb_run _ hh, sb_run _ hl]
end
end Go.Proofs.Ytfjhjfddgdokgaa
namespace Go.Proofs.Ytfjhjfddgdokgaa
set_option linter.all false
open Go Go.RowKit
set_option linter.unusedSimpArgs false
section
variable {P : Program} {w0 w : World} {H : AHeap} {ρ : Operand → Value}
theorem bin_sound {op : BinOp} {t : TypeId} {x y : Operand} {v : Value} (h : (X.bin op x y).val ρ H = some v) :
    (do eqGuard op t x y (ρ x) (ρ y); binOp op t (ρ x) (ρ y) : Sem Value).run P w = .ok v w := by
  simp only [X.val] at h
  generalize ρ x = a at h ⊢
  generalize ρ y = b at h ⊢
  cases a <;> cases b <;> first | (cases h; done) | skip
  rename_i k m k' n
  simp only [eqGuard_at_int, Sem.run_bind, Sem.run_pure, Result.andThen_ok]
  cases op <;> simp only [binv] at h <;> first
    | (split at h
       · rename_i hk
         subst hk
         first
         | (obtain rfl := Option.some.inj h
            simp [go_sem, Op.intArith])
         | (split at h
            · cases h
            · rename_i hb
              obtain rfl := Option.some.inj h
              simp [go_sem, Op.intDiv, hb])
       · cases h)
    | (split at h
       · cases h
       · rename_i hb
         obtain rfl := Option.some.inj h
         have : ¬ n < 0 := hb
         simp [binOp, Op.shift, this, Nat.min_def, Nat.min]
         try rfl)
theorem equal_bool {t : TypeId} (ht : P.underlying t = some .bool) (a b : Bool) (d : Nat) : (Op.equalIn (d + 1) t (.bool a) (.bool b)).run P w = .ok (a == b) w := by
  simp only [Op.equalIn, Sem.run_bind, run_underlying ht, Result.andThen_ok, Sem.run_pure]
theorem eqb_sound {ng : Bool} {t : TypeId} {x y : Operand} {v : Value} (ht : P.underlying t = some .bool) (h : (X.eqb ng x y).val ρ H = some v) :
    (do eqGuard (if ng then .neq else .eql) t x y (ρ x) (ρ y); binOp (if ng then .neq else .eql) t (ρ x) (ρ y) : Sem Value).run P w = .ok v w := by
  simp only [X.val] at h
  generalize ρ x = a at h ⊢
  generalize ρ y = b at h ⊢
  cases a <;> cases b <;> first | (cases h; done) | skip
  rename_i p q
  obtain rfl := Option.some.inj h
  have he : ∀ (d : Nat), (Op.equalIn (d + 1) t (.bool p) (.bool q)).run P w = .ok (p == q) w := equal_bool ht p q
  have he' : (Op.equal t (.bool p) (.bool q)).run P w = .ok (p == q) w := he 9999
  cases ng
  · simp only [eqGuard_at_bool, Sem.run_bind, Sem.run_pure, Result.andThen_ok, Bool.false_eq_true, if_false, binOp, he']
  · simp only [eqGuard_at_bool, Sem.run_bind, Sem.run_pure, Result.andThen_ok, if_true, binOp, he']
    rfl
theorem equal_slice {t e : TypeId} (ht : P.underlying t = some (.slice e)) (b : Option Addr) (n c n' c' d : Nat) : (Op.equalIn (d + 1) t (.slice none n c) (.slice b n' c')).run P w = .ok b.isNone w := by
  simp only [Op.equalIn, Sem.run_bind, run_underlying ht, Result.andThen_ok, Sem.run_pure]
theorem equal_slice' {t e : TypeId} (ht : P.underlying t = some (.slice e)) (a : Addr) (n c n' c' d : Nat) : (Op.equalIn (d + 1) t (.slice (some a) n c) (.slice none n' c')).run P w = .ok false w := by
  simp only [Op.equalIn, Sem.run_bind, run_underlying ht, Result.andThen_ok, Sem.run_pure]
theorem nils_sound {ng : Bool} {t e : TypeId} {x y : Operand} {v : Value} (ht : P.underlying t = some (.slice e)) (h : (X.nils ng x y).val ρ H = some v) :
    (do eqGuard (if ng then .neq else .eql) t x y (ρ x) (ρ y); binOp (if ng then .neq else .eql) t (ρ x) (ρ y) : Sem Value).run P w = .ok v w := by
  simp only [X.val] at h
  generalize ρ x = a at h ⊢
  generalize ρ y = b at h ⊢
  split at h
  · rename_i n c b n' c'
    obtain rfl := Option.some.inj h
    have he' : (Op.equal t (.slice none n c) (.slice b n' c')).run P w = .ok b.isNone w := equal_slice ht b n c n' c' 9999
    cases ng
    · simp only [eqGuard_at_slice, Sem.run_bind, Sem.run_pure, Result.andThen_ok, Bool.false_eq_true, if_false, binOp, he']
      cases b <;> rfl
    · simp only [eqGuard_at_slice, Sem.run_bind, Sem.run_pure, Result.andThen_ok, if_true, binOp, he']
      cases b <;> rfl
  · rename_i a n c n' c'
    obtain rfl := Option.some.inj h
    have he' : (Op.equal t (.slice (some a) n c) (.slice none n' c')).run P w = .ok false w := equal_slice' ht a n c n' c' 9999
    cases ng
    · simp only [eqGuard_at_slice, Sem.run_bind, Sem.run_pure, Result.andThen_ok, Bool.false_eq_true, if_false, binOp, he']
    · simp only [eqGuard_at_slice, Sem.run_bind, Sem.run_pure, Result.andThen_ok, if_true, binOp, he']
      rfl
  · cases h
theorem mapM_length {α β : Type} {f : α → Option β} : ∀ {l : List α} {r : List β}, l.mapM f = some r → r.length = l.length
  | [], r, h => by simp at h; subst h; rfl
  | a :: l, r, h => by
    simp only [List.mapM_cons, Option.bind_eq_bind, Option.bind_eq_some_iff] at h
    obtain ⟨b, _, r', hr, h⟩ := h
    obtain rfl := Option.some.inj h
    simp [mapM_length hr]
theorem mapM_at {α β : Type} {f : α → Option β} : ∀ {l : List α} {r : List β}, l.mapM f = some r → ∀ (i : Nat) (a : α) (b : β), l[i]? = some a → r[i]? = some b → f a = some b
  | [], r, h => by simp
  | a :: l, r, h => by
    simp only [List.mapM_cons, Option.bind_eq_bind, Option.bind_eq_some_iff] at h
    obtain ⟨b, hb, r', hr, h⟩ := h
    obtain rfl := Option.some.inj h
    intro i x y hx hy
    cases i with
    | zero => simp at hx hy; subst hx hy; exact hb
    | succ i => exact mapM_at hr i x y (by simpa using hx) (by simpa using hy)
theorem listM_run {α β : Type} {f : α → Sem β} {g : α → Option β} (hg : ∀ a b, g a = some b → (f a).run P w = .ok b w) :
    ∀ (l : List α) (acc : List β), (∀ a ∈ l, (g a).isSome = true) → ∃ r : List β, r = l.filterMap g ∧ (List.mapM.loop f l acc).run P w = .ok (acc.reverse ++ r) w
  | [], acc, _ => ⟨[], rfl, by simp [List.mapM.loop]⟩
  | a :: l, acc, h => by
    obtain ⟨b, hb⟩ := Option.isSome_iff_exists.1 (h a (by simp))
    obtain ⟨r, hr, hrun⟩ := listM_run hg l (b :: acc) (fun x hx => h x (by simp [hx]))
    refine ⟨b :: r, by simp [hb, hr], ?_⟩
    simp only [List.mapM.loop, Sem.run_bind, hg a b hb, Result.andThen_ok, hrun]
    simp
theorem filterMap_get {α β : Type} {g : α → Option β} : ∀ (l : List α), (∀ a ∈ l, (g a).isSome = true) → ∀ i : Nat, (l.filterMap g)[i]? = (l[i]?).bind g
  | [], _, i => by simp
  | a :: l, h, i => by
    obtain ⟨b, hb⟩ := Option.isSome_iff_exists.1 (h a (by simp))
    have ih := filterMap_get l (fun x hx => h x (by simp [hx]))
    rw [List.filterMap_cons, hb]
    cases i with
    | zero => simp [hb]
    | succ i => simpa using ih i
theorem places_run {fs : Array Field} (hall : fs.all (fun f => (sizeB P f.type).isSome) = true) :
    ∃ pl : Array (Nat × Nat), (∀ i : Nat, pl[i]? = (fs[i]?).bind fun f => (sizeB P f.type).map fun n => (f.offset, n)) ∧
      (fs.mapM fun f => do pure (f.offset, ← sizeOf f.type) : Sem (Array (Nat × Nat))).run P w = .ok pl w := by
  have hall' : ∀ f ∈ fs.toList, ((sizeB P f.type).map fun n => (f.offset, n)).isSome = true := by
    intro f hf
    rw [Array.all_eq_true_iff_forall_mem] at hall
    simpa using hall f (by simpa using hf)
  obtain ⟨r, hr, hrun⟩ := listM_run (P := P) (w := w) (f := fun f : Field => do pure (f.offset, ← sizeOf f.type)) (g := fun f : Field => (sizeB P f.type).map fun n => (f.offset, n))
    (fun a b h => by
      obtain ⟨n, hn, rfl⟩ := Option.map_eq_some_iff.1 h
      simp only [Sem.run_bind, run_size hn, Result.andThen_ok, Sem.run_pure]) fs.toList [] hall'
  refine ⟨r.toArray, fun i => ?_, ?_⟩
  · rw [List.getElem?_toArray, hr, filterMap_get _ hall', Array.getElem?_toList]
  · rw [← Array.toArray_toList (xs := fs), List.mapM_toArray]
    simp only [List.mapM, Sem.run_map, hrun, Result.andThen_ok]
    simp
theorem part_run {t : TypeId} {p : Option Nat} {cs : Array Value} {off : Nat} {v : Value} (hp : partB P t = some p) (hv : prtv off p cs.toList = some v) : (part t cs off).run P w = .ok v w := by
  unfold partB at hp
  split at hp
  · rename_i n ha hn
    obtain rfl := Option.some.inj hp
    obtain rfl := Option.some.inj hv
    simp only [part, Sem.run_bind, run_isAgg ha, Result.andThen_ok, if_true, run_size hn, Sem.run_pure]
    congr 3
    apply Array.toList_inj.1
    simp [Array.toList_extract]
  · rename_i n ha hn
    obtain rfl := Option.some.inj hp
    simp only [prtv, Array.getElem?_toList] at hv
    simp only [part, Sem.run_bind, run_isAgg ha, Result.andThen_ok, Bool.false_eq_true, if_false, hv, Sem.run_pure]
  · cases hp
theorem val_sound {o : Oper} {x : X} {v : Value} (hx : X.of P o.op = some x) (hv : x.val ρ H = some v) (hs : Sat w0 H w) : (execOp ρ o).run P w = .ok (.value v) w := by
  obtain ⟨dst, op, ty, pos, after, guard⟩ := o
  simp only at hx
  cases op
  case move x' => obtain rfl := Option.some.inj hx; obtain rfl := Option.some.inj hv; simp [execOp]
  case assign x' => obtain rfl := Option.some.inj hx; obtain rfl := Option.some.inj hv; simp [execOp]
  case pick c a b =>
    obtain rfl := Option.some.inj hx
    simp only [X.val] at hv
    simp only [execOp]
    cases hc : ρ c <;> rw [hc] at hv <;> first | (cases hv; done) | skip
    obtain rfl := Option.some.inj hv
    simp [asBool]
  case alloc t =>
    simp only [X.of] at hx
    obtain ⟨z, _, rfl⟩ := Option.map_eq_some_iff.1 hx
    cases hv
  case box t y => obtain rfl := Option.some.inj hx; cases hv
  case build t parts =>
    simp only [X.of] at hx
    split at hx
    · rename_i fs z hu hz
      split at hx
      · rename_i hall
        obtain ⟨ps, hps, rfl⟩ := Option.map_eq_some_iff.1 hx
        simp only [X.val] at hv
        obtain ⟨cs, hcs, rfl⟩ := Option.map_eq_some_iff.1 hv
        obtain ⟨zv, hzl, hzr⟩ := run_zero hz w
        have hpl : ∀ (l : List Field) (pl : List (Nat × Nat)), (∀ f ∈ l, (sizeB P f.type).isSome = true) → True := fun _ _ _ => trivial
        have hm : ∃ pl : Array (Nat × Nat), (∀ i : Nat, pl[i]? = (fs[i]?).bind fun f => (sizeB P f.type).map fun n => (f.offset, n)) ∧
            (fs.mapM fun f => do pure (f.offset, ← sizeOf f.type) : Sem (Array (Nat × Nat))).run P w = .ok pl w := places_run hall
        obtain ⟨pl, hpl1, hpl2⟩ := hm
        have hf : Instr.fill (fun i => pl[i]?) zv.cells ((parts.map fun (i, x) => (i, ρ x)).toList) = some cs.toArray := by
          refine fill_eq _ _ (ps.map fun p => (p.1, p.2.1, ρ p.2.2)) _ _ (by simp [mapM_length hps]) (fun i p q hp hq => ?_) (by rw [hzl]; exact hcs)
          simp only [Array.toList_map, List.getElem?_map] at hp hq
          cases hpi : parts.toList[i]? with
          | none => rw [hpi] at hp; cases hp
          | some r =>
            rw [hpi] at hp
            simp only [Option.map_some, Option.some.injEq] at hp
            subst hp
            cases hqi : ps[i]? with
            | none => rw [hqi] at hq; cases hq
            | some s =>
              rw [hqi] at hq
              simp only [Option.map_some, Option.some.injEq] at hq
              subst hq
              have h1 := mapM_at hps i r s hpi hqi
              cases hf : fs[r.1]? with
              | none => rw [hf] at h1; cases h1
              | some f =>
                rw [hf] at h1
                obtain ⟨n, hn, rfl⟩ := Option.map_eq_some_iff.1 h1
                exact ⟨by rw [hpl1, hf, Option.bind_some, hn]; rfl, rfl⟩
        simp only [execOp, Instr.build, Sem.run_bind, hzr, Result.andThen_ok, run_underlying hu, hpl2, hf, Sem.run_pure]
      · cases hx
    · rename_i n e z hu hz
      obtain ⟨k, hk, rfl⟩ := Option.map_eq_some_iff.1 hx
      simp only [X.val] at hv
      obtain ⟨cs, hcs, rfl⟩ := Option.map_eq_some_iff.1 hv
      obtain ⟨zv, hzl, hzr⟩ := run_zero hz w
      have hf : Instr.fill (fun i => some (i * k, k)) zv.cells ((parts.map fun (i, x) => (i, ρ x)).toList) = some cs.toArray := by
        refine fill_eq _ _ ((parts.toList.map fun p => (p.1 * k, k, p.2)).map fun p => (p.1, p.2.1, ρ p.2.2)) _ _ (by simp) (fun i p q hp hq => ?_) (by rw [hzl]; exact hcs)
        simp only [Array.toList_map, List.getElem?_map] at hp hq
        cases hpi : parts.toList[i]? with
        | none => rw [hpi] at hp; cases hp
        | some r =>
          rw [hpi] at hp hq
          simp only [Option.map_some, Option.some.injEq] at hp hq
          subst hp hq
          exact ⟨rfl, rfl⟩
      simp only [execOp, Instr.build, Sem.run_bind, hzr, Result.andThen_ok, run_underlying hu, run_size hk, hf, Sem.run_pure]
    · cases hx
  case buildSlice t ln parts =>
    simp only [X.of] at hx
    repeat' (first | (split at hx) | (cases hx; done))
    all_goals (try (obtain rfl := Option.some.inj hx)); all_goals (first | (cases hv; done) | (cases hx; done))
  case load t a =>
    simp only [X.of] at hx
    obtain ⟨p, hp, rfl⟩ := Option.map_eq_some_iff.1 hx
    unfold partB at hp
    split at hp
    · rename_i n ha hn
      obtain rfl := Option.some.inj hp
      simp only [X.val] at hv
      cases hc : ρ a <;> rw [hc] at hv <;> first | (cases hv; done) | skip
      rename_i A
      cases A with
      | none => cases hv
      | some A =>
        obtain ⟨cs, hcs, rfl⟩ := Option.map_eq_some_iff.1 hv
        simp only [execOp, Instr.loadAt, Instr.sureAddr, loadVar, hc, Sem.run_bind, Sem.run_pure, Result.andThen_ok, run_isAgg ha, if_true, run_size hn, cells_load hs hcs]
    · rename_i n ha hn
      obtain rfl := Option.some.inj hp
      simp only [X.val] at hv
      cases hc : ρ a <;> rw [hc] at hv <;> first | (cases hv; done) | skip
      rename_i A
      cases A with
      | none => cases hv
      | some A =>
        have hcell := hs.cell hv
        simp only [execOp, Instr.loadAt, Instr.sureAddr, loadVar, hc, Sem.run_bind, Sem.run_pure, Result.andThen_ok, run_isAgg ha, Bool.false_eq_true, if_false, run_load, hcell]
    · cases hp
  case store t a y =>
    simp only [X.of] at hx
    obtain ⟨n, _, rfl⟩ := Option.map_eq_some_iff.1 hx
    cases hv
  case binOp op t y z ty =>
    simp only [X.of] at hx
    cases hu : P.underlying t with
    | none => rw [hu] at hx; cases hx
    | some d =>
      rw [hu] at hx
      cases d <;> simp only at hx <;> first | (cases hx; done) | skip
      case int k =>
        obtain rfl := Option.some.inj hx
        have := bin_sound (P := P) (w := w) (t := t) hv
        simp only [execOp, Sem.run_bind] at this ⊢
        rw [this]; rfl
      case bool =>
        cases op <;> simp only at hx <;> first | (cases hx; done) | skip
        all_goals
          obtain rfl := Option.some.inj hx
          have := eqb_sound (P := P) (w := w) hu hv
          simp only [execOp, Sem.run_bind, Bool.false_eq_true, if_false, if_true] at this ⊢
          rw [this]; rfl
      case slice e =>
        cases op <;> simp only at hx <;> first | (cases hx; done) | skip
        all_goals
          obtain rfl := Option.some.inj hx
          have := nils_sound (P := P) (w := w) hu hv
          simp only [execOp, Sem.run_bind, Bool.false_eq_true, if_false, if_true] at this ⊢
          rw [this]; rfl
      all_goals (cases op <;> simp only at hx <;> first | (cases hx; done) | (obtain rfl := Option.some.inj hx; cases hv; done))
  case fieldAddr t y f =>
    simp only [X.of] at hx
    split at hx
    · rename_i fs hu
      split at hx
      · rename_i fd hf
        split at hx
        · rename_i m hm
          obtain rfl := Option.some.inj hx
          simp only [X.val] at hv
          cases hc : ρ y <;> rw [hc] at hv <;> first | (cases hv; done) | skip
          rename_i A
          cases A with
          | none => cases hv
          | some A =>
            obtain rfl := Option.some.inj hv
            have hsz : ∀ w : World, (sizeOf fd.type).run P w = .ok (m + 1) w := run_size hm
            simp only [execOp, Instr.fieldAt, Sem.run_bind, run_underlying hu, Result.andThen_ok, hf, Instr.sureAddr, hc, Sem.run_pure, fieldPlace, hsz, Nat.succ_ne_zero, if_false]
            rfl
        · cases hx
      · cases hx
    · cases hx
  case indexAddr t y i =>
    simp only [X.of] at hx
    split at hx
    · rename_i e hu
      obtain ⟨n, hn, rfl⟩ := Option.map_eq_some_iff.1 hx
      simp only [X.val] at hv
      cases hy : ρ y <;> rw [hy] at hv <;> first | (cases hv; done) | skip
      cases hi : ρ i <;> rw [hi] at hv <;> first | (cases hv; done) | skip
      rename_i A l c k j
      simp only at hv
      split at hv
      · rename_i hb
        cases A with
        | none => cases hv
        | some A =>
          obtain rfl := Option.some.inj hv
          simp only [execOp, Instr.indexAt, hy, hi, asIntOf, Sem.run_bind, Sem.run_pure, Result.andThen_ok, run_underlying hu, hb, if_true, and_self, run_size hn]
          rfl
      · cases hv
    · rename_i l e hu
      obtain ⟨n, hn, rfl⟩ := Option.map_eq_some_iff.1 hx
      simp only [X.val] at hv
      cases hy : ρ y <;> rw [hy] at hv <;> first | (cases hv; done) | skip
      cases hi : ρ i <;> rw [hi] at hv <;> first | (cases hv; done) | skip
      rename_i A k j
      simp only at hv
      split at hv
      · rename_i hb
        cases A with
        | none => cases hv
        | some A =>
          obtain rfl := Option.some.inj hv
          simp only [execOp, Instr.indexAt, hy, hi, asIntOf, Instr.sureAddr, Sem.run_bind, Sem.run_pure, Result.andThen_ok, run_underlying hu, hb, if_true, and_self, run_size hn]
          rfl
      · cases hv
    · cases hx
  case unOp op t y =>
    cases op <;> simp only [X.of] at hx <;> first | (cases hx; done) | skip
    all_goals
      obtain rfl := Option.some.inj hx
      simp only [X.val] at hv
      cases hy : ρ y <;> rw [hy] at hv <;> first | (cases hv; done) | skip
      obtain rfl := Option.some.inj hv
      simp [execOp, Op.unary, hy, Op.intArith]
  case convert s d y =>
    simp only [X.of] at hx
    split at hx
    · rename_i k1 k2 h1 h2
      obtain rfl := Option.some.inj hx
      simp only [X.val] at hv
      cases hy : ρ y <;> rw [hy] at hv <;> first | (cases hv; done) | skip
      obtain rfl := Option.some.inj hv
      simp only [execOp, convert, Sem.run_bind, run_underlying h1, run_underlying h2, Result.andThen_ok, hy, Conv.intToInt, Sem.run_pure]
    · cases hx
  case makeSlice t l c =>
    simp only [X.of] at hx
    repeat' (first | (split at hx) | (cases hx; done))
    all_goals (try (obtain rfl := Option.some.inj hx)); all_goals (first | (cases hv; done) | (cases hx; done))
  case slice t y lo hi mx =>
    simp only [X.of] at hx
    split at hx
    · rename_i e hu
      obtain ⟨n, hn, rfl⟩ := Option.map_eq_some_iff.1 hx
      simp only [X.val] at hv
      cases hy : ρ y <;> rw [hy] at hv <;> first | (cases hv; done) | skip
      obtain ⟨⟨l, h, m⟩, hb, rfl⟩ := Option.map_eq_some_iff.1 hv
      simp only [execOp, Instr.sliceAt, Instr.slice, hy, Sem.run_bind, run_underlying hu, Result.andThen_ok, bnds_run true hb, run_size hn, Sem.run_pure]
      rfl
    · rename_i k e hu
      obtain ⟨n, hn, rfl⟩ := Option.map_eq_some_iff.1 hx
      simp only [X.val] at hv
      cases hy : ρ y <;> rw [hy] at hv <;> first | (cases hv; done) | skip
      rename_i A
      cases A with
      | none => cases hv
      | some A =>
        obtain ⟨⟨l, h, m⟩, hb, rfl⟩ := Option.map_eq_some_iff.1 hv
        simp only [execOp, Instr.sliceAt, Instr.sureAddr, hy, Sem.run_bind, run_underlying hu, Result.andThen_ok, bnds_run false hb, run_size hn, Sem.run_pure]
        split <;> rfl
    · cases hx
  case field t y f =>
    simp only [X.of] at hx
    split at hx
    · rename_i fs hu
      split at hx
      · rename_i fd hf
        obtain ⟨p, hp, rfl⟩ := Option.map_eq_some_iff.1 hx
        simp only [X.val] at hv
        cases hy : ρ y <;> rw [hy] at hv <;> first | (cases hv; done) | skip
        rename_i cs
        simp only [execOp, Instr.field, Sem.run_bind, run_underlying hu, Result.andThen_ok, hf, hy, asAgg, Sem.run_pure, part_run hp hv]
      · cases hx
    · cases hx
  case index t y i =>
    simp only [X.of] at hx
    split at hx
    · rename_i l e hu
      split at hx
      · rename_i n p hn hp
        obtain rfl := Option.some.inj hx
        simp only [X.val] at hv
        cases hy : ρ y <;> rw [hy] at hv <;> first | (cases hv; done) | skip
        cases hi : ρ i <;> rw [hi] at hv <;> first | (cases hv; done) | skip
        simp only at hv
        split at hv
        · rename_i hb
          simp only [execOp, Instr.index, Sem.run_bind, hi, asIntOf, Sem.run_pure, Result.andThen_ok, run_underlying hu, hy, hb, if_true, and_self, run_size hn, part_run hp hv]
        · cases hv
      · cases hx
    · cases hx
  case extract y i =>
    obtain rfl := Option.some.inj hx
    simp only [X.val] at hv
    cases hy : ρ y <;> rw [hy] at hv <;> first | (cases hv; done) | skip
    rename_i vs
    simp only [Array.getElem?_toList] at hv
    simp only [execOp, Instr.extract, hy, hv, Sem.run_bind, Sem.run_pure, Result.andThen_ok]
  case makeFunc fn a b =>
    obtain rfl := Option.some.inj hx
    obtain rfl := Option.some.inj hv
    simp only [execOp, Instr.makeFunc, Sem.run_bind, Sem.run_pure, Result.andThen_ok]
    have h1 : ∀ (q : Array Operand), Array.map ρ q = (List.map ρ q.toList).toArray := fun q => Array.toList_inj.1 (by simp)
    rw [h1 a, h1 b]
  case nilCheck y =>
    obtain rfl := Option.some.inj hx
    simp only [X.val] at hv
    simp only [execOp]
    cases hy : ρ y <;> rw [hy] at hv <;> first | (cases hv; done) | skip
    · rename_i A
      cases A with
      | none => cases hv
      | some A => obtain rfl := Option.some.inj hv; rfl
    · rename_i fn a b
      cases fn <;> first | (cases hv; done) | skip
      obtain rfl := Option.some.inj hv
      rfl
  case call c =>
    obtain ⟨cal, args, tys⟩ := c
    cases cal with
    | value f => obtain rfl := Option.some.inj hx; cases hv
    | invoke r m => cases hx
    | builtin b =>
      cases b <;> simp only [X.of] at hx <;> first | (cases hx; done) | skip
      case len =>
        split at hx
        · rename_i t y hty hay
          have ha : args = #[y] := by rw [← Array.toArray_toList (xs := args), hay]
          have hb : tys = #[t] := by rw [← Array.toArray_toList (xs := tys), hty]
          subst ha hb
          split at hx
          · rename_i e hu
            obtain rfl := Option.some.inj hx
            simp only [X.val] at hv
            cases hy : ρ y <;> rw [hy] at hv <;> first | (cases hv; done) | skip
            obtain rfl := Option.some.inj hv
            simp [execOp, resolve, invoke, builtin, Builtin.len_, run_underlying hu, hy, goInt]
          · rename_i n e hu
            obtain rfl := Option.some.inj hx
            obtain rfl := Option.some.inj hv
            simp [execOp, resolve, invoke, builtin, Builtin.len_, run_underlying hu, goInt]
          · cases hx
        · cases hx
      case append =>
        repeat' (first | (split at hx) | (cases hx; done))
        all_goals (try (obtain rfl := Option.some.inj hx)); all_goals (first | (cases hv; done) | (cases hx; done))
      case max =>
        split at hx
        · rename_i y z hay
          have ha : args = #[y, z] := by rw [← Array.toArray_toList (xs := args), hay]
          subst ha
          obtain rfl := Option.some.inj hx
          simp only [X.val] at hv
          cases hy : ρ y <;> rw [hy] at hv <;> first | (cases hv; done) | skip
          cases hz : ρ z <;> rw [hz] at hv <;> first | (cases hv; done) | skip
          obtain rfl := Option.some.inj hv
          simp [execOp, resolve, invoke, builtin, Builtin.max_, Builtin.max2, hy, hz]
        · cases hx
      case min =>
        split at hx
        · rename_i y z hay
          have ha : args = #[y, z] := by rw [← Array.toArray_toList (xs := args), hay]
          subst ha
          obtain rfl := Option.some.inj hx
          simp only [X.val] at hv
          cases hy : ρ y <;> rw [hy] at hv <;> first | (cases hv; done) | skip
          cases hz : ρ z <;> rw [hz] at hv <;> first | (cases hv; done) | skip
          obtain rfl := Option.some.inj hv
          simp [execOp, resolve, invoke, builtin, Builtin.min_, Builtin.min2, hy, hz]
        · cases hx
  all_goals (cases hx)
end
end Go.Proofs.Ytfjhjfddgdokgaa
namespace Go.Proofs.Ytfjhjfddgdokgaa
set_option linter.all false
open Go Go.RowKit
set_option linter.unusedSimpArgs false
/-- v is a slice of n elements of the call's own: H is H1 and the row of v, which holds xs. -/
def Own (H1 : AHeap) (e : TypeId) (size : Nat) (v : Value) (n : Nat) (xs : List Value) (H : AHeap) : Prop :=
  (v = .slice none 0 0 ∧ n = 0 ∧ xs = [] ∧ H = H1) ∨
  ∃ b cap, v = .slice (some ⟨b, 0, none⟩) n cap ∧ H1 b = none ∧ n ≤ cap ∧ cap ≤ maxLen ∧ xs.length = n * size ∧ H = H1.set b ⟨xs, true, e, cap * size⟩
/-- v is a slice of n elements of the call's own, xs, and what else H knows is H1. -/
def Has (H : AHeap) (e : TypeId) (size : Nat) (v : Value) (n : Nat) (xs : List Value) (H1 : AHeap) : Prop :=
  (v = .slice none 0 0 ∧ n = 0 ∧ xs = [] ∧ H1 = H) ∨
  ∃ b cap k, v = .slice (some ⟨b, 0, none⟩) n cap ∧ H b = some k ∧ k.own = true ∧ k.ty = e ∧ k.cap = cap * size ∧ n ≤ cap ∧ cap ≤ maxLen ∧ n * size ≤ k.cells.length ∧ xs = k.cells.take (n * size) ∧ H1 = H.del b
/-- A call, in any world that H describes. -/
def ACalls (P : Program) (w0 : World) (f : Nat) (args : List Value) (H : AHeap) (K : Value → AHeap → Prop) : Prop :=
  (∃ fn, P.funcs[f]? = some fn ∧ fn.body.isSome = true ∧ (fn.name == "runtime.NumGoroutine") = false) ∧
  ∀ w, Sat w0 H w → Calls P f args.toArray w fun e w' => ∃ v H', e = .returned v ∧ Sat w0 H' w' ∧ K v H'
def EqRun (P : Program) (t : TypeId) (u v : Value) (r : Bool) : Prop :=
  (∃ xs, u = .agg xs) ∧ (∃ ys, v = .agg ys) ∧ P.eqGuardType P.depth t = false ∧ ∀ w, (Op.equal t u v).run P w = .ok r w
def needs {α : Type} (o : Option α) (K : α → Prop) : Prop := match o with
  | some v => K v
  | none => False
theorem needs_some {α : Type} (v : α) (K : α → Prop) : needs (some v) K = K v := rfl
theorem needs_map {α β : Type} (o : Option α) (f : α → β) (K : β → Prop) : needs (o.map f) K = needs o fun a => K (f a) := by cases o <;> rfl
theorem needs_elim {α : Type} {o : Option α} {K : α → Prop} (h : needs o K) : ∃ v, o = some v ∧ K v := by
  cases o with
  | none => exact h.elim
  | some v => exact ⟨v, rfl, h⟩
def sxVal (P : Program) (x : X) (ρ : Operand → Value) (H : AHeap) (K : Value → Prop) : Prop := match x with
  | .eqs ng t a b => ∃ r : Bool, EqRun P t (ρ a) (ρ b) r ∧ K (.bool (ng != r))
  | x => needs (x.val ρ H) K
def repl (z : List Value) : Nat → List Value
  | 0 => []
  | n + 1 => z ++ repl z n
def sxEff (P : Program) (w0 : World) (x : X) (ρ : Operand → Value) (H : AHeap) (K : Value → AHeap → Prop) : Prop := match x with
  | .new z t => ∀ b, H b = none → K (.pointer (some ⟨b, 0, none⟩)) (H.set b ⟨z, true, t, z.length⟩)
  | .box t x => ∀ b, H b = none → K (.pointer (some ⟨b, 0, none⟩)) (H.set b ⟨(ρ x).cells.toList, true, t, (ρ x).cells.size⟩)
  | .lit z t ln ps => needs (fillL z (ps.map fun p => (p.1, p.2.1, ρ p.2.2))) fun cs => ∀ b, H b = none → K (.slice (some ⟨b, 0, none⟩) ln ln) (H.set b ⟨cs, true, t, cs.length⟩)
  | .mks z t bytes l c => match ρ l, ρ c with
    | .int _ l, .int _ c => 0 ≤ l ∧ l ≤ c ∧ (bytes : Int) * c ≤ 281474976710656 ∧ c ≤ 9223372036854775807 ∧ ∀ b, H b = none → K (.slice (some ⟨b, 0, none⟩) l.toNat c.toNat) (H.set b ⟨repl z c.toNat, true, t, c.toNat * z.length⟩)
    | _, _ => False
  | .st n a x => match ρ a with
    | .pointer (some a) => a.spot = none ∧ ∃ k, H a.block = some k ∧ k.own = true ∧ (ρ x).cells.size = n ∧ a.off + n ≤ k.cells.length ∧ (∀ v ∈ (ρ x).cells.toList, v.oneCell' = true) ∧
        K undef (H.set a.block { k with cells := setR k.cells a.off (ρ x).cells.toList })
    | _ => False
  | .app z t bytes s x => match ρ s, ρ x with
    | .slice sa n sc, .slice xa m xc => (n = 0 ∧ sc = 0 ∧ m = 0 ∧ K (.slice sa 0 0) H) ∨ ∃ xs H1 news, (Has H t z.length (.slice sa n sc) n xs H1 ∨ (n = 0 ∧ sc = 0 ∧ xs = [] ∧ H1 = H ∧ 0 < m)) ∧ news.length = m * z.length ∧
        (∀ (j : Nat) (v : Value), news[j]? = some v → H.cell (adr xa j) = some v) ∧ (∀ v ∈ news, v.oneCell' = true) ∧ n + m ≤ maxLen ∧ (n + m) * bytes ≤ 140737488355328 ∧
        ∀ v' H', Own H1 t z.length v' (n + m) (xs ++ news) H' → K v' H'
    | _, _ => False
  | .call f args => match ρ f with
    | .func (.func f) fi ca => ACalls P w0 f (fi.toList ++ args.map ρ ++ ca.toList) H K
    | _ => False
  | x => sxVal P x ρ H fun v => K v H
structure XO where
  dst : Option Nat
  x : X
  guard : Option (Nat × Bool)
def dstOk (N : Nat) : Option Nat → Bool
  | some d => decide (d < N)
  | none => true
def XO.of (P : Program) (N : Nat) (ops : Array Oper) (o : Oper) : Option XO :=
  match X.of P o.op with
  | none => none
  | some x => if dstOk N o.dst then
      match o.guard with
      | none => some ⟨o.dst, x, none⟩
      | some (j, b) => match (ops[j]?).bind (·.dst) with
        | some t => if t < N then some ⟨o.dst, x, some (t, b)⟩ else none
        | none => none
    else none
def putD (fr : Fr) : Option Nat → Value → Fr
  | some d, v => fr.put d v
  | none, _ => fr
/-- An instruction, its guard asked first. -/
def sxOp (P : Program) (w0 : World) (o : XO) (K : Fr → AHeap → Prop) (fr : Fr) (H : AHeap) : Prop := match o.guard with
  | none => sxEff P w0 o.x fr.ev H fun v H' => K (putD fr o.dst v) H'
  | some (t, b) => match fr t with
    | .bool c => (c = b → sxEff P w0 o.x fr.ev H fun v H' => K (putD fr o.dst v) H') ∧ (c ≠ b → K (putD fr o.dst undef) H)
    | _ => K (putD fr o.dst undef) H
def sxOps (P : Program) (w0 : World) : List XO → (Fr → AHeap → Prop) → Fr → AHeap → Prop
  | [], K, fr, H => K fr H
  | o :: r, K, fr, H => sxOp P w0 o (sxOps P w0 r K) fr H
section
variable {P : Program} {w0 : World} {N : Nat}
theorem getElem?_repl (z : List Value) (hz : 0 < z.length) : ∀ (n j : Nat), j < n * z.length → (repl z n)[j]? = z[j % z.length]?
  | 0, j, h => by simp at h
  | n + 1, j, h => by
    simp only [repl, List.getElem?_append]
    split
    · rename_i hj; rw [Nat.mod_eq_of_lt hj]
    · rename_i hj
      have hj' : z.length ≤ j := by omega
      rw [getElem?_repl z hz n (j - z.length) (by rw [Nat.add_mul] at h; omega)]
      congr 1
      exact (Nat.mod_eq_sub_mod hj').symm
theorem length_repl (z : List Value) : ∀ n, (repl z n).length = n * z.length
  | 0 => by simp [repl]
  | n + 1 => by simp [repl, length_repl z n, Nat.add_mul, Nat.add_comm]
theorem made_repl (z : Array Value) (n : Nat) : madeCells z (n * z.size) = (repl z.toList n).toArray := by
  apply Array.ext_getElem?
  intro j
  by_cases hj : j < n * z.size
  · have hz : 0 < z.size := by
      rcases Nat.eq_zero_or_pos z.size with h | h
      · rw [h] at hj; simp at hj
      · exact h
    have hm : j % z.size < z.size := Nat.mod_lt _ hz
    have h1 := getElem?_repl z.toList (by simpa using hz) n j (by simpa using hj)
    simp only [Array.getElem?_toList, Array.length_toList] at h1
    have h2 : (repl z.toList n).toArray[j]? = (repl z.toList n)[j]? := by simp
    rw [h2, h1]
    simp [madeCells, Array.getElem?_map, Array.getElem?_range, hj, hm]
  · have h2 : (repl z.toList n).toArray[j]? = (repl z.toList n)[j]? := by simp
    rw [Array.getElem?_eq_none (by simp [madeCells]; omega), h2, List.getElem?_eq_none (by rw [length_repl]; simpa using hj)]
end
end Go.Proofs.Ytfjhjfddgdokgaa
namespace Go.Proofs.Ytfjhjfddgdokgaa
set_option linter.all false
open Go Go.RowKit
set_option linter.unusedSimpArgs false
section
variable {P : Program} {w0 w : World} {H : AHeap}
theorem wp_value {o : Oper} {a : Act} {v : Value} {w' : World} {next : Act → World → Prop} {Q : Exit → Act → World → Prop} (h : (execOp a.eval o).run P w = .ok (.value v) w') (hn : next (a.put o.dst v) w') : o.wp P a w next Q := by
  unfold Oper.wp
  rw [h]
  exact hn
theorem wp_skip' {o : Oper} {a : Act} {w' : World} {next : Act → World → Prop} {Q : Exit → Act → World → Prop} (h : (execOp a.eval o).run P w = .ok .skip w') (hn : next (a.put o.dst undef) w') : o.wp P a w next Q := by
  unfold Oper.wp
  rw [h]
  exact hn
theorem store_run : ∀ {b : Nat} (vs : List Value) (off i : Nat) (k : Blk) (H : AHeap) (w : World), Sat w0 H w → H b = some k → k.own = true → off + i + vs.length ≤ k.cells.length → (∀ v ∈ vs, v.oneCell' = true) →
    ∃ w', (storeCells ⟨b, off, none⟩ vs i).run P w = .ok () w' ∧ Sat w0 (H.set b { k with cells := setR k.cells (off + i) vs }) w'
  | b, [], off, i, k, H, w, hs, hk, _, _, _ => ⟨w, rfl, by
      have : H.set b { k with cells := setR k.cells (off + i) [] } = H := by
        funext j
        simp only [AHeap.set, setR]
        split
        · rename_i hj; subst hj; exact hk.symm
        · rfl
      rw [this]; exact hs⟩
  | b, v :: r, off, i, k, H, w, hs, hk, ho, hl, h1 => by
    have hlt : off + i < k.cells.length := by simp at hl; omega
    have hcell : H.cell (some ⟨b, off + i, none⟩) = some k.cells[off + i] := by simp [AHeap.cell, hk, hlt]
    have hc := hs.cell hcell
    obtain ⟨c, fz, g1, g2, g3, g4⟩ := hs.blk b k hk
    obtain ⟨_, hfz⟩ := g4 ho
    subst hfz
    have hf : w.frozen? ⟨b, off + i, none⟩ = false := by simp [World.frozen?, g1]
    have hadd : (⟨b, off, none⟩ : Addr).add i = ⟨b, off + i, none⟩ := Addr.add_lit b off i
    have hst : (store ((⟨b, off, none⟩ : Addr).add i) v).run P w = .ok () (w.setCell ⟨b, off + i, none⟩ v) := by
      rw [hadd, run_store P w _ v _ (h1 v (by simp)), hc]
      simp [hf]
    have hs' := hs.setCell (off := off + i) hk ho v
    obtain ⟨w', hr, hsat⟩ := store_run (b := b) r off (i + 1) { k with cells := k.cells.set (off + i) v } (H.set b { k with cells := k.cells.set (off + i) v }) _ hs' (by simp [AHeap.set]) ho (by simp at hl ⊢; omega) (fun u hu => h1 u (by simp [hu]))
    refine ⟨w', by simp only [storeCells, Sem.run_bind, hst, Result.andThen_ok, hr], ?_⟩
    have e : (H.set b { k with cells := k.cells.set (off + i) v }).set b { k with cells := setR (k.cells.set (off + i) v) (off + (i + 1)) r } = H.set b { k with cells := setR k.cells (off + i) (v :: r) } := by
      funext j
      simp only [AHeap.set, setR, Nat.add_assoc]
      split <;> rfl
    rw [← e]
    exact hsat
theorem Sat.of_grown {w w' : World} {H1 : AHeap} {b : Option Nat} (hs : Sat w0 H w) (hg : w.grownBy w' b) (hb : ∀ g, b = some g → w0.heap.size ≤ g ∧ H1 g = none) (hle : AHeap.le H1 H) : Sat w0 H1 w' := by
  have h1 := hs.mono hle
  refine ⟨hs.below.grown hg hs.below.size (fun k hk => (hb k hk).1), fun i k hk => ?_⟩
  obtain ⟨c, fz, g1, r⟩ := h1.blk i k hk
  have hne : some i ≠ b := by
    intro he
    have := (hb i he.symm).2
    rw [this] at hk; cases hk
  exact ⟨c, fz, (hg.block i (h1.lt hk) hne).trans g1, r⟩
theorem own_of_has {e : TypeId} {size : Nat} {v : Value} {n : Nat} {xs : List Value} {H1 : AHeap} (hs : Sat w0 H w) (h : Has H e size v n xs H1) : w.ownsRow w0.heap.size e size v n xs := by
  rcases h with ⟨rfl, rfl, rfl, rfl⟩ | ⟨b, cap, k, rfl, hk, ho, ht, hc, hn, hm, hl, rfl, rfl⟩
  · exact ⟨by simp, .inl ⟨rfl, rfl⟩⟩
  · obtain ⟨c, fz, g1, g2, g3, g4⟩ := hs.blk b k hk
    obtain ⟨hb, rfl⟩ := g4 ho
    refine ⟨by rw [List.length_take]; omega, .inr ⟨b, cap, c, rfl, hb, by rw [← ht]; exact g1, hn, hm, by omega, ?_⟩⟩
    apply List.ext_getElem?
    intro j
    simp only [List.getElem?_take]
    split
    · rename_i hj
      have hlt : j < k.cells.length := by omega
      have := g3 j _ (List.getElem?_eq_getElem hlt)
      rw [Array.getElem?_toList, this, List.getElem?_eq_getElem hlt]
    · rfl
theorem sat_of_own {e : TypeId} {size : Nat} {v : Value} {n : Nat} {xs : List Value} {w' : World} {H1 : AHeap} (hs : Sat w0 H1 w') (h : w'.ownsRow w0.heap.size e size v n xs) (hb : ∀ g, v.ownBlock = some g → H1 g = none) :
    ∃ H', Own H1 e size v n xs H' ∧ Sat w0 H' w' := by
  obtain ⟨hl, h⟩ := h
  rcases h with ⟨rfl, rfl⟩ | ⟨g, cap, cur, rfl, hbg, hg, hn, hm, hc, ht⟩
  · exact ⟨H1, .inl ⟨rfl, rfl, List.eq_nil_of_length_eq_zero (by simpa using hl), rfl⟩, hs⟩
  · have hg1 : H1 g = none := hb g rfl
    refine ⟨H1.set g ⟨xs, true, e, cap * size⟩, .inr ⟨g, cap, rfl, hg1, hn, hm, hl, rfl⟩, hs.below, fun i k hk => ?_⟩
    simp only [AHeap.set] at hk
    split at hk
    · rename_i hi
      subst hi
      obtain rfl := Option.some.inj hk
      refine ⟨cur, (0, 0), hg, hc, fun j u hu => ?_, fun _ => ⟨hbg, rfl⟩⟩
      have hlt : j < xs.length := (List.getElem?_eq_some_iff.1 hu).1
      rw [← ht, List.getElem?_take] at hu
      rw [if_pos (by omega)] at hu
      rw [← Array.getElem?_toList]; exact hu
    · exact hs.blk i k hk
theorem sat_new {e : TypeId} {cells : List Value} {cs : Array Value} (hs : Sat w0 H w) (hc : cs.toList = cells) :
    H w.heap.size = none ∧ Sat w0 (H.set w.heap.size ⟨cells, true, e, cells.length⟩) (w.alloc (.cells cs e)) := by
  subst hc
  refine ⟨hs.fresh, ?_⟩
  have := hs.alloc cs cs.toList e (fun j v hv => by simpa using hv)
  simpa using this
theorem own_new {e : TypeId} {size n cap : Nat} {xs : List Value} {cs : Array Value} (hs : Sat w0 H w) (hn : n ≤ cap) (hm : cap ≤ maxLen) (hl : xs.length = n * size) (hsz : cs.size = cap * size) (hc : ∀ (j : Nat) (v : Value), xs[j]? = some v → cs[j]? = some v) :
    ∃ H', Own H e size (.slice (some ⟨w.heap.size, 0, none⟩) n cap) n xs H' ∧ Sat w0 H' (w.alloc (.cells cs e)) := by
  refine ⟨_, .inr ⟨w.heap.size, cap, rfl, hs.fresh, hn, hm, hl, rfl⟩, ?_⟩
  have := hs.alloc cs xs e hc
  rw [hsz] at this
  exact this
theorem run_app_nil {t ty e : TypeId} {i : TypeInfo} {size : Nat} (ht : P.underlying t = some (.slice e)) (hi : P.info? e = some i) {v : Value} {n : Nat} {xs : List Value} {base : Nat} (hown : w.ownsRow base e size v n xs) (c : Nat) :
    (Builtin.append_ #[t, t] ty #[v, .slice none 0 c]).run P w = .ok v w := by
  rcases hown.2 with ⟨rfl, rfl⟩ | ⟨g, cap, cur, rfl, _, _, hnc, _⟩
  · simp [Builtin.append_, run_underlying ht, sizeOf, typeInfo, hi, Builtin.lenOf, Builtin.firstCells]
  · simp [Builtin.append_, run_underlying ht, sizeOf, typeInfo, hi, Builtin.lenOf, Builtin.firstCells, hnc, storeCells]
theorem run_app_none {t ty e : TypeId} {i : TypeInfo} (ht : P.underlying t = some (.slice e)) (hi : P.info? e = some i) (sa xa : Option Addr) (xc : Nat) :
    (Builtin.append_ #[t, t] ty #[.slice sa 0 0, .slice xa 0 xc]).run P w = .ok (.slice sa 0 0) w := by
  cases sa <;> cases xa <;> simp [Builtin.append_, run_underlying ht, sizeOf, typeInfo, hi, Builtin.lenOf, Builtin.firstCells, storeCells, loadCells, loadCellsFrom]
theorem Has.le {e : TypeId} {size : Nat} {v : Value} {n : Nat} {xs : List Value} {H1 : AHeap} (h : Has H e size v n xs H1) : AHeap.le H1 H := by
  rcases h with ⟨_, _, _, rfl⟩ | ⟨b, _, _, _, _, _, _, _, _, _, _, _, rfl⟩
  · exact .refl _
  · exact AHeap.del_le _ _
theorem Has.none {e : TypeId} {size : Nat} {v : Value} {n : Nat} {xs : List Value} {H1 : AHeap} (h : Has H e size v n xs H1) : ∀ g, v.ownBlock = some g → H1 g = none := by
  rcases h with ⟨rfl, _, _, rfl⟩ | ⟨b, _, _, rfl, _, _, _, _, _, _, _, _, rfl⟩
  · intro g hg; cases hg
  · intro g hg
    obtain rfl := Option.some.inj hg
    simp [AHeap.del]
def X.isVal : X → Bool
  | .new .. => false
  | .box .. => false
  | .lit .. => false
  | .mks .. => false
  | .st .. => false
  | .app .. => false
  | .call .. => false
  | .eqs .. => false
  | _ => true
theorem sxEff_val {x : X} (h : x.isVal = true) (ρ : Operand → Value) (K : Value → AHeap → Prop) : sxEff P w0 x ρ H K = needs (x.val ρ H) fun v => K v H := by
  cases x <;> first | rfl | (cases h; done)
/-- Which operation was read as x, if x is no plain value. -/
inductive EffOf (P : Program) : Op → X → Prop
  | new (t : TypeId) (z : List Value) (hz : zeroB P t = some z) : EffOf P (.alloc t) (.new z t)
  | box (t : TypeId) (x : Operand) : EffOf P (.box t x) (.box t x)
  | lit (t e : TypeId) (ln n : Nat) (z : List Value) (parts : Array (Nat × Operand)) (hu : P.underlying t = some (.slice e)) (hn : sizeB P e = some n) (hz : zeroB P e = some z) (hl : ln * n ≤ 16777216) :
      EffOf P (.buildSlice t ln parts) (.lit (madeCells z.toArray (ln * n)).toList e ln (parts.toList.map fun p => (p.1 * n, n, p.2)))
  | st (t : TypeId) (a x : Operand) (n : Nat) (hn : sizeB P t = some n) : EffOf P (.store t a x) (.st n a x)
  | mk (t e : TypeId) (l c : Operand) (i : TypeInfo) (z : List Value) (hu : P.underlying t = some (.slice e)) (hi : P.info? e = some i) (hz : zeroB P e = some z) (hs : i.size = z.length) :
      EffOf P (.makeSlice t l c) (.mks z e i.bytes l c)
  | eqs (op : BinOp) (ng : Bool) (t : TypeId) (x y : Operand) (ty : TypeId) (ho : op = if ng then .neq else .eql) (ha : aggB P t = some true) : EffOf P (.binOp op t x y ty) (.eqs ng t x y)
  | call (f : Operand) (args : Array Operand) (tys : Array TypeId) : EffOf P (.call ⟨.value f, args, tys⟩) (.call f args.toList)
  | app (t e : TypeId) (s x : Operand) (i : TypeInfo) (z : List Value) (hu : P.underlying t = some (.slice e)) (hi : P.info? e = some i) (hz : zeroB P e = some z) (hs : i.size = z.length) (h0 : 0 < i.size) :
      EffOf P (.call ⟨.builtin .append, #[s, x], #[t, t]⟩) (.app z e i.bytes s x)
theorem of_cases {op : Op} {x : X} (h : X.of P op = some x) : x.isVal = true ∨ EffOf P op x := by
  cases op <;> simp only [X.of] at h
  case alloc t => obtain ⟨z, hz, rfl⟩ := Option.map_eq_some_iff.1 h; exact .inr (.new t z hz)
  case box t y => obtain rfl := Option.some.inj h; exact .inr (.box t y)
  case buildSlice t ln parts =>
    split at h
    · rename_i e hu
      split at h
      · rename_i n z hn hz
        split at h
        · rename_i hl
          obtain rfl := Option.some.inj h
          exact .inr (.lit t e ln n z parts hu hn hz hl)
        · cases h
      · cases h
    · cases h
  case store t a y => obtain ⟨n, hn, rfl⟩ := Option.map_eq_some_iff.1 h; exact .inr (.st t a y n hn)
  case makeSlice t l c =>
    split at h
    · rename_i e hu
      split at h
      · rename_i i z hi hz
        split at h
        · rename_i hs
          obtain rfl := Option.some.inj h
          exact .inr (.mk t e l c i z hu hi hz hs)
        · cases h
      · cases h
    · cases h
  case binOp op t y z ty =>
    split at h
    · obtain rfl := Option.some.inj h; exact .inl rfl
    · split at h
      · obtain rfl := Option.some.inj h; exact .inl rfl
      · obtain rfl := Option.some.inj h; exact .inl rfl
      · cases h
    · split at h
      · obtain rfl := Option.some.inj h; exact .inl rfl
      · obtain rfl := Option.some.inj h; exact .inl rfl
      · cases h
    · rename_i fs hu
      have ha : aggB P t = some true := by simp [aggB, hu]
      split at h
      · obtain rfl := Option.some.inj h; exact .inr (.eqs _ false t y z ty rfl ha)
      · obtain rfl := Option.some.inj h; exact .inr (.eqs _ true t y z ty rfl ha)
      · cases h
    · rename_i n e hu
      have ha : aggB P t = some true := by simp [aggB, hu]
      split at h
      · obtain rfl := Option.some.inj h; exact .inr (.eqs _ false t y z ty rfl ha)
      · obtain rfl := Option.some.inj h; exact .inr (.eqs _ true t y z ty rfl ha)
      · cases h
    · cases h
  case call c =>
    obtain ⟨cal, args, tys⟩ := c
    cases cal with
    | value f => obtain rfl := Option.some.inj h; exact .inr (.call f args tys)
    | invoke r m => cases h
    | builtin b =>
      cases b <;> simp only at h <;> first | (cases h; done) | skip
      case append =>
        split at h
        · rename_i t u s y hty hay
          have ha : args = #[s, y] := by rw [← Array.toArray_toList (xs := args), hay]
          have hb : tys = #[t, u] := by rw [← Array.toArray_toList (xs := tys), hty]
          subst ha hb
          split at h
          · rename_i htu
            subst htu
            split at h
            · rename_i e hu
              split at h
              · rename_i i z hi hz
                split at h
                · rename_i hs
                  obtain rfl := Option.some.inj h
                  exact .inr (.app t e s y i z hu hi hz hs.1 hs.2)
                · cases h
              · cases h
            · cases h
          · cases h
        · cases h
      all_goals
        repeat' (first | (cases h; done) | (split at h))
        all_goals (obtain rfl := Option.some.inj h; exact .inl rfl)
  case load t a => obtain ⟨p, _, rfl⟩ := Option.map_eq_some_iff.1 h; cases p <;> exact .inl rfl
  case unOp op t y => cases op <;> simp only at h <;> first | (cases h; done) | (obtain rfl := Option.some.inj h; exact .inl rfl)
  all_goals
    repeat' (first | (cases h; done) | (split at h))
    all_goals first
      | (cases h; done)
      | (obtain rfl := Option.some.inj h; exact .inl rfl)
      | (obtain ⟨p, _, rfl⟩ := Option.map_eq_some_iff.1 h; exact .inl rfl)
theorem zero_info {e : TypeId} {i : TypeInfo} {z : List Value} (hi : P.info? e = some i) (hz : zeroB P e = some z) : ∃ zv, i.zero = some zv ∧ zv.cells.toList = z := by
  unfold zeroB at hz
  rw [hi] at hz
  obtain ⟨zv, h, rfl⟩ := Option.map_eq_some_iff.1 hz
  exact ⟨zv, h, rfl⟩
theorem eqs_run {op : BinOp} {ng : Bool} {t ty : TypeId} {x y : Operand} {ρ : Operand → Value} {r : Bool} {dst : Option Tmp} {ty' : TypeId} {pos : String} {after : Array Edge} {guard : Option (Nat × Bool)}
    (ho : op = if ng then .neq else .eql) (h : EqRun P t (ρ x) (ρ y) r) : (execOp ρ ⟨dst, .binOp op t x y ty, ty', pos, after, guard⟩).run P w = .ok (.value (.bool (ng != r))) w := by
  obtain ⟨⟨xs, hxs⟩, ⟨ys, hys⟩, hg, hr⟩ := h
  subst ho
  have hgd : ∀ (b : BinOp), (eqGuard b t x y (ρ x) (ρ y)).run P w = .ok () w := by
    intro b
    rw [hxs, hys]
    cases b <;> simp [eqGuard, hg]
  have hr' := hr w
  rw [hxs, hys] at hr'
  cases ng
  · simp only [execOp, Sem.run_bind, Bool.false_eq_true, if_false, hgd, Result.andThen_ok]
    rw [hxs, hys]
    simp only [binOp, Sem.run_bind, hr', Result.andThen_ok, Sem.run_pure]
    simp
  · simp only [execOp, Sem.run_bind, if_true, hgd, Result.andThen_ok]
    rw [hxs, hys]
    simp only [binOp, Sem.run_bind, hr', Result.andThen_ok, Sem.run_pure]
    simp
theorem eff_sound {o : Oper} {x : X} (hx : X.of P o.op = some x) {a : Act} {K : Value → AHeap → Prop} (h : sxEff P w0 x a.eval H K) (hs : Sat w0 H w)
    {next : Act → World → Prop} {Q : Exit → Act → World → Prop} (hn : ∀ v H' w', Sat w0 H' w' → K v H' → next (a.put o.dst v) w') : o.wp P a w next Q := by
  rcases of_cases hx with hv | he
  · rw [sxEff_val hv] at h
    obtain ⟨v, hv, hK⟩ := needs_elim h
    exact wp_value (val_sound hx hv hs) (hn v H w hs hK)
  · obtain ⟨dst, op, ty, pos, after, guard⟩ := o
    simp only at he hn
    cases he with
    | new t z hz =>
      obtain ⟨zv, hzl, hzr⟩ := run_zero hz w
      obtain ⟨ha, hsat⟩ := sat_new (e := t) hs hzl
      refine wp_value (w' := w.alloc (.cells zv.cells t)) ?_ (hn _ _ _ hsat (h _ ha))
      simp only [execOp, Instr.alloc, Sem.run_bind, hzr, Result.andThen_ok, newVar, newRow, run_newObj, Sem.run_pure]
      rfl
    | box t y =>
      obtain ⟨ha, hsat⟩ := sat_new (e := t) (cs := (a.eval y).cells) hs rfl
      have hsz : (a.eval y).cells.toList.length = (a.eval y).cells.size := by simp
      rw [hsz] at hsat
      refine wp_value (w' := w.alloc (.cells (a.eval y).cells t)) ?_ (hn _ _ _ hsat (h _ ha))
      simp only [execOp, Instr.box, Sem.run_bind, Result.andThen_ok, newVar, newRow, run_newObj, Sem.run_pure]
      rfl
    | lit t e ln n z parts hu hnn hz hl =>
      obtain ⟨cs, hcs, hK⟩ := needs_elim h
      obtain ⟨zv, hzl, hzr⟩ := run_zero hz w
      have hzc : z.toArray = zv.cells := by rw [← hzl]
      have hf : Instr.fill (fun i => some (i * n, n)) (madeCells z.toArray (ln * n)) ((parts.map fun (i, x) => (i, a.eval x)).toList) = some cs.toArray := by
        refine fill_eq _ _ ((parts.toList.map fun p => (p.1 * n, n, p.2)).map fun p => (p.1, p.2.1, a.eval p.2.2)) _ _ (by simp) (fun i p q hp hq => ?_) hcs
        simp only [Array.toList_map, List.getElem?_map] at hp hq
        cases hpi : parts.toList[i]? with
        | none => rw [hpi] at hp; cases hp
        | some r =>
          rw [hpi] at hp hq
          simp only [Option.map_some, Option.some.injEq] at hp hq
          subst hp hq
          exact ⟨rfl, rfl⟩
      obtain ⟨ha, hsat⟩ := sat_new (e := e) (cs := cs.toArray) hs rfl
      refine wp_value (w' := w.alloc (.cells cs.toArray e)) ?_ (hn _ _ _ hsat (hK _ ha))
      have hlt : ¬ (ln * n > 2 ^ 24) := by omega
      by_cases h0 : ln * n = 0
      · have hm0 : (Array.range (ln * n)).map (fun x => (#[] : Array Value)[x % (#[] : Array Value).size]!) = madeCells z.toArray (ln * n) := by
          rw [h0]; simp [madeCells, Array.range_zero']
        simp only [execOp, Instr.buildSlice, Sem.run_bind, run_underlying hu, Result.andThen_ok, run_size hnn, if_neg hlt, if_pos h0, Sem.run_pure, Sem.run_ite]
        simp only [h0] at hm0 hf ⊢
        simp only [hm0, hf, newRow, Sem.run_bind, run_newObj, Result.andThen_ok, Sem.run_pure]
        rfl
      · have hm0 : (Array.range (ln * n)).map (fun x => zv.cells[x % zv.cells.size]!) = madeCells z.toArray (ln * n) := by rw [hzc]; rfl
        simp only [execOp, Instr.buildSlice, Sem.run_bind, run_underlying hu, Result.andThen_ok, run_size hnn, if_neg hlt, if_neg h0, Sem.run_pure, Sem.run_ite, hzr]
        simp only [hm0, hf, newRow, Sem.run_bind, run_newObj, Result.andThen_ok, Sem.run_pure]
        rfl
    | st t p y n hnn =>
      simp only [sxEff] at h
      cases hp : a.eval p <;> rw [hp] at h <;> first | exact h.elim | skip
      rename_i A
      cases A with
      | none => exact h.elim
      | some A =>
        obtain ⟨hsp, k, hk, ho, hsz, hl, h1, hK⟩ := h
        obtain ⟨b, off, spot⟩ := A
        simp only at hsp hk hl hK
        subst hsp
        obtain ⟨w', hr, hsat⟩ := store_run (P := P) (a.eval y).cells.toList off 0 k H w hs hk ho (by simp; omega) h1
        refine wp_skip' (w' := w') ?_ (hn _ _ _ hsat hK)
        have hne : ¬ ((a.eval y).cells.size ≠ n) := by simp [hsz]
        simp only [execOp, Instr.storeAt, Instr.sureAddr, hp, Sem.run_bind, Sem.run_pure, Result.andThen_ok, storeVar, run_size hnn, if_neg hne, hr]
    | mk t e l c i z hu hi hz hsz =>
      simp only [sxEff] at h
      cases hl : a.eval l <;> rw [hl] at h <;> first | exact h.elim | skip
      cases hc : a.eval c <;> rw [hc] at h <;> first | exact h.elim | skip
      rename_i k1 l' k2 c'
      obtain ⟨h0, hlc, hb, h63, hK⟩ := h
      obtain ⟨zv, hz1, hz2⟩ := zero_info hi hz
      have hr := run_make (P := P) w t e i zv hu hi hz1 k1 k2 l' c' h0 hlc hb h63
      have hzs : i.size = zv.cells.size := by rw [hsz, ← hz2]; simp
      rw [hzs, made_repl, hz2] at hr
      obtain ⟨ha, hsat⟩ := sat_new (e := e) (cs := (repl z c'.toNat).toArray) hs rfl
      simp only [length_repl] at hsat
      refine wp_value (w' := w.alloc (.cells (repl z c'.toNat).toArray e)) ?_ (hn _ _ _ hsat (hK _ ha))
      simp only [execOp, Sem.run_bind, hl, hc, hr, Result.andThen_ok, Sem.run_pure]
    | eqs op ng t y z ty ho ha =>
      obtain ⟨r, hr, hK⟩ := h
      exact wp_value (eqs_run ho hr) (hn _ _ _ hs hK)
    | call fo args tys =>
      simp only [sxEff] at h
      cases hf : a.eval fo <;> rw [hf] at h <;> first | exact h.elim | skip
      rename_i fn fi ca
      cases fn <;> first | exact h.elim | skip
      rename_i f
      obtain ⟨⟨fn, hfn, hb, hname⟩, hc⟩ := h
      have hrun : (execOp a.eval ⟨dst, .call ⟨.value fo, args, tys⟩, ty, pos, after, guard⟩).run P w = .ok (.enter f (fi ++ args.map a.eval ++ ca)) w := by
        have hne : fn.body.isNone = false := by cases hb' : fn.body <;> simp_all
        simp only [execOp, resolve, hf, Deferred.ofValue, Sem.run_bind, Sem.run_pure, Result.andThen_ok, invoke, callFunc, run_program, hfn, hname, hne, Bool.false_eq_true, if_false]
      unfold Oper.wp
      rw [hrun, Oper.upon_enter]
      have hargs : (fi.toList ++ args.toList.map a.eval ++ ca.toList).toArray = fi ++ args.map a.eval ++ ca := Array.toList_inj.1 (by simp)
      have hc' := hc w hs
      rw [hargs] at hc'
      refine hc'.mono fun e' w' ⟨v, H', he, hs', hK⟩ => ?_
      subst he
      exact hn v H' w' hs' hK
    | app t e s y i z hu hi hz hsz h0 =>
      simp only [sxEff] at h
      cases hsv : a.eval s <;> rw [hsv] at h <;> first | exact h.elim | skip
      cases hyv : a.eval y <;> rw [hyv] at h <;> first | exact h.elim | skip
      rename_i sa n sc xa m xc
      have hex : ∀ (v : Value) (w' : World), (Builtin.append_ #[t, t] ty #[.slice sa n sc, .slice xa m xc]).run P w = .ok v w' → next (a.put dst v) w' → Oper.wp P ⟨dst, .call ⟨.builtin .append, #[s, y], #[t, t]⟩, ty, pos, after, guard⟩ a w next Q := by
        intro v w' hr hnx
        refine wp_value (w' := w') ?_ hnx
        simp only [execOp, resolve, invoke, builtin, Sem.run_bind, Sem.run_pure, Result.andThen_ok, List.map_toArray, List.map_cons, List.map_nil, hsv, hyv, hr]
      obtain ⟨zv, hz1, hz2⟩ := zero_info hi hz
      have hzs : zv.cells.size = z.length := by rw [← hz2]; simp
      rcases h with ⟨rfl, rfl, rfl, hK⟩ | ⟨xs, H1, news, hcase, hnl, hnews, h1, hm63, hbytes, hK⟩
      · exact hex _ _ (run_app_none hu hi sa xa xc) (hn _ _ _ hs hK)
      · rcases hcase with hhas | ⟨rfl, rfl, rfl, rfl, hm⟩
        · have hown := own_of_has hs hhas
          have hle := hhas.le
          have hnone := hhas.none
          cases xa with
          | none =>
            have hm : m = 0 := by
              rcases Nat.eq_zero_or_pos m with hm | hm
              · exact hm
              · exfalso
                have hlt : 0 < news.length := by rw [hnl]; exact Nat.mul_pos hm (by omega)
                have := hnews 0 _ (List.getElem?_eq_getElem hlt)
                cases this
            subst hm
            have hnn : news = [] := List.eq_nil_of_length_eq_zero (by simpa using hnl)
            subst hnn
            obtain ⟨H', ho, hsat⟩ := sat_of_own (hs.mono hle) hown hnone
            refine hex _ _ (run_app_nil hu hi hown xc) (hn _ _ _ hsat (hK _ _ ?_))
            simpa using ho
          | some xa =>
            obtain ⟨v', w', hr, hown', hg, _, hat⟩ := run_append_own_at (P := P) w w0.heap.size t ty e i zv z.length i.bytes hu hi hz1 hsz rfl hzs (by omega) _ n xs hown xa m xc news hnl
              (fun j u hj => hs.cell (hnews j u hj)) h1 hm63 hbytes hs.below.size
            have hs' : Sat w0 H1 w' := hs.of_grown hg (fun g hgg => ⟨(hown.lt g hgg).1, hnone g hgg⟩) hle
            obtain ⟨H', ho, hsat⟩ := sat_of_own hs' hown' (fun g hgg => by
              rcases hat with hat | hat
              · rw [hat] at hgg; exact hnone g hgg
              · rw [hat] at hgg
                obtain rfl := Option.some.inj hgg
                exact hle.none hs.fresh)
            exact hex _ _ hr (hn _ _ _ hsat (hK _ _ ho))
        · cases sa with
          | none =>
            have hown : w.ownsRow w0.heap.size e z.length (.slice none 0 0) 0 [] := ⟨by simp, .inl ⟨rfl, rfl⟩⟩
            cases xa with
            | none =>
              exfalso
              have hlt : 0 < news.length := by rw [hnl]; exact Nat.mul_pos hm (by omega)
              have := hnews 0 _ (List.getElem?_eq_getElem hlt)
              cases this
            | some xa =>
              obtain ⟨v', w', hr, hown', hg, _, hat⟩ := run_append_own_at (P := P) w w0.heap.size t ty e i zv z.length i.bytes hu hi hz1 hsz rfl hzs (by omega) _ 0 [] hown xa m xc news hnl
                (fun j u hj => hs.cell (hnews j u hj)) h1 hm63 hbytes hs.below.size
              have hs' : Sat w0 H1 w' := hs.of_grown hg (fun g hgg => by cases hgg) (.refl _)
              obtain ⟨H', ho, hsat⟩ := sat_of_own hs' hown' (fun g hgg => by
                rcases hat with hat | hat
                · rw [hat] at hgg; cases hgg
                · rw [hat] at hgg
                  obtain rfl := Option.some.inj hgg
                  exact hs.fresh)
              exact hex _ _ hr (hn _ _ _ hsat (hK _ _ ho))
          | some sa =>
            cases xa with
            | none =>
              exfalso
              have hlt : 0 < news.length := by rw [hnl]; exact Nat.mul_pos hm (by omega)
              have := hnews 0 _ (List.getElem?_eq_getElem hlt)
              cases this
            | some xa =>
              have hr := run_append_grow (P := P) w t ty e i zv hu hi hz1 sa 0 0 [] (by simp) (fun j v hj => by simp at hj) xa m xc news (by rw [hsz]; exact hnl) (fun j u hj => hs.cell (hnews j u hj)) (by omega)
                (by simp only [maxLen] at hm63; omega) (growslice_fits (by omega) hbytes)
              have hge := grownCap_ge w (0 + m) 0 e
              have hcm := grownCap_le_maxLen w (0 + m) 0 e hm63
              generalize grownCap w (0 + m) 0 e = cap at hr hge hcm
              obtain ⟨H', ho, hsat⟩ := own_new (e := e) (size := z.length) (n := 0 + m) (cap := cap) (xs := [] ++ news) (cs := (([] : List Value).toArray ++ news.toArray ++ Builtin.zeroCells zv.cells (cap - (0 + m)))) hs.drew hge hcm (by simpa using hnl)
                (by
                  have : cap = m + (cap - m) := by omega
                  simp only [Array.size_append, List.size_toArray, size_zeroCells, hzs, hnl, List.length_nil, Nat.zero_add, ← Nat.add_mul]
                  congr 1
                  omega)
                (fun j v hj => by
                  have hlt : j < news.length := by simpa using (List.getElem?_eq_some_iff.1 hj).1
                  simp only [List.nil_append] at hj
                  rw [Array.getElem?_append_left (by simpa using hlt)]
                  simpa using hj)
              exact hex _ _ hr (hn _ _ _ hsat (hK _ _ ho))
end
end Go.Proofs.Ytfjhjfddgdokgaa
namespace Go.Proofs.Ytfjhjfddgdokgaa
set_option linter.all false
open Go
def isData (e : Edge) : Bool := match e.ground with
  | .data => true
  | _ => false
theorem isData_binds {e : Edge} (h : isData e = true) : Region.binds .any e = true := by
  obtain ⟨on, g⟩ := e
  cases g <;> first | rfl | cases h
/-- Something has not come up yet that takes what an operation of hp yields. -/
def Left (hp : Nat → Bool) (ops : Array Oper) (listed : Array Bool) : Prop := ∃ (k : Nat) (o : Oper), ops[k]? = some o ∧ listed.getD k true = false ∧ ∃ e ∈ o.after, isData e = true ∧ hp e.on = true
/-- S: what stands as long as somebody looks at it (always, if z is false); S0: what stands always. -/
def Behind (P : Program) (ops : Array Oper) (Q : Exit → Act → World → Prop) (S0 S : World → Prop) (hp : Nat → Bool) (z : Bool) : Nat → Array Bool → Act → World → Prop
  | 0, listed, a, w => Region.ready .any ops listed = [] ∧ Q .normal a w
  | fuel + 1, listed, a, w => (Region.ready .any ops listed = [] → Q .normal a w) ∧
    ∀ i ∈ Region.ready .any ops listed, wpOp P ops Q i (fun a' w' => S0 w' ∧ ((z = false ∨ Left hp ops (listed.setIfInBounds i true)) → S w') ∧ Behind P ops Q S0 S hp z fuel (listed.setIfInBounds i true) a' w') a w
section
variable {P : Program} {ops : Array Oper} {Q : Exit → Act → World → Prop} {S0 S : World → Prop} {hp : Nat → Bool} {z : Bool}
theorem Behind.any : ∀ (fuel : Nat) (listed : Array Bool) (a : Act) (w : World), Behind P ops Q S0 S hp z fuel listed a w → wpAny P .any ops Q fuel listed a w
  | 0, _, _, _, h => h
  | fuel + 1, _, _, _, h => ⟨h.1, fun i hi => wpOp_mono (fun a' w' h' => Behind.any fuel _ a' w' h'.2.2) (h.2 i hi)⟩
/-- Somebody who has not come up takes what i yields. -/
def Wants (ops : Array Oper) (listed : Array Bool) (i : Nat) : Prop := ∃ (k : Nat) (o : Oper), ops[k]? = some o ∧ k ≠ i ∧ listed.getD k true = false ∧ ∃ e ∈ o.after, isData e = true ∧ e.on = i
theorem Wants.left {listed : Array Bool} {i : Nat} (h : Wants ops listed i) (hi : hp i = true) : Left hp ops (listed.setIfInBounds i true) := by
  obtain ⟨k, o, h1, h2, h3, e, h4, h5, h6⟩ := h
  exact ⟨k, o, h1, by rw [getD_set_ne true (Ne.symm h2)]; exact h3, e, h4, h5, by rw [h6]; exact hi⟩
theorem Wants.left0 {listed : Array Bool} {i : Nat} (h : Wants ops listed i) (hi : hp i = true) : Left hp ops listed := by
  obtain ⟨k, o, h1, h2, h3, e, h4, h5, h6⟩ := h
  exact ⟨k, o, h1, h3, e, h4, h5, by rw [h6]; exact hi⟩
theorem Left.less {listed : Array Bool} {i : Nat} (h : Left hp ops (listed.setIfInBounds i true)) : Left hp ops listed := by
  obtain ⟨k, o, h1, h3, h4⟩ := h
  refine ⟨k, o, h1, ?_, h4⟩
  by_cases hik : i = k
  · subst hik
    simp only [Array.getD_eq_getD_getElem?, Array.getElem?_setIfInBounds] at h3 ⊢
    by_cases hb : i < listed.size
    · simp [hb] at h3
    · simp [hb] at h3
  · rwa [getD_set_ne true hik] at h3
theorem ready_all {listed : Array Bool} {i : Nat} {o : Oper} (hi : ops[i]? = some o) (h : i ∈ Region.ready .any ops listed) : listed.getD i true = false ∧ ∀ e ∈ o.after, Region.binds .any e = true → listed.getD e.on false = true := by
  obtain ⟨h0, o', ho, hall⟩ := mem_ready.1 h
  rw [hi] at ho
  obtain rfl := Option.some.inj ho
  exact ⟨h0, hall⟩
theorem not_both {listed : Array Bool} {i : Nat} (h0 : listed.getD i true = false) (h1 : listed.getD i false = true) : False := by
  simp only [Array.getD_eq_getD_getElem?] at h0 h1
  cases h : listed[i]? with
  | none => rw [h] at h0; cases h0
  | some b => rw [h] at h0 h1; simp at h0 h1; rw [h0] at h1; cases h1
theorem Wants.step {listed : Array Bool} {i j : Nat} (h : Wants ops listed i) (hi : listed.getD i true = false) (hj : j ∈ Region.ready .any ops listed) : Wants ops (listed.setIfInBounds j true) i := by
  obtain ⟨k, o, h1, h2, h3, e, he, hb, hon⟩ := h
  refine ⟨k, o, h1, h2, ?_, e, he, hb, hon⟩
  by_cases hjk : j = k
  · subst hjk
    have := (ready_all h1 hj).2 e he (isData_binds hb)
    rw [hon] at this
    exact (not_both hi this).elim
  · rw [getD_set_ne true hjk]; exact h3
/-- An operation that looks at the heap, taken first. -/
theorem Behind.take {i : Nat} {oi : Oper} {v : Value} (hi : ops[i]? = some oi) (hs : Region.noSelect ops = true) (hQ : ∀ c a w, Q (.panic c) (a.put oi.dst v) w → Q (.panic c) a w) :
    ∀ (fuel : Nat) (listed : Array Bool) (a : Act) (w : World), (∀ (j : Nat) (oj : Oper), ops[j]? = some oj → j ≠ i → listed.getD j true = false → (∀ e ∈ oj.after, Region.binds .any e = true → e.on ≠ i) → oi.apart ops oj = true) →
      (z = true → hp i = true ∧ Wants ops listed i) → i ∈ Region.ready .any ops listed → YieldsIf P ops S oi v a → S0 w → S w →
      Behind P ops Q S0 S hp z fuel (listed.setIfInBounds i true) (a.put oi.dst v) w → Behind P ops Q S0 S hp z (fuel + 1) listed a w := by
  have hsel := Region.noSelect_spec hs
  intro fuel
  induction fuel with
  | zero =>
    intro listed a w _ _ hr hy hS0 hS hB
    refine ⟨fun h0 => (by rw [h0] at hr; cases hr), fun j hj => ?_⟩
    by_cases hji : j = i
    · subst hji; exact hy.wpOp hi hS ⟨hS0, fun _ => hS, hB⟩
    · have h0 := ready_mono hj hji
      rw [hB.1] at h0; cases h0
  | succ fuel ih =>
    intro listed a w hfree hwant hr hy hS0 hS hB
    refine ⟨fun h0 => (by rw [h0] at hr; cases hr), fun j hj => ?_⟩
    by_cases hji : j = i
    · subst hji; exact hy.wpOp hi hS ⟨hS0, fun _ => hS, hB⟩
    · obtain ⟨hju, oj, hoj, hall⟩ := mem_ready.1 hj
      have hiu : listed.getD i true = false := (mem_ready.1 hr).1
      have hnot : ∀ e ∈ oj.after, Region.binds .any e = true → e.on ≠ i := fun e he hb heq => not_both hiu (heq ▸ hall e he hb)
      have h2 := wpOp_putIf hoj (hfree j oj hoj hji hju hnot) (fun cs b => hsel i oi cs b hi) (fun cs b => hsel j oj cs b hoj) hQ hy (hB.2 j (ready_mono hj hji))
      refine wpOp_mono (fun a' w' h3 => ?_) h2
      have hS' : S w' := h3.2.2.1 (by
        cases z with
        | false => exact .inl rfl
        | true =>
          refine .inr ?_
          have := ((hwant rfl).2.step hiu hj).left (hwant rfl).1
          rwa [Array.setIfInBounds_comm _ _ hji] at this)
      refine ⟨h3.2.1, fun _ => hS', ih _ a' w' (fun k ok hk hki hun hno => hfree k ok hk hki ?_ hno) (fun hz => ⟨(hwant hz).1, (hwant hz).2.step hiu hj⟩) (ready_mono hr (Ne.symm hji)) h3.1 h3.2.1 hS' ?_⟩
      · by_cases hjk : j = k
        · subst hjk; exact hju
        · rwa [getD_set_ne true hjk] at hun
      · rw [Array.setIfInBounds_comm _ _ hji]; exact h3.2.2.2
/-- An operation that does not, taken first. -/
theorem Behind.take0 {i : Nat} {oi : Oper} {v : Value} (hi : ops[i]? = some oi) (hi0 : ∀ e ∈ oi.after, isData e = true → hp e.on = false) (hs : Region.noSelect ops = true) (hQ : ∀ c a w, Q (.panic c) (a.put oi.dst v) w → Q (.panic c) a w) :
    ∀ (fuel : Nat) (listed : Array Bool) (a : Act) (w : World), (∀ (j : Nat) (oj : Oper), ops[j]? = some oj → j ≠ i → listed.getD j true = false → (∀ e ∈ oj.after, Region.binds .any e = true → e.on ≠ i) → oi.apart ops oj = true) →
      i ∈ Region.ready .any ops listed → YieldsIf P ops S0 oi v a → S0 w → ((z = false ∨ Left hp ops (listed.setIfInBounds i true)) → S w) →
      Behind P ops Q S0 S hp z fuel (listed.setIfInBounds i true) (a.put oi.dst v) w → Behind P ops Q S0 S hp z (fuel + 1) listed a w := by
  have hsel := Region.noSelect_spec hs
  intro fuel
  induction fuel with
  | zero =>
    intro listed a w _ hr hy hS0 hS hB
    refine ⟨fun h0 => (by rw [h0] at hr; cases hr), fun j hj => ?_⟩
    by_cases hji : j = i
    · subst hji; exact hy.wpOp hi hS0 ⟨hS0, hS, hB⟩
    · have h0 := ready_mono hj hji
      rw [hB.1] at h0; cases h0
  | succ fuel ih =>
    intro listed a w hfree hr hy hS0 hS hB
    refine ⟨fun h0 => (by rw [h0] at hr; cases hr), fun j hj => ?_⟩
    by_cases hji : j = i
    · subst hji; exact hy.wpOp hi hS0 ⟨hS0, hS, hB⟩
    · obtain ⟨hju, oj, hoj, hall⟩ := mem_ready.1 hj
      have hiu : listed.getD i true = false := (mem_ready.1 hr).1
      have hnot : ∀ e ∈ oj.after, Region.binds .any e = true → e.on ≠ i := fun e he hb heq => not_both hiu (heq ▸ hall e he hb)
      have h2 := wpOp_putIf hoj (hfree j oj hoj hji hju hnot) (fun cs b => hsel i oi cs b hi) (fun cs b => hsel j oj cs b hoj) hQ hy (hB.2 j (ready_mono hj hji))
      refine wpOp_mono (fun a' w' h3 => ?_) h2
      have hS' : (z = false ∨ Left hp ops ((listed.setIfInBounds j true).setIfInBounds i true)) → S w' := by
        rw [← Array.setIfInBounds_comm _ _ (Ne.symm hji)]; exact h3.2.2.1
      refine ⟨h3.2.1, fun hc => ?_, ih _ a' w' (fun k ok hk hki hun hno => hfree k ok hk hki ?_ hno) (ready_mono hr (Ne.symm hji)) h3.1 h3.2.1 hS' ?_⟩
      · refine h3.2.2.1 (hc.imp id fun hl => ?_)
        obtain ⟨k, o, g1, g2, e, g3, g4, g5⟩ := hl
        have hki : ¬ i = k := by
          rintro rfl
          rw [hi] at g1
          obtain rfl := Option.some.inj g1
          rw [hi0 e g3 g4] at g5; cases g5
        refine ⟨k, o, g1, ?_, e, g3, g4, g5⟩
        rw [Array.setIfInBounds_comm _ _ (Ne.symm hji), getD_set_ne true hki]
        exact g2
      · by_cases hjk : j = k
        · subst hjk; exact hju
        · rwa [getD_set_ne true hjk] at hun
      · rw [Array.setIfInBounds_comm _ _ hji]; exact h3.2.2.2
theorem Behind.all {rs : List Nat} {fuel : Nat} {listed : Array Bool} {a : Act} {w : World} (hr : Region.ready .any ops listed = rs) (hne : rs ≠ [])
    (h : ∀ i ∈ rs, wpOp P ops Q i (fun a' w' => S0 w' ∧ ((z = false ∨ Left hp ops (listed.setIfInBounds i true)) → S w') ∧ Behind P ops Q S0 S hp z fuel (listed.setIfInBounds i true) a' w') a w) : Behind P ops Q S0 S hp z (fuel + 1) listed a w :=
  ⟨fun h0 => absurd (hr ▸ h0) hne, hr ▸ h⟩
theorem Behind.done {listed : Array Bool} {a : Act} {w : World} (hr : Region.ready .any ops listed = []) (h : Q .normal a w) : ∀ fuel, Behind P ops Q S0 S hp z fuel listed a w
  | 0 => ⟨hr, h⟩
  | _ + 1 => ⟨fun _ => h, by rw [hr]; simp⟩
theorem Behind.region {id : Nat} {a : Act} {w : World} (hm : P.follows .mixedOrders = true) (h : Behind P ops Q S0 S hp z ops.size (Array.replicate ops.size false) a w.drew) : (Code.region id ops true).wp P Q a w :=
  wp_region_any hm (Behind.any _ _ _ _ h)
end
def wants (ops : Array Oper) (listed : Array Bool) (i : Nat) : Bool := (List.range ops.size).any fun k => k != i && !(listed.getD k true) && (match ops[k]? with | some o => o.after.any (fun e => isData e && e.on == i) | none => false)
theorem wants_spec {ops : Array Oper} {listed : Array Bool} {i : Nat} (h : wants ops listed i = true) : Wants ops listed i := by
  simp only [wants, List.any_eq_true, Bool.and_eq_true, bne_iff_ne, Bool.not_eq_true'] at h
  obtain ⟨k, _, ⟨h1, h2⟩, h3⟩ := h
  split at h3
  · rename_i o ho
    simp only [Array.any_eq_true', Bool.and_eq_true, beq_iff_eq] at h3
    obtain ⟨e, he, hb, hon⟩ := h3
    exact ⟨k, o, ho, h1, h2, e, he, hb, hon⟩
  · cases h3
/-- Nobody who is left looks at the heap's loads. -/
def noneLeft (hp : Nat → Bool) (ops : Array Oper) (listed : Array Bool) : Bool := (List.range ops.size).all fun k => listed.getD k true || (match ops[k]? with | some o => o.after.all (fun e => !(isData e && hp e.on)) | none => true)
theorem noneLeft_spec {hp : Nat → Bool} {ops : Array Oper} {listed : Array Bool} (h : noneLeft hp ops listed = true) : ¬ Left hp ops listed := by
  rintro ⟨k, o, h1, h2, e, h3, h4, h5⟩
  simp only [noneLeft, List.all_eq_true, List.mem_range, Bool.or_eq_true] at h
  have hk := h k (Array.getElem?_eq_some_iff.1 h1).1
  rw [h1, h2] at hk
  simp only [Array.all_eq_true', Bool.false_eq_true, false_or] at hk
  have := hk e h3
  rw [h4, h5] at this; cases this
def lone (hp : Nat → Bool) (o : Oper) : Bool := o.after.all fun e => !(isData e && hp e.on)
theorem lone_spec {hp : Nat → Bool} {o : Oper} (h : lone hp o = true) : ∀ e ∈ o.after, isData e = true → hp e.on = false := by
  intro e he hd
  simp only [lone, Array.all_eq_true'] at h
  have := h e he
  rw [hd] at this
  simpa using this
end Go.Proofs.Ytfjhjfddgdokgaa
namespace Go.Proofs.Ytfjhjfddgdokgaa
set_option linter.all false
open Go Go.RowKit
set_option linter.unusedSimpArgs false
/-- An order of a region that draws: 'take': may come first, whatever comes else; 'alt': what comes next, or else another; 'last': what comes at the very end, or else another; 'free': what comes next when no load is left to come, or else another. -/
inductive Sch where
  | done
  | take (o : XO) (r : Sch)
  | alt (o : XO) (r : Sch) (more : Sch)
  | last (o : XO) (more : Sch)
  | free (o : XO) (r : Sch) (more : Sch)
  | none_
inductive XC where
  | skip
  | ops (l : List XO)
  | draw (s : Sch)
  | seq (a b : XC)
  | cond (c : Operand) (a b : XC)
  | block (id : Nat) (c : XC)
  | loop (c : XC)
  | exit (id : Nat)
  | ret
def floats : X → Bool
  | .eqs .. => true
  | x => x.isVal
/-- A load from a block that the same region makes: not to be taken ahead of the others. -/
def late (P : Program) (N : Nat) (ops : Array Oper) (x : X) : Bool :=
  let xs := ops.toList.filterMap (XO.of P N ops)
  let made (t : Nat) : Bool := xs.any fun d => d.dst == some t && (match d.x with
    | .lit .. => true
    | .new .. => true
    | .box .. => true
    | .mks .. => true
    | _ => false)
  let at_ (t : Nat) : Bool := made t || xs.any fun d => d.dst == some t && (match d.x with
    | .idx _ (.tmp u) _ => made u
    | .fld _ (.tmp u) => made u
    | _ => false)
  match x with
  | .ld (.tmp t) => at_ t
  | .ldn _ (.tmp t) => at_ t
  | _ => false
def Sch.isDone : Sch → Bool
  | .done => true
  | _ => false
/-- What looks at no heap. -/
def light : X → Bool
  | .mov .. => true
  | .fld .. => true
  | .idx .. => true
  | .ida .. => true
  | _ => false
/-- The operations that hang on what a heap holds, and may be taken early. -/
def hangs (P : Program) (N : Nat) (ops : Array Oper) : Array Bool :=
  ops.foldl (fun acc o => acc.push ((match XO.of P N ops o with | some x => floats x.x && !light x.x | none => true) || ((match XO.of P N ops o with | some x => floats x.x | none => true) && o.after.any (fun e => isData e && acc.getD e.on true)))) #[]
def Sch.of (P : Program) (N : Nat) (ops : Array Oper) (hp : Nat → Bool) (z : Bool) : (fuel : Nat) → Array Bool → Option Sch
  | 0, listed => if Region.ready .any ops listed = [] then some .done else none
  | fuel + 1, listed =>
    let rs := Region.ready .any ops listed
    if rs = [] then some .done else
    match rs.find? (fun i => Region.free .any ops listed i && (match (ops[i]?).bind (XO.of P N ops) with | some o => floats o.x && !late P N ops o.x && (!z || (hp i && wants ops listed i) || (light o.x && (match ops[i]? with | some oi => lone hp oi | none => false))) | none => false)) with
    | some i => match (ops[i]?).bind (XO.of P N ops), Sch.of P N ops hp z fuel (listed.setIfInBounds i true) with
      | some o, some r => some (.take o r)
      | _, _ => none
    | none => rs.foldr (fun i acc => match (ops[i]?).bind (XO.of P N ops), Sch.of P N ops hp z fuel (listed.setIfInBounds i true), acc with
      | some o, some r, some m => some (if z && noneLeft hp ops (listed.setIfInBounds i true) then (if r.isDone then .last o m else .free o r m) else .alt o r m)
      | _, _, _ => none) (some .none_)
/-- A store into an array some of whose places are read in the same region. -/
def inPlace (P : Program) (N : Nat) (ops : Array Oper) : Bool :=
  let xs := ops.toList.filterMap (XO.of P N ops)
  let same (b b' : Nat) : Bool := xs.any fun l => (match l.dst with | some u => u == b | none => false) && (match l.x with
    | .ld (.tmp f) => xs.any fun l' => (match l'.dst with | some u => u == b' | none => false) && (match l'.x with
      | .ld (.tmp f') => xs.any fun g => (match g.dst with | some u => u == f | none => false) && (match g.x with
        | .fld n (.tmp p) => xs.any fun g' => (match g'.dst with | some u => u == f' | none => false) && (match g'.x with
          | .fld n' (.tmp p') => n == n' && p == p'
          | _ => false)
        | _ => false)
      | _ => false)
    | _ => false)
  xs.any fun s => match s.x with
    | .st _ (.tmp t) _ => xs.any fun d => (match d.dst with | some u => u == t | none => false) && (match d.x with
      | .ida _ _ (.tmp b) _ => xs.any fun d' => (match d'.dst with | some u => u != t | none => false) && (match d'.x with
        | .ida _ _ (.tmp b') _ => b == b'
        | _ => false)
      | .fld n (.tmp b) => xs.any fun d' => (match d'.dst with | some u => u != t | none => false) && (match d'.x with
        | .fld n' (.tmp b') => n == n' && b == b'
        | _ => false)
      | .idx _ (.tmp b) _ => xs.any fun d' => (match d'.dst with | some u => u != t | none => false) && (match d'.x with
        | .idx _ (.tmp b') _ => b != b' && same b b'
        | _ => false)
      | _ => false)
    | _ => false
/-- A region of values alone: in the order of the takes. -/
def Sch.flat : Sch → Option (List XO)
  | .done => some []
  | .take o r => (Sch.flat r).map (o :: ·)
  | _ => none
def Sch.code (s : Sch) : XC := match s.flat with
  | some l => .ops l
  | none => .draw s
def XC.of (P : Program) (N : Nat) : Code → Option XC
  | .skip => some .skip
  | .region _ os false => (os.toList.mapM (XO.of P N os)).map .ops
  | .region _ os true => if Region.noSelect os then (Sch.of P N os ((hangs P N os).getD · true) (inPlace P N os) os.size (Array.replicate os.size false)).map Sch.code else none
  | .seq a b => match XC.of P N a, XC.of P N b with
    | some a, some b => some (.seq a b)
    | _, _ => none
  | .cond c a b => match XC.of P N a, XC.of P N b with
    | some a, some b => some (.cond c a b)
    | _, _ => none
  | .block id c => (XC.of P N c).map (.block id)
  | .loop c => (XC.of P N c).map .loop
  | .exit id => some (.exit id)
  | .ret => some .ret
  | _ => none
/-- A value that may be had at any time, or is not wanted. -/
def sxTake (P : Program) (o : XO) (K : Value → Prop) (fr : Fr) (H : AHeap) : Prop := match o.guard with
  | none => sxVal P o.x fr.ev H K
  | some (t, b) => match fr t with
    | .bool c => (c = b → sxVal P o.x fr.ev H K) ∧ (c ≠ b → K undef)
    | _ => K undef
def sxSch (P : Program) (w0 : World) (Hp : AHeap) : Sch → (Fr → AHeap → Prop) → Fr → AHeap → Prop
  | .done, K, fr, H => K fr H
  | .take o r, K, fr, H => sxTake P o (fun v => sxSch P w0 Hp r K (putD fr o.dst v) H) fr Hp
  | .alt o r m, K, fr, H => sxOp P w0 o (fun fr' H' => AHeap.le Hp H' ∧ sxSch P w0 Hp r K fr' H') fr H ∧ sxSch P w0 Hp m K fr H
  | .last o m, K, fr, H => sxOp P w0 o K fr H ∧ sxSch P w0 Hp m K fr H
  | .free o r m, K, fr, H => sxOp P w0 o (fun fr' H' => sxSch P w0 Hp r K fr' H') fr H ∧ sxSch P w0 Hp m K fr H
  | .none_, _, _, _ => True
section
variable {P : Program} {w0 : World} {N : Nat}
theorem Sim.putD {fr : Fr} {a : Act} (h : Sim N fr a) {d : Option Nat} (hd : dstOk N d = true) (v : Value) : Sim N (putD fr d v) (a.put d v) := by
  cases d with
  | none => exact h
  | some d => exact h.put (by simpa [dstOk] using hd) v
theorem of_parts {ops : Array Oper} {o : Oper} {x : XO} (h : XO.of P N ops o = some x) : X.of P o.op = some x.x ∧ x.dst = o.dst ∧ dstOk N o.dst = true ∧
    ((o.guard = none ∧ x.guard = none) ∨ ∃ j b t, o.guard = some (j, b) ∧ x.guard = some (t, b) ∧ (ops[j]?).bind (·.dst) = some t ∧ t < N) := by
  unfold XO.of at h
  split at h
  · cases h
  · rename_i x' hx
    split at h
    · rename_i hd
      split at h
      · rename_i hg
        obtain rfl := Option.some.inj h
        exact ⟨hx, rfl, hd, .inl ⟨hg, rfl⟩⟩
      · rename_i j b hg
        split at h
        · rename_i t ht
          split at h
          · rename_i hlt
            obtain rfl := Option.some.inj h
            exact ⟨hx, rfl, hd, .inr ⟨j, b, t, hg, rfl, ht, hlt⟩⟩
          · cases h
        · cases h
    · cases h
theorem wanted_guard {ops : Array Oper} {o : Oper} {fr : Fr} {a : Act} (hs : Sim N fr a) {j : Nat} {b : Bool} {t : Nat} (hg : o.guard = some (j, b)) (ht : (ops[j]?).bind (·.dst) = some t) (hlt : t < N) {c : Bool} (hc : fr t = .bool c) :
    Region.wanted o (yielded ops a.tmps) = (c == b) := by
  have hv : a.tmps[t]? = some (.bool c) := by
    have h1 := hs.at_ t
    rw [hc] at h1
    have hl : t < a.tmps.size := by rw [hs.size]; exact hlt
    simp only [Array.getD_eq_getD_getElem?] at h1
    rw [Array.getElem?_eq_getElem hl] at h1 ⊢
    simpa using h1
  simp only [Region.wanted, hg, yielded, ht, Option.bind_some, hv]
  cases c <;> cases b <;> rfl
theorem wanted_none {ops : Array Oper} {o : Oper} {fr : Fr} {a : Act} (hs : Sim N fr a) {j : Nat} {b : Bool} {t : Nat} (hg : o.guard = some (j, b)) (ht : (ops[j]?).bind (·.dst) = some t) (hlt : t < N) (hc : ∀ c, fr t ≠ .bool c) :
    Region.wanted o (yielded ops a.tmps) = false := by
  have hv : a.tmps[t]? = some (fr t) := by
    have h1 := hs.at_ t
    have hl : t < a.tmps.size := by rw [hs.size]; exact hlt
    simp only [Array.getD_eq_getD_getElem?] at h1
    rw [Array.getElem?_eq_getElem hl] at h1 ⊢
    simpa using h1
  simp only [Region.wanted, hg, yielded, ht, Option.bind_some, hv]
  cases hf : fr t <;> first | rfl | exact absurd hf (hc _)
theorem op_sound {ops : Array Oper} {o : Oper} {x : XO} (hx : XO.of P N ops o = some x) {fr : Fr} {H : AHeap} {K : Fr → AHeap → Prop} {a : Act} {w : World} (h : sxOp P w0 x K fr H) (hsim : Sim N fr a) (hs : Sat w0 H w)
    {next : Act → World → Prop} {Q : Exit → Act → World → Prop} (hn : ∀ fr' H' a' w', Sim N fr' a' → Sat w0 H' w' → K fr' H' → next a' w') :
    if Region.wanted o (yielded ops a.tmps) then o.wp P a w next Q else next (a.put o.dst undef) w := by
  obtain ⟨h1, h2, h3, h4⟩ := of_parts hx
  have main : sxEff P w0 x.x fr.ev H (fun v H' => K (putD fr x.dst v) H') → o.wp P a w next Q := fun hh => by
    rw [← hsim.ev] at hh
    exact eff_sound h1 hh hs fun v H' w' hs' hK => hn _ _ _ _ (by rw [h2]; exact hsim.putD h3 v) hs' hK
  rcases h4 with ⟨hg, hg'⟩ | ⟨j, b, t, hg, hg', ht, hlt⟩
  · have hw : Region.wanted o (yielded ops a.tmps) = true := by simp [Region.wanted, hg]
    rw [if_pos hw]
    simp only [sxOp, hg'] at h
    exact main h
  · simp only [sxOp, hg'] at h
    by_cases hbool : ∃ c, fr t = .bool c
    case neg =>
      have hno : ∀ c, fr t ≠ .bool c := fun c hc => hbool ⟨c, hc⟩
      have h' : K (putD fr x.dst undef) H := by
        cases hf : fr t <;> rw [hf] at h <;> first | exact h | exact absurd hf (hno _)
      rw [wanted_none hsim hg ht hlt hno, if_neg (by simp)]
      exact hn _ _ _ _ (by rw [← h2]; exact hsim.putD (by rw [h2]; exact h3) undef) hs h'
    obtain ⟨c, hc⟩ := hbool
    rw [hc] at h
    rw [wanted_guard hsim hg ht hlt hc]
    by_cases hcb : c = b
    · rw [if_pos (by simpa using hcb)]
      exact main (h.1 hcb)
    · rw [if_neg (by simpa using hcb)]
      exact hn _ _ _ _ (by rw [← h2]; exact hsim.putD (by rw [h2]; exact h3) undef) hs (h.2 hcb)
theorem ops_sound {ops : Array Oper} {Q : Exit → Act → World → Prop} : ∀ (l : List Nat) (xs : List XO), (xs.length = l.length) → (∀ (i j : Nat) (x : XO), l[i]? = some j → xs[i]? = some x → ∃ o, ops[j]? = some o ∧ XO.of P N ops o = some x) →
    ∀ (fr : Fr) (H : AHeap) (K : Fr → AHeap → Prop) (a : Act) (w : World), sxOps P w0 xs K fr H → Sim N fr a → Sat w0 H w →
    (∀ fr' H' a' w', Sim N fr' a' → Sat w0 H' w' → K fr' H' → Q .normal a' w') → wpOps P ops Q l a w
  | [], [], _, _, fr, H, K, a, w, h, hsim, hs, hn => hn _ _ _ _ hsim hs h
  | [], x :: xs, hl, _, _, _, _, _, _, _, _, _, _ => by simp at hl
  | j :: l, [], hl, _, _, _, _, _, _, _, _, _, _ => by simp at hl
  | j :: l, x :: xs, hl, hat, fr, H, K, a, w, h, hsim, hs, hn => by
    obtain ⟨o, ho, hx⟩ := hat 0 j x rfl rfl
    simp only [wpOps, ho]
    have := op_sound (Q := Q) (next := wpOps P ops Q l) hx h hsim hs fun fr' H' a' w' hsim' hs' hK =>
      ops_sound l xs (by simpa using hl) (fun i j' x' h1 h2 => hat (i + 1) j' x' (by simpa using h1) (by simpa using h2)) fr' H' K a' w' hK hsim' hs' hn
    split
    · rename_i hw
      rw [if_pos hw] at this
      exact .inl this
    · rename_i hw
      rw [if_neg hw] at this
      exact this
theorem take_sound {ops : Array Oper} {o : Oper} {x : XO} (hx : XO.of P N ops o = some x) (hf : floats x.x = true) {fr : Fr} {Hp : AHeap} {K : Value → Prop} {a : Act} (h : sxTake P x K fr Hp) (hsim : Sim N fr a) :
    ∃ v, YieldsIf P ops (Sat w0 Hp) o v a ∧ K v := by
  obtain ⟨h1, h2, h3, h4⟩ := of_parts hx
  have main : sxVal P x.x fr.ev Hp K → ∃ v, (∀ w, Sat w0 Hp w → (execOp a.eval o).run P w = .ok (.value v) w) ∧ K v := fun hh => by
    rw [← hsim.ev] at hh
    rcases of_cases h1 with hv | he
    · have e : sxVal P x.x a.eval Hp K = needs (x.x.val a.eval Hp) K := by
        cases hxx : x.x <;> rw [hxx] at hv <;> first | rfl | (cases hv; done)
      rw [e] at hh
      obtain ⟨v, hv', hK⟩ := needs_elim hh
      exact ⟨v, fun w hs => val_sound h1 hv' hs, hK⟩
    · obtain ⟨dst, op, ty, pos, after, guard⟩ := o
      obtain ⟨xd, xx, xg⟩ := x
      simp only at he hf hh h1
      cases he <;> first | (cases hf; done) | skip
      rename_i op ng t y z ty' ho ha
      obtain ⟨r, hr, hK⟩ := hh
      exact ⟨_, fun w _ => eqs_run ho hr, hK⟩
  rcases h4 with ⟨hg, hg'⟩ | ⟨j, b, t, hg, hg', ht, hlt⟩
  · simp only [sxTake, hg'] at h
    obtain ⟨v, hv, hK⟩ := main h
    exact ⟨v, .inl ⟨by simp [Region.wanted, hg], hv⟩, hK⟩
  · simp only [sxTake, hg'] at h
    by_cases hbool : ∃ c, fr t = .bool c
    case neg =>
      have hno : ∀ c, fr t ≠ .bool c := fun c hc => hbool ⟨c, hc⟩
      have h' : K undef := by
        cases hf : fr t <;> rw [hf] at h <;> first | exact h | exact absurd hf (hno _)
      exact ⟨undef, .inr ⟨wanted_none hsim hg ht hlt hno, rfl⟩, h'⟩
    obtain ⟨c, hc⟩ := hbool
    rw [hc] at h
    have hw := wanted_guard hsim hg ht hlt hc
    by_cases hcb : c = b
    · obtain ⟨v, hv, hK⟩ := main (h.1 hcb)
      exact ⟨v, .inl ⟨by rw [hw]; simpa using hcb, hv⟩, hK⟩
    · exact ⟨undef, .inr ⟨by rw [hw]; simpa using hcb, rfl⟩, h.2 hcb⟩
theorem light_same {x : X} {ρ : Operand → Value} {H H' : AHeap} {K : Value → Prop} (hl : light x = true) (h : sxVal P x ρ H K) : sxVal P x ρ H' K := by
  cases x <;> first | (cases hl; done) | exact h
theorem light_take {x : XO} {fr : Fr} {H H' : AHeap} {K : Value → Prop} (hl : light x.x = true) (h : sxTake P x K fr H) : sxTake P x K fr H' := by
  unfold sxTake at h ⊢
  split
  · rename_i hg; rw [hg] at h; exact light_same hl h
  · rename_i t b hg
    rw [hg] at h
    simp only at h
    split
    · rename_i c hc
      rw [hc] at h
      exact ⟨fun e => light_same hl (h.1 e), h.2⟩
    · rename_i hc
      cases ht : fr t with
      | bool c => exact absurd ht (hc c)
      | _ => rw [ht] at h; exact h
def AHeap.nil : AHeap := fun _ => none
theorem nil_le (H : AHeap) : AHeap.le .nil H := fun _ _ h => by cases h
theorem alts_at {ops : Array Oper} {hp : Nat → Bool} {z : Bool} {fuel : Nat} {listed : Array Bool} {Hp : AHeap} {K : Fr → AHeap → Prop} {fr : Fr} {H : AHeap} : ∀ (l : List Nat) (s : Sch),
    l.foldr (fun i acc => match (ops[i]?).bind (XO.of P N ops), Sch.of P N ops hp z fuel (listed.setIfInBounds i true), acc with
      | some o, some r, some m => some (if z && noneLeft hp ops (listed.setIfInBounds i true) then (if r.isDone then .last o m else .free o r m) else .alt o r m)
      | _, _, _ => none) (some .none_) = some s → sxSch P w0 Hp s K fr H →
    ∀ i ∈ l, ∃ o r, (ops[i]?).bind (XO.of P N ops) = some o ∧ Sch.of P N ops hp z fuel (listed.setIfInBounds i true) = some r ∧ (sxOp P w0 o (fun fr' H' => AHeap.le Hp H' ∧ sxSch P w0 Hp r K fr' H') fr H ∨ ((z = true ∧ noneLeft hp ops (listed.setIfInBounds i true) = true) ∧ sxOp P w0 o (fun fr' H' => sxSch P w0 Hp r K fr' H') fr H))
  | [], _, _, _, i, hi => by cases hi
  | j :: l, s, h, hs, i, hi => by
    simp only [List.foldr_cons] at h
    split at h
    · rename_i o r m h1 h2 h3
      obtain rfl := Option.some.inj h
      split at hs
      · rename_i hz
        simp only [Bool.and_eq_true] at hz
        split at hs
        · rename_i hd
          have hr : r = .done := by cases r <;> first | rfl | cases hd
          subst hr
          simp only [sxSch] at hs
          rcases List.mem_cons.1 hi with rfl | hi
          · exact ⟨o, _, h1, h2, .inr ⟨hz, hs.1⟩⟩
          · exact alts_at l m h3 hs.2 i hi
        · simp only [sxSch] at hs
          rcases List.mem_cons.1 hi with rfl | hi
          · exact ⟨o, r, h1, h2, .inr ⟨hz, hs.1⟩⟩
          · exact alts_at l m h3 hs.2 i hi
      · simp only [sxSch] at hs
        rcases List.mem_cons.1 hi with rfl | hi
        · exact ⟨o, r, h1, h2, .inl hs.1⟩
        · exact alts_at l m h3 hs.2 i hi
    · cases h
theorem sch_sound {ops : Array Oper} {hp : Nat → Bool} {z : Bool} {Q : Exit → Act → World → Prop} {Hp : AHeap} {K : Fr → AHeap → Prop} (hsel : Region.noSelect ops = true) (hQ : ∀ c a w, ¬ Q (.panic c) a w)
    (hn : ∀ fr' H' a' w', Sim N fr' a' → Sat w0 H' w' → K fr' H' → Q .normal a' w') : ∀ (fuel : Nat) (listed : Array Bool) (s : Sch), Sch.of P N ops hp z fuel listed = some s →
    ∀ (fr : Fr) (H : AHeap) (a : Act) (w : World), sxSch P w0 Hp s K fr H → Sim N fr a → Sat w0 H w → ((z = false ∨ Left hp ops listed) → AHeap.le Hp H) → Behind P ops Q (Sat w0 .nil) (Sat w0 Hp) hp z fuel listed a w
  | 0, listed, s, h, fr, H, a, w, hh, hsim, hs, hle => by
    simp only [Sch.of] at h
    split at h
    · rename_i hr
      obtain rfl := Option.some.inj h
      exact ⟨hr, hn _ _ _ _ hsim hs hh⟩
    · cases h
  | fuel + 1, listed, s, h, fr, H, a, w, hh, hsim, hs, hle => by
    simp only [Sch.of] at h
    split at h
    · rename_i hr
      obtain rfl := Option.some.inj h
      exact Behind.done hr (hn _ _ _ _ hsim hs hh) _
    · rename_i hne
      split at h
      · rename_i i hi
        split at h
        · rename_i o r ho hr
          obtain rfl := Option.some.inj h
          obtain ⟨oi, hoi, hxo⟩ := Option.bind_eq_some_iff.1 ho
          have hpp := List.find?_some hi
          have hm := List.mem_of_find?_eq_some hi
          simp only [hoi, Option.bind_some, hxo, Bool.and_eq_true, Bool.or_eq_true, Bool.not_eq_true'] at hpp
          simp only [sxSch] at hh
          obtain ⟨hfree, ⟨hfl, _⟩, hk⟩ := hpp
          obtain ⟨_, h2, h3, _⟩ := of_parts hxo
          have rest : (z = false ∨ (hp i = true ∧ wants ops listed i = true)) → Behind P ops Q (Sat w0 .nil) (Sat w0 Hp) hp z (fuel + 1) listed a w := by
            intro hk
            have hle' : AHeap.le Hp H := hle (hk.imp id fun e => (wants_spec e.2).left0 e.1)
            obtain ⟨v, hy, hK⟩ := take_sound (w0 := w0) hxo hfl hh hsim
            refine Behind.take hoi hsel (fun c a w hq => absurd hq (hQ _ _ _)) _ _ _ _ (Region.free_spec hoi hfree) (fun hz => ?_) hm hy (hs.mono (nil_le _)) (hs.mono hle') ?_
            · have := hk.resolve_left (by rw [hz]; simp)
              exact ⟨this.1, wants_spec this.2⟩
            · exact sch_sound hsel hQ hn fuel _ r hr _ H _ w hK (by rw [h2]; exact hsim.putD h3 v) hs fun _ => hle'
          rcases hk with hk | hk
          · exact rest hk
          · obtain ⟨v, hy, hK⟩ := take_sound (w0 := w0) hxo hfl (light_take (H' := .nil) hk.1 hh) hsim
            have hle' : (z = false ∨ Left hp ops (listed.setIfInBounds i true)) → AHeap.le Hp H := fun hc => hle (hc.imp id Left.less)
            refine Behind.take0 hoi (lone_spec hk.2) hsel (fun c a w hq => absurd hq (hQ _ _ _)) _ _ _ _ (Region.free_spec hoi hfree) hm hy (hs.mono (nil_le _)) (fun hc => hs.mono (hle' hc)) ?_
            exact sch_sound hsel hQ hn fuel _ r hr _ H _ w hK (by rw [h2]; exact hsim.putD h3 v) hs hle'
        · cases h
      · refine Behind.all rfl hne fun i hi => ?_
        obtain ⟨o, r, ho, hr, hop⟩ := alts_at _ s h hh i hi
        obtain ⟨oi, hoi, hxo⟩ := Option.bind_eq_some_iff.1 ho
        have : if Region.wanted oi (yielded ops a.tmps) then oi.wp P a w (fun a' w' => Sat w0 .nil w' ∧ ((z = false ∨ Left hp ops (listed.setIfInBounds i true)) → Sat w0 Hp w') ∧ Behind P ops Q (Sat w0 .nil) (Sat w0 Hp) hp z fuel (listed.setIfInBounds i true) a' w') Q else (fun a' w' => Sat w0 .nil w' ∧ ((z = false ∨ Left hp ops (listed.setIfInBounds i true)) → Sat w0 Hp w') ∧ Behind P ops Q (Sat w0 .nil) (Sat w0 Hp) hp z fuel (listed.setIfInBounds i true) a' w') (a.put oi.dst undef) w := by
          rcases hop with hop | ⟨e, hop⟩
          · exact op_sound (Q := Q) hxo hop hsim hs fun fr' H' a' w' hsim' hs' hK =>
              ⟨hs'.mono (nil_le _), fun _ => hs'.mono hK.1, sch_sound hsel hQ hn fuel _ r hr fr' H' a' w' hK.2 hsim' hs' fun _ => hK.1⟩
          · have hno : ¬ (z = false ∨ Left hp ops (listed.setIfInBounds i true)) := fun hc => hc.elim (fun hz => by rw [e.1] at hz; cases hz) (noneLeft_spec e.2)
            exact op_sound (Q := Q) hxo hop hsim hs fun fr' H' a' w' hsim' hs' hK =>
              ⟨hs'.mono (nil_le _), fun hc => absurd hc hno, sch_sound hsel hQ hn fuel _ r hr fr' H' a' w' hK hsim' hs' fun hc => absurd hc hno⟩
        unfold wpOp
        simp only [hoi]
        split
        · rename_i hw
          rw [if_pos hw] at this
          exact .inl this
        · rename_i hw
          rw [if_neg hw] at this
          exact this
/-- Values alone: the plain order's walk is one of them. -/
theorem flat_sch {Hp : AHeap} {K : Fr → AHeap → Prop} : ∀ (s : Sch) (l : List XO), s.flat = some l → (∀ o ∈ l, floats o.x = true) → ∀ fr, sxOps P w0 l K fr Hp → sxSch P w0 Hp s K fr Hp
  | .done, l, h, _, fr, hh => by obtain rfl := Option.some.inj h; exact hh
  | .take o r, l, h, hf, fr, hh => by
    obtain ⟨l', hl, rfl⟩ := Option.map_eq_some_iff.1 h
    have ih := flat_sch (Hp := Hp) (K := K) r l' hl (fun x hx => hf x (by simp [hx]))
    have hfo := hf o (by simp)
    have e : ∀ K' : Value → AHeap → Prop, sxEff P w0 o.x fr.ev Hp K' = sxVal P o.x fr.ev Hp fun v => K' v Hp := by
      intro K'
      cases hx : o.x <;> rw [hx] at hfo <;> first | rfl | (cases hfo; done)
    simp only [sxOps, sxOp] at hh
    simp only [sxSch, sxTake]
    have mono : ∀ (K1 K2 : Value → Prop), (∀ v, K1 v → K2 v) → sxVal P o.x fr.ev Hp K1 → sxVal P o.x fr.ev Hp K2 := by
      intro K1 K2 hk h1
      cases hx : o.x <;> rw [hx] at h1 <;> simp only [sxVal] at h1 ⊢ <;> first
        | (obtain ⟨r, hr, h1⟩ := h1; exact ⟨r, hr, hk _ h1⟩)
        | (obtain ⟨v, hv, h1⟩ := needs_elim h1
           rw [hv]; exact hk _ h1)
    cases hg : o.guard with
    | none =>
      rw [hg] at hh
      simp only [e] at hh ⊢
      exact mono _ _ (fun v hv => ih _ hv) hh
    | some g =>
      rw [hg] at hh
      simp only at hh ⊢
      cases ht : fr g.1 <;> rw [ht] at hh <;> first
        | exact ih _ hh
        | (simp only [e] at hh ⊢
           exact ⟨fun hc => mono _ _ (fun v hv => ih _ hv) (hh.1 hc), fun hc => ih _ (hh.2 hc)⟩)
  | .alt .., l, h, _, _, _ => by cases h
  | .last .., l, h, _, _, _ => by cases h
  | .free .., l, h, _, _, _ => by cases h
  | .none_, l, h, _, _, _ => by cases h
theorem floats_of {ops : Array Oper} {hp : Nat → Bool} {z : Bool} : ∀ (fuel : Nat) (listed : Array Bool) (s : Sch) (l : List XO), Sch.of P N ops hp z fuel listed = some s → s.flat = some l → ∀ o ∈ l, floats o.x = true
  | 0, listed, s, l, h, hl, o, ho => by
    simp only [Sch.of] at h
    split at h
    · obtain rfl := Option.some.inj h
      obtain rfl := Option.some.inj hl
      cases ho
    · cases h
  | fuel + 1, listed, s, l, h, hl, o, ho => by
    simp only [Sch.of] at h
    split at h
    · obtain rfl := Option.some.inj h
      obtain rfl := Option.some.inj hl
      cases ho
    · split at h
      · rename_i i hi
        split at h
        · rename_i o' r ho' hr
          obtain rfl := Option.some.inj h
          obtain ⟨l', hl', rfl⟩ := Option.map_eq_some_iff.1 hl
          have hp := List.find?_some hi
          simp only [ho', Bool.and_eq_true] at hp
          rcases List.mem_cons.1 ho with rfl | ho
          · exact hp.2.1.1
          · exact floats_of fuel _ r l' hr hl' o ho
        · cases h
      · rename_i hnone
        generalize Region.ready .any ops listed = rs at h hnone
        cases rs with
        | nil =>
          obtain rfl := Option.some.inj h
          cases hl
        | cons j rs =>
          simp only [List.foldr_cons] at h
          split at h
          · obtain rfl := Option.some.inj h
            repeat' split at hl
            all_goals cases hl
          · cases h
end
def thenK (k : Fr → AHeap → Prop) (Q : Exit → Fr → AHeap → Prop) : Exit → Fr → AHeap → Prop
  | .normal, fr, H => k fr H
  | e, fr, H => Q e fr H
def blockK (id : Nat) (Q : Exit → Fr → AHeap → Prop) : Exit → Fr → AHeap → Prop
  | .exit id', fr, H => if id' = id then Q .normal fr H else Q (.exit id') fr H
  | e, fr, H => Q e fr H
def sx (P : Program) (w0 : World) : XC → (Exit → Fr → AHeap → Prop) → Fr → AHeap → Prop
  | .skip, Q, fr, H => Q .normal fr H
  | .ops l, Q, fr, H => sxOps P w0 l (Q .normal) fr H
  | .draw s, Q, fr, H => ∃ Hp, AHeap.le Hp H ∧ sxSch P w0 Hp s (Q .normal) fr H
  | .seq a b, Q, fr, H => sx P w0 a (thenK (sx P w0 b Q) Q) fr H
  | .cond c a b, Q, fr, H => match fr.ev c with
    | .bool t => (t = true → sx P w0 a Q fr H) ∧ (t = false → sx P w0 b Q fr H)
    | _ => False
  | .block id c, Q, fr, H => sx P w0 c (blockK id Q) fr H
  | .loop c, Q, fr, H => ∃ (I : Nat → Fr → AHeap → Prop) (n : Nat), I n fr H ∧ ∀ n fr H, I n fr H → sx P w0 c (thenK (fun fr' H' => ∃ n' H'', n' < n ∧ AHeap.le H'' H' ∧ I n' fr' H'') Q) fr H
  | .exit id, Q, fr, H => Q (.exit id) fr H
  | .ret, Q, fr, H => Q .ret fr H
/-- The concrete post of an abstract one. -/
def conc (N : Nat) (w0 : World) (Q : Exit → Fr → AHeap → Prop) (e : Exit) (a : Act) (w : World) : Prop :=
  (match e with | .panic _ => False | .outgrown => False | .goto _ => False | _ => True) ∧ ∃ fr H, Sim N fr a ∧ Sat w0 H w ∧ Q e fr H
section
variable {P : Program} {w0 : World} {N : Nat}
theorem sx_sound (hmix : P.follows .mixedOrders = true) : ∀ (c : Code) (x : XC), XC.of P N c = some x → ∀ (Q : Exit → Fr → AHeap → Prop) (fr : Fr) (H : AHeap) (a : Act) (w : World),
    sx P w0 x Q fr H → Sim N fr a → Sat w0 H w → c.wp P (conc N w0 Q) a w := by
  intro c
  induction c with
  | skip => intro x hx Q fr H a w h hsim hs; obtain rfl := Option.some.inj hx; exact wp_skip ⟨trivial, fr, H, hsim, hs, h⟩
  | region id ops d =>
    intro x hx Q fr H a w h hsim hs
    cases d with
    | false =>
      obtain ⟨xs, hxs, rfl⟩ := Option.map_eq_some_iff.1 hx
      refine wp_region (ops_sound (List.range ops.size) xs (by rw [mapM_length hxs]; simp) (fun i j x h1 h2 => ?_) fr H (Q .normal) a w h hsim hs fun fr' H' a' w' h1 h2 h3 => ⟨trivial, fr', H', h1, h2, h3⟩)
      have hj : i = j ∧ i < ops.size := by
        have hlt := (List.getElem?_eq_some_iff.1 h1).1
        simp only [List.length_range] at hlt
        rw [List.getElem?_range hlt] at h1
        exact ⟨Option.some.inj h1, hlt⟩
      obtain ⟨rfl, hlt⟩ := hj
      refine ⟨ops[i], Array.getElem?_eq_getElem hlt, mapM_at hxs i _ x ?_ h2⟩
      rw [Array.getElem?_toList]; exact Array.getElem?_eq_getElem hlt
    | true =>
      simp only [XC.of] at hx
      split at hx
      · rename_i hsel
        obtain ⟨s, hsch, rfl⟩ := Option.map_eq_some_iff.1 hx
        have h : ∃ Hp, AHeap.le Hp H ∧ sxSch P w0 Hp s (Q .normal) fr H := by
          unfold Sch.code at h
          split at h
          · rename_i l hl
            exact ⟨H, .refl _, flat_sch s l hl (floats_of _ _ s l hsch hl) fr h⟩
          · exact h
        obtain ⟨Hp, hle, hh⟩ := h
        refine Behind.region (S0 := Sat w0 .nil) (S := Sat w0 Hp) (hp := ((hangs P N ops).getD · true)) (z := inPlace P N ops) hmix ?_
        exact sch_sound hsel (fun c a w hq => hq.1) (fun fr' H' a' w' h1 h2 h3 => ⟨trivial, fr', H', h1, h2, h3⟩) _ _ s hsch fr H a w.drew hh hsim hs.drew fun _ => hle
      · cases hx
  | seq c1 c2 ih1 ih2 =>
    intro x hx Q fr H a w h hsim hs
    simp only [XC.of] at hx
    split at hx
    · rename_i x1 x2 h1 h2
      obtain rfl := Option.some.inj hx
      refine wp_seq (wp_mono (ih1 x1 h1 _ fr H a w h hsim hs) fun e a' w' hq => ?_)
      obtain ⟨he, fr', H', hsim', hs', hQ⟩ := hq
      cases e with
      | normal => exact ih2 x2 h2 Q fr' H' a' w' hQ hsim' hs'
      | exit id => exact ⟨trivial, fr', H', hsim', hs', hQ⟩
      | ret => exact ⟨trivial, fr', H', hsim', hs', hQ⟩
      | goto l => exact he.elim
      | panic ch => exact he.elim
      | outgrown => exact he.elim
    · cases hx
  | cond c c1 c2 ih1 ih2 =>
    intro x hx Q fr H a w h hsim hs
    simp only [XC.of] at hx
    split at hx
    · rename_i x1 x2 h1 h2
      obtain rfl := Option.some.inj hx
      simp only [sx] at h
      rw [← hsim.ev] at h
      cases hc : a.eval c <;> rw [hc] at h <;> first | exact h.elim | skip
      rename_i t
      refine wp_cond_split hc (fun ht => ih1 x1 h1 Q fr H a w (h.1 ht) hsim hs) (fun ht => ih2 x2 h2 Q fr H a w (h.2 ht) hsim hs)
    · cases hx
  | block id c ih =>
    intro x hx Q fr H a w h hsim hs
    obtain ⟨x1, h1, rfl⟩ := Option.map_eq_some_iff.1 hx
    refine wp_block (wp_mono (ih x1 h1 _ fr H a w h hsim hs) fun e a' w' hq => ?_)
    obtain ⟨he, fr', H', hsim', hs', hQ⟩ := hq
    cases e with
    | normal => exact ⟨trivial, fr', H', hsim', hs', hQ⟩
    | exit id' =>
      simp only [blockK] at hQ
      simp only [Exit.inBlock]
      split
      · rename_i hid; rw [if_pos hid] at hQ; exact ⟨trivial, fr', H', hsim', hs', hQ⟩
      · rename_i hid; rw [if_neg hid] at hQ; exact ⟨trivial, fr', H', hsim', hs', hQ⟩
    | ret => exact ⟨trivial, fr', H', hsim', hs', hQ⟩
    | goto l => exact he.elim
    | panic ch => exact he.elim
    | outgrown => exact he.elim
  | loop c ih =>
    intro x hx Q fr H a w h hsim hs
    obtain ⟨x1, h1, rfl⟩ := Option.map_eq_some_iff.1 hx
    obtain ⟨I, n, h0, hr⟩ := h
    refine wp_loop_ghost (fun n a w => ∃ fr H, Sim N fr a ∧ Sat w0 H w ∧ I n fr H) n ⟨fr, H, hsim, hs, h0⟩ ?_
    rintro n a w ⟨fr, H, hsim, hs, hI⟩
    refine wp_mono (ih x1 h1 _ fr H a w (hr n fr H hI) hsim hs) fun e a' w' hq => ?_
    obtain ⟨he, fr', H', hsim', hs', hQ⟩ := hq
    cases e with
    | normal =>
      obtain ⟨n', H'', hlt, hle, hI'⟩ := hQ
      exact ⟨n', hlt, fr', H'', hsim', hs'.mono hle, hI'⟩
    | exit id => exact ⟨trivial, fr', H', hsim', hs', hQ⟩
    | ret => exact ⟨trivial, fr', H', hsim', hs', hQ⟩
    | goto l => exact he.elim
    | panic ch => exact he.elim
    | outgrown => exact he.elim
  | exit id => intro x hx Q fr H a w h hsim hs; obtain rfl := Option.some.inj hx; exact wp_exit ⟨trivial, fr, H, hsim, hs, h⟩
  | ret => intro x hx Q fr H a w h hsim hs; obtain rfl := Option.some.inj hx; exact wp_ret ⟨trivial, fr, H, hsim, hs, h⟩
  | rangeFunc f ps c1 c2 ih1 ih2 => intro x hx; cases hx
  | scope c ih => intro x hx; cases hx
  | label l => intro x hx; cases hx
  | goto l => intro x hx; cases hx
  | refuse why => intro x hx; cases hx
end
inductive RV where
  | tmp (t : Nat)
  | cell (t : Nat) (n : Option Nat)
def RV.of (P : Program) : ResultVar → Option RV
  | .tmp t => some (.tmp t)
  | .cell t ty => (partB P ty).map (.cell t)
structure XF where
  N : Nat
  results : List RV
  body : XC
def XF.of (P : Program) (fn : Func) : Option XF := match fn.body with
  | none => none
  | some c => match XC.of P fn.ntmps c, fn.results.toList.mapM (RV.of P) with
    | some b, some r => if fn.name == "runtime.NumGoroutine" then none else some ⟨fn.ntmps, r, b⟩
    | _, _ => none
def rval (fr : Fr) (H : AHeap) : RV → Option Value
  | .tmp t => some (fr t)
  | .cell t none => match fr t with
    | .pointer (some a) => H.cell (some a)
    | _ => none
  | .cell t (some n) => match fr t with
    | .pointer (some a) => (H.rdn (some a) n).map fun cs => .agg cs.toArray
    | _ => none
def resV (fr : Fr) (H : AHeap) : List RV → Option Value
  | [r] => rval fr H r
  | rs => (rs.mapM (rval fr H)).map fun l => .tuple l.toArray
def retK (rs : List RV) (K : Value → AHeap → Prop) : Exit → Fr → AHeap → Prop
  | .normal, fr, H => needs (resV fr H rs) fun v => ∃ H', AHeap.le H' H ∧ K v H'
  | .ret, fr, H => needs (resV fr H rs) fun v => ∃ H', AHeap.le H' H ∧ K v H'
  | _, _, _ => False
def fr0 (args : List Value) : Fr := fun t => args.getD t undef
section
variable {P : Program} {w0 : World}
theorem rval_run {rv : ResultVar} {r : RV} (hr : RV.of P rv = some r) {N : Nat} {fr : Fr} {a : Act} {H : AHeap} {w : World} (hsim : Sim N fr a) (hs : Sat w0 H w) {v : Value} (h : rval fr H r = some v) :
    (match rv with
      | .tmp t => pure (a.tmps.getD t undef)
      | .cell x t => do loadVar t (← asAddr (a.tmps.getD x undef)) : Sem Value).run P w = .ok v w := by
  cases rv with
  | tmp t =>
    obtain rfl := Option.some.inj hr
    obtain rfl := Option.some.inj h
    simp only [hsim.at_ t, Sem.run_pure]
  | cell t ty =>
    obtain ⟨p, hp, rfl⟩ := Option.map_eq_some_iff.1 hr
    simp only [hsim.at_ t]
    unfold partB at hp
    split at hp
    · rename_i n ha hn
      obtain rfl := Option.some.inj hp
      simp only [rval] at h
      cases hv : fr t <;> rw [hv] at h <;> first | (cases h; done) | skip
      rename_i A
      cases A with
      | none => cases h
      | some A =>
        obtain ⟨cs, hcs, rfl⟩ := Option.map_eq_some_iff.1 h
        simp only [asAddr, loadVar, Sem.run_bind, Sem.run_pure, Result.andThen_ok, run_isAgg ha, if_true, run_size hn, cells_load hs hcs]
    · rename_i n ha hn
      obtain rfl := Option.some.inj hp
      simp only [rval] at h
      cases hv : fr t <;> rw [hv] at h <;> first | (cases h; done) | skip
      rename_i A
      cases A with
      | none => cases h
      | some A =>
        have hcell := hs.cell h
        simp only [asAddr, loadVar, Sem.run_bind, Sem.run_pure, Result.andThen_ok, run_isAgg ha, Bool.false_eq_true, if_false, run_load, hcell]
    · cases hp
theorem loop_run {fr : Fr} {H : AHeap} {w : World} (g : ResultVar → Sem Value) (hg : ∀ x r v, RV.of P x = some r → rval fr H r = some v → (g x).run P w = .ok v w) :
    ∀ (l : List ResultVar) (rs : List RV) (vs acc : List Value), l.mapM (RV.of P) = some rs → rs.mapM (rval fr H) = some vs → (List.mapM.loop g l acc).run P w = .ok (acc.reverse ++ vs) w := by
  intro l
  induction l with
  | nil =>
    intro rs vs acc h1 h2
    simp only [List.mapM_nil] at h1
    obtain rfl := Option.some.inj h1
    simp only [List.mapM_nil] at h2
    obtain rfl := Option.some.inj h2
    simp [List.mapM.loop]
  | cons x l ih =>
    intro rs vs acc h1 h2
    simp only [List.mapM_cons, Option.bind_eq_bind, Option.bind_eq_some_iff] at h1
    obtain ⟨r, hx, rs', hl, h1⟩ := h1
    obtain rfl := Option.some.inj h1
    simp only [List.mapM_cons, Option.bind_eq_bind, Option.bind_eq_some_iff] at h2
    obtain ⟨v, hv, vs', hvs, h2⟩ := h2
    obtain rfl := Option.some.inj h2
    simp only [List.mapM.loop, Sem.run_bind, hg x r v hx hv, Result.andThen_ok, ih rs' vs' (v :: acc) hl hvs]
    simp
theorem results_run {fn : Func} {rs : List RV} (hr : fn.results.toList.mapM (RV.of P) = some rs) {N : Nat} {fr : Fr} {a : Act} {H : AHeap} {w : World} (hsim : Sim N fr a) (hs : Sat w0 H w) {v : Value} (h : resV fr H rs = some v) :
    (results fn a.tmps).run P w = .ok v w := by
  have hall : ∀ (vs : List Value), rs.mapM (rval fr H) = some vs → (results fn a.tmps).run P w = .ok (if h : vs.toArray.size = 1 then vs.toArray[0] else .tuple vs.toArray) w := by
    intro vs hvs
    unfold results
    have hm : ∀ (g : ResultVar → Sem Value), (∀ x r v, RV.of P x = some r → rval fr H r = some v → (g x).run P w = .ok v w) → (fn.results.mapM g : Sem (Array Value)).run P w = .ok vs.toArray w := by
      intro g hg
      rw [← Array.toArray_toList (xs := fn.results), List.mapM_toArray]
      simp only [List.mapM, Sem.run_map, loop_run g hg _ rs vs [] hr hvs, Result.andThen_ok]
      simp
    simp only [Sem.run_bind]
    rw [hm _ fun x r v h1 h2 => by cases x <;> exact rval_run h1 hsim hs h2]
    rfl
  match rs, h, hall with
  | [], h, hall =>
    have := hall [] (by simp)
    have h' : (List.mapM (rval fr H) []).map (fun l => Value.tuple l.toArray) = some v := h
    simp only [List.mapM_nil] at h'
    obtain rfl := Option.some.inj h'
    simpa using this
  | [r], h, hall =>
    have := hall [v] (by simp only [resV] at h; simp [List.mapM_cons, h])
    simpa using this
  | r :: s :: rs, h, hall =>
    have h' : (List.mapM (rval fr H) (r :: s :: rs)).map (fun l => Value.tuple l.toArray) = some v := h
    obtain ⟨l, hl, rfl⟩ := Option.map_eq_some_iff.1 h'
    have := hall l hl
    have hlen := mapM_length hl
    have hne : ¬ l.length = 1 := by rw [hlen]; simp
    simpa [hne] using this
/-- THE LAW: the abstract walk of a function's body gives its call. -/
theorem acalls_of_sx (hmix : P.follows .mixedOrders = true) {f : Nat} {fn : Func} (hf : P.funcs[f]? = some fn) {xf : XF} (hx : XF.of P fn = some xf) {args : List Value} (hN : args.length ≤ xf.N) {H : AHeap} {K : Value → AHeap → Prop}
    (h : sx P w0 xf.body (retK xf.results K) (fr0 args) H) : ACalls P w0 f args H K := by
  unfold XF.of at hx
  split at hx
  · cases hx
  · rename_i c hc
    split at hx
    · rename_i b r hb hr
      split at hx
      · cases hx
      · rename_i hname
        obtain rfl := Option.some.inj hx
        refine ⟨⟨fn, hf, by simp [hc], by simpa using hname⟩, fun w hs => ?_⟩
        refine calls_of_wp hf hc ?_
        have hsim : Sim fn.ntmps (fr0 args) { tmps := args.toArray ++ Array.replicate (fn.ntmps - args.toArray.size) undef, defers := [] } := by
          refine ⟨by simp only at hN; simp; omega, rfl, fun t => ?_⟩
          simp only [fr0, Array.getD_eq_getD_getElem?, List.getD_eq_getElem?_getD]
          by_cases ht : t < args.length
          · rw [Array.getElem?_append_left (by simpa using ht)]
            simp
          · rw [Array.getElem?_append_right (by simpa using ht), List.getElem?_eq_none (by omega)]
            simp only [Array.getElem?_replicate]
            split <;> rfl
        refine wp_mono (sx_sound hmix c b hb _ _ _ _ w h hsim hs) fun e a' w' hq => ?_
        obtain ⟨he, fr', H', hsim', hs', hQ⟩ := hq
        have fin : needs (resV fr' H' r) (fun v => ∃ H'', AHeap.le H'' H' ∧ K v H'') → a'.defers = [] ∧ ∃ v, (results fn a'.tmps).run P w' = .ok v w' ∧ ∃ v' H', Ending.returned v = .returned v' ∧ Sat w0 H' w' ∧ K v' H' := fun hh => by
          obtain ⟨v, hv, H'', hle, hK⟩ := needs_elim hh
          exact ⟨hsim'.defers, v, results_run hr hsim' hs' hv, v, H'', rfl, hs'.mono hle, hK⟩
        cases e with
        | normal => exact fin hQ
        | ret => exact fin hQ
        | exit id => exact hQ.elim
        | goto l => exact he.elim
        | panic ch => exact he.elim
        | outgrown => exact he.elim
    · cases hx
end
def qT (n : Nat) : Operand := .tmp n
def qI (n : Int) : Operand := .const (.int .i64 n)
def qC (f : Nat) (l : List Operand) : X := .call (.func f) l
def qO (d : Nat) (x : X) : XO := ⟨some d, x, none⟩
def qM (d t : Nat) : XO := ⟨some d, .mov (.tmp t), none⟩
def qG (d : Nat) (x : X) (t : Nat) (b : Bool) : XO := ⟨some d, x, some (t, b)⟩
end Go.Proofs.Ytfjhjfddgdokgaa
namespace Go.Proofs.Ytfjhjfddgdokgaa
set_option linter.all false
open Go Go.RowKit
/-- A struct read at a place. -/
def ldnV (H : AHeap) (n : Nat) (v : Value) : Option Value := match v with
  | .pointer a => if a.isSome then (H.rdn a n).map fun cs => .agg cs.toArray else none
  | _ => none
theorem ldnV_p (H : AHeap) (n : Nat) (a : Option Addr) : ldnV H n (.pointer a) = if a.isSome = true then (H.rdn a n).map fun cs => .agg cs.toArray else none := by exact id rfl
theorem ldnV_eq (ρ : Operand → Value) (H : AHeap) (n : Nat) (x : Operand) : X.val ρ H (.ldn n x) = ldnV H n (ρ x) := by
  simp only [X.val, ldnV]
  cases ρ x <;> try rfl
  rename_i a
  cases a <;> rfl
def putK (K : Fr → AHeap → Prop) (d : Option Nat) (fr : Fr) : Value → AHeap → Prop := fun v H => K (putD fr d v) H
def valK (K : Value → AHeap → Prop) (H : AHeap) : Value → Prop := fun v => K v H
/-- A guarded instruction, its guard's value known. -/
def sxGd (P : Program) (w0 : World) (v : Value) (t : Nat) (b : Bool) (d : Option Nat) (x : X) (K : Fr → AHeap → Prop) (fr : Fr) (H : AHeap) : Prop := match v with
  | .bool c => (c = b → sxEff P w0 x fr.ev H (putK K d fr)) ∧ (c ≠ b → K (putD fr d undef) H)
  | _ => K (putD fr d undef) H
def sxC (v : Value) (A B : Prop) : Prop := match v with
  | .bool t => (t = true → A) ∧ (t = false → B)
  | _ => False
def retF (K : Value → AHeap → Prop) (H : AHeap) : Value → Prop := fun v => ∃ H', AHeap.le H' H ∧ K v H'
/-- A new block: the heap with it, and its place. -/
def newK (K : Value → AHeap → Prop) (H : AHeap) (k : Blk) : Prop := ∀ b, H b = none → K (.pointer (some ⟨b, 0, none⟩)) (H.set b k)
def rowK (K : Value → AHeap → Prop) (H : AHeap) (k : Blk) (l c : Nat) : Prop := ∀ b, H b = none → K (.slice (some ⟨b, 0, none⟩) l c) (H.set b k)
def rowsK (K : Value → AHeap → Prop) (H : AHeap) (t : TypeId) (ln : Nat) : List Value → Prop := fun cs => rowK K H ⟨cs, true, t, cs.length⟩ ln ln
def stK (n : Nat) (p v : Value) (K : Value → AHeap → Prop) (H : AHeap) : Prop := match p with
  | .pointer (some a) => a.spot = none ∧ ∃ k, H a.block = some k ∧ k.own = true ∧ v.cells.size = n ∧ a.off + n ≤ k.cells.length ∧ (∀ u ∈ v.cells.toList, u.oneCell' = true) ∧
      K undef (H.set a.block { k with cells := setR k.cells a.off v.cells.toList })
  | _ => False
def mkK (z : List Value) (t : TypeId) (bytes : Nat) (l c : Value) (K : Value → AHeap → Prop) (H : AHeap) : Prop := match l, c with
  | .int _ l, .int _ c => 0 ≤ l ∧ l ≤ c ∧ (bytes : Int) * c ≤ 281474976710656 ∧ c ≤ 9223372036854775807 ∧ rowK K H ⟨repl z c.toNat, true, t, c.toNat * z.length⟩ l.toNat c.toNat
  | _, _ => False
def appK (P : Program) (w0 : World) (z : List Value) (t : TypeId) (bytes : Nat) (s x : Value) (K : Value → AHeap → Prop) (H : AHeap) : Prop :=
  sxEff P w0 (.app z t bytes (.const s) (.const x)) (fun o => match o with | .const v => v | _ => undef) H K
def callK (P : Program) (w0 : World) (f : Value) (args : List Value) (H : AHeap) (K : Value → AHeap → Prop) : Prop := match f with
  | .func (.func f) fi ca => ACalls P w0 f (fi.toList ++ args ++ ca.toList) H K
  | _ => False
def eqsK (P : Program) (ng : Bool) (t : TypeId) (u v : Value) (K : Value → Prop) : Prop := ∃ r : Bool, EqRun P t u v r ∧ K (.bool (ng != r))
theorem wrap_i64 {n : Int} (h1 : -9223372036854775808 ≤ n) (h2 : n ≤ 9223372036854775807) : IntKind.i64.wrap n = n := by rw [IntKind.wrap_i64]; omega
theorem fr0_zero (a : Value) (l : List Value) : fr0 (a :: l) 0 = a := rfl
theorem fr0_succ (a : Value) (l : List Value) (n : Nat) : fr0 (a :: l) (n + 1) = fr0 l n := rfl
theorem fr0_nil (n : Nat) : fr0 [] n = undef := rfl
theorem put_at (fr : Fr) (d t : Nat) (v : Value) : Fr.put fr d v t = if t = d then v else fr t := rfl
theorem zA1 : ∀ (P : Program) (w0 : World) Q fr H, sx P w0 .skip Q fr H = Q .normal fr H := by intros; exact id rfl
theorem zA2 : ∀ (P : Program) (w0 : World) l Q fr H, sx P w0 (.ops l) Q fr H = sxOps P w0 l (Q .normal) fr H := by intros; exact id rfl
theorem zA3 : ∀ (P : Program) (w0 : World) a b Q fr H, sx P w0 (.seq a b) Q fr H = sx P w0 a (thenK (sx P w0 b Q) Q) fr H := by intros; exact id rfl
theorem zA4 : ∀ (P : Program) (w0 : World) c a b Q fr H, sx P w0 (.cond c a b) Q fr H = sxC (fr.ev c) (sx P w0 a Q fr H) (sx P w0 b Q fr H) := by intros; exact id rfl
theorem zA5 : ∀ (P : Program) (w0 : World) id c Q fr H, sx P w0 (.block id c) Q fr H = sx P w0 c (blockK id Q) fr H := by intros; exact id rfl
theorem zA6 : ∀ (P : Program) (w0 : World) id Q fr H, sx P w0 (.exit id) Q fr H = Q (.exit id) fr H := by intros; exact id rfl
theorem zA7 : ∀ (P : Program) (w0 : World) Q fr H, sx P w0 .ret Q fr H = Q .ret fr H := by intros; exact id rfl
theorem zA8 : ∀ k Q fr H, thenK k Q .normal fr H = k fr H := by intros; exact id rfl
theorem zA9 : ∀ k Q fr H, thenK k Q .ret fr H = Q .ret fr H := by intros; exact id rfl
theorem zA10 : ∀ k Q id fr H, thenK k Q (.exit id) fr H = Q (.exit id) fr H := by intros; exact id rfl
theorem zA11 : ∀ id Q fr H, blockK id Q .normal fr H = Q .normal fr H := by intros; exact id rfl
theorem zA12 : ∀ id Q fr H, blockK id Q .ret fr H = Q .ret fr H := by intros; exact id rfl
theorem zA13 : ∀ id id' Q fr H, blockK id Q (.exit id') fr H = if id' = id then Q .normal fr H else Q (.exit id') fr H := by intros; exact id rfl
theorem zA14 : ∀ rs K fr H, retK rs K .normal fr H = needs (resV fr H rs) (retF K H) := by intros; exact id rfl
theorem zA15 : ∀ rs K fr H, retK rs K .ret fr H = needs (resV fr H rs) (retF K H) := by intros; exact id rfl
theorem zA16 : ∀ (P : Program) (w0 : World) K fr H, sxOps P w0 [] K fr H = K fr H := by intros; exact id rfl
theorem zA17 : ∀ (P : Program) (w0 : World) o r K fr H, sxOps P w0 (o :: r) K fr H = sxOp P w0 o (sxOps P w0 r K) fr H := by intros; exact id rfl
theorem zA18 : ∀ (P : Program) (w0 : World) d x K fr H, sxOp P w0 ⟨d, x, none⟩ K fr H = sxEff P w0 x fr.ev H (putK K d fr) := by intros; exact id rfl
theorem zA19 : ∀ (P : Program) (w0 : World) d x t b K fr H, sxOp P w0 ⟨d, x, some (t, b)⟩ K fr H = sxGd P w0 (fr t) t b d x K fr H := by intros; exact id rfl
theorem zA20 : ∀ (P : Program) (w0 : World) t d x K fr H, sxGd P w0 (.bool true) t true d x K fr H = sxEff P w0 x fr.ev H (putK K d fr) := by intros; simp [sxGd]
theorem zA21 : ∀ (P : Program) (w0 : World) t d x K fr H, sxGd P w0 (.bool false) t true d x K fr H = K (putD fr d undef) H := by intros; simp [sxGd]
theorem zA22 : ∀ (P : Program) (w0 : World) t d x K fr H, sxGd P w0 (.bool true) t false d x K fr H = K (putD fr d undef) H := by intros; simp [sxGd]
theorem zA23 : ∀ (P : Program) (w0 : World) t d x K fr H, sxGd P w0 (.bool false) t false d x K fr H = sxEff P w0 x fr.ev H (putK K d fr) := by intros; simp [sxGd]
theorem zA36 : ∀ (P : Program) (w0 : World) t b d x K fr H, sxGd P w0 undef t b d x K fr H = K (putD fr d undef) H := by intros; exact id rfl
theorem zA24 : ∀ K d fr v H, putK K d fr v H = K (putD fr d v) H := by intros; exact id rfl
theorem zA25 : ∀ K H v, valK K H v = K v H := by intros; exact id rfl
theorem zA26 : ∀ A B, sxC (.bool true) A B = A := by intros; simp [sxC]
theorem zA27 : ∀ A B, sxC (.bool false) A B = B := by intros; simp [sxC]
theorem zA28 : ∀ fr d v, putD fr (some d) v = Fr.put fr d v := by intros; exact id rfl
theorem zA29 : ∀ fr v, putD fr none v = fr := by intros; exact id rfl
theorem zA30 : ∀ fr t, Fr.ev fr (.tmp t) = fr t := by intros; exact id rfl
theorem zA31 : ∀ fr v, Fr.ev fr (.const v) = v := by intros; exact id rfl
theorem zA32 : ∀ fr f, Fr.ev fr (.func f) = .func (.func f) #[] #[] := by intros; exact id rfl
theorem zA33 : ∀ K H v, retF K H v = ∃ H', AHeap.le H' H ∧ K v H' := by intros; exact id rfl
theorem zA34 : ∀ fr H r rs, List.mapM (rval fr H) (r :: rs) = (rval fr H r).bind fun v => (List.mapM (rval fr H) rs).map (v :: ·) := by
  intro fr H r rs
  rw [List.mapM_cons]
  cases rval fr H r with
  | none => rfl
  | some v =>
    show (List.mapM (rval fr H) rs >>= fun l => pure (v :: l)) = _
    cases List.mapM (rval fr H) rs <;> rfl
theorem zA35 : ∀ fr H, List.mapM (rval fr H) [] = some [] := by intros; rfl
theorem gd_split {P : Program} {w0 : World} {c : Bool} {t : Nat} {b : Bool} {d : Option Nat} {x : X} {K : Fr → AHeap → Prop} {fr : Fr} {H : AHeap} (hfr : fr t = .bool c)
    (h1 : c = true → sxGd P w0 (.bool true) t b d x K (fr.put t (.bool true)) H) (h2 : c = false → sxGd P w0 (.bool false) t b d x K (fr.put t (.bool false)) H) : sxGd P w0 (.bool c) t b d x K fr H := by
  have e : ∀ v, fr t = v → fr.put t v = fr := fun v hv => by
    funext u
    simp only [Fr.put]
    split
    · rename_i hu; rw [hu]; exact hv.symm
    · rfl
  cases c
  · have := h2 rfl; rw [e _ hfr] at this; exact this
  · have := h1 rfl; rw [e _ hfr] at this; exact this
theorem c_split {t : Bool} {A B : Prop} (h1 : t = true → A) (h2 : t = false → B) : sxC (.bool t) A B := ⟨h1, h2⟩
theorem ret_same {K : Value → AHeap → Prop} {H : AHeap} {v : Value} (h : K v H) : ∃ H', AHeap.le H' H ∧ K v H' := ⟨H, .refl _, h⟩
section
variable {P : Program} {w0 : World} {ρ : Operand → Value} {H : AHeap} {K : Value → AHeap → Prop}
theorem zB1 : ∀ x, sxEff P w0 (.mov x) ρ H K = K (ρ x) H := by intros; exact id rfl
theorem zB2 : ∀ c a b, sxEff P w0 (.pick c a b) ρ H K = sxC (ρ c) (K (ρ a) H) (K (ρ b) H) := by
  intro c a b
  show needs (X.val ρ H (.pick c a b)) _ = _
  simp only [X.val]
  cases ρ c <;> try rfl
  rename_i t
  cases t <;> simp [sxC, needs]
theorem zB3 : ∀ z ps, sxEff P w0 (.agg z ps) ρ H K = needs (X.val ρ H (.agg z ps)) (valK K H) := by intros; exact id rfl
theorem zB4 : ∀ x, sxEff P w0 (.ld x) ρ H K = needs (X.val ρ H (.ld x)) (valK K H) := by intros; exact id rfl
theorem zB5 : ∀ n x, sxEff P w0 (.ldn n x) ρ H K = needs (ldnV H n (ρ x)) (valK K H) := by
  intro n x
  rw [← ldnV_eq]
  exact id rfl
theorem zB6 : ∀ n x, sxEff P w0 (.fld n x) ρ H K = needs (X.val ρ H (.fld n x)) (valK K H) := by intros; exact id rfl
theorem zB7 : ∀ n x i, sxEff P w0 (.idx n x i) ρ H K = needs (X.val ρ H (.idx n x i)) (valK K H) := by intros; exact id rfl
theorem zB8 : ∀ l n x i, sxEff P w0 (.ida l n x i) ρ H K = needs (X.val ρ H (.ida l n x i)) (valK K H) := by intros; exact id rfl
theorem zB9 : ∀ o x y, sxEff P w0 (.bin o x y) ρ H K = needs (X.val ρ H (.bin o x y)) (valK K H) := by intros; exact id rfl
theorem zB10 : ∀ n x y, sxEff P w0 (.eqb n x y) ρ H K = needs (X.val ρ H (.eqb n x y)) (valK K H) := by intros; exact id rfl
theorem zB11 : ∀ n t x y, sxEff P w0 (.eqs n t x y) ρ H K = eqsK P n t (ρ x) (ρ y) (valK K H) := by intros; exact id rfl
theorem zB12 : ∀ x, sxEff P w0 (.not x) ρ H K = needs (X.val ρ H (.not x)) (valK K H) := by intros; exact id rfl
theorem zB13 : ∀ x, sxEff P w0 (.neg x) ρ H K = needs (X.val ρ H (.neg x)) (valK K H) := by intros; exact id rfl
theorem zB14 : ∀ k x, sxEff P w0 (.cnv k x) ρ H K = needs (X.val ρ H (.cnv k x)) (valK K H) := by intros; exact id rfl
theorem zB15 : ∀ n x a b c, sxEff P w0 (.slc n x a b c) ρ H K = needs (X.val ρ H (.slc n x a b c)) (valK K H) := by intros; exact id rfl
theorem zB16 : ∀ l n x a b c, sxEff P w0 (.sla l n x a b c) ρ H K = needs (X.val ρ H (.sla l n x a b c)) (valK K H) := by intros; exact id rfl
theorem zB17 : ∀ o n x, sxEff P w0 (.prt o n x) ρ H K = needs (X.val ρ H (.prt o n x)) (valK K H) := by intros; exact id rfl
theorem zB18 : ∀ l s n x i, sxEff P w0 (.ixv l s n x i) ρ H K = needs (X.val ρ H (.ixv l s n x i)) (valK K H) := by intros; exact id rfl
theorem zB19 : ∀ i x, sxEff P w0 (.ext i x) ρ H K = needs (X.val ρ H (.ext i x)) (valK K H) := by intros; exact id rfl
theorem zB20 : ∀ x, sxEff P w0 (.len x) ρ H K = needs (X.val ρ H (.len x)) (valK K H) := by intros; exact id rfl
theorem zB21 : ∀ n, sxEff P w0 (.lena n) ρ H K = K (.int .i64 n) H := by intros; exact id rfl
theorem zB22 : ∀ x y, sxEff P w0 (.max x y) ρ H K = needs (X.val ρ H (.max x y)) (valK K H) := by intros; exact id rfl
theorem zB23 : ∀ x y, sxEff P w0 (.min x y) ρ H K = needs (X.val ρ H (.min x y)) (valK K H) := by intros; exact id rfl
theorem zB24 : ∀ f a b, sxEff P w0 (.mkf f a b) ρ H K = needs (X.val ρ H (.mkf f a b)) (valK K H) := by intros; exact id rfl
theorem zB25 : ∀ x, sxEff P w0 (.nilc x) ρ H K = needs (X.val ρ H (.nilc x)) (valK K H) := by intros; exact id rfl
theorem zB26 : ∀ z t, sxEff P w0 (.new z t) ρ H K = newK K H ⟨z, true, t, z.length⟩ := by intros; exact id rfl
theorem zB27 : ∀ t x, sxEff P w0 (.box t x) ρ H K = newK K H ⟨(ρ x).cells.toList, true, t, (ρ x).cells.size⟩ := by intros; exact id rfl
theorem zB28 : ∀ z t l ps, sxEff P w0 (.lit z t l ps) ρ H K = needs (fillL z (ps.map fun p => (p.1, p.2.1, ρ p.2.2))) (rowsK K H t l) := by intros; exact id rfl
theorem zB29 : ∀ z t n l c, sxEff P w0 (.mks z t n l c) ρ H K = mkK z t n (ρ l) (ρ c) K H := by
  intro z t n l c
  simp only [sxEff, mkK] <;> (cases ρ l <;> cases ρ c <;> rfl)
theorem zB30 : ∀ n a x, sxEff P w0 (.st n a x) ρ H K = stK n (ρ a) (ρ x) K H := by
  intro n a x
  simp only [sxEff, stK] <;> (cases ρ a <;> rfl)
theorem zB31 : ∀ z t n s x, sxEff P w0 (.app z t n s x) ρ H K = appK P w0 z t n (ρ s) (ρ x) K H := by intros; exact id rfl
theorem zB32 : ∀ f a, sxEff P w0 (.call f a) ρ H K = callK P w0 (ρ f) (a.map ρ) H K := by
  intro f a
  simp only [sxEff, callK] <;> (cases ρ f <;> rfl)
theorem zB34 : ∀ n x y, sxEff P w0 (.nils n x y) ρ H K = needs (X.val ρ H (.nils n x y)) (valK K H) := by intros; exact id rfl
theorem zB33 : ∀ f fi ca l, callK P w0 (.func (.func f) fi ca) l H K = ACalls P w0 f (fi.toList ++ l ++ ca.toList) H K := by intros; exact id rfl
end
def takeK (P : Program) (w0 : World) (Hp : AHeap) (d : Option Nat) (r : Sch) (K : Fr → AHeap → Prop) (fr : Fr) (H : AHeap) : Value → Prop := fun v => sxSch P w0 Hp r K (putD fr d v) H
def altK (P : Program) (w0 : World) (Hp : AHeap) (r : Sch) (K : Fr → AHeap → Prop) : Fr → AHeap → Prop := fun fr H => AHeap.le Hp H ∧ sxSch P w0 Hp r K fr H
def freeK (P : Program) (w0 : World) (Hp : AHeap) (r : Sch) (K : Fr → AHeap → Prop) : Fr → AHeap → Prop := fun fr H => sxSch P w0 Hp r K fr H
def sxTd (P : Program) (v : Value) (t : Nat) (b : Bool) (x : X) (K : Value → Prop) (fr : Fr) (H : AHeap) : Prop := match v with
  | .bool c => (c = b → sxVal P x fr.ev H K) ∧ (c ≠ b → K undef)
  | _ => K undef
section
variable {P : Program} {w0 : World} {Hp H : AHeap} {K : Fr → AHeap → Prop} {fr : Fr} {ρ : Operand → Value} {C : Value → Prop}
theorem zC1 : sxSch P w0 Hp .done K fr H = K fr H := by exact id rfl
theorem zC2 (d x r) : sxSch P w0 Hp (.take ⟨d, x, none⟩ r) K fr H = sxVal P x fr.ev Hp (takeK P w0 Hp d r K fr H) := by exact id rfl
theorem zC3 (d x t b r) : sxSch P w0 Hp (.take ⟨d, x, some (t, b)⟩ r) K fr H = sxTd P (fr t) t b x (takeK P w0 Hp d r K fr H) fr Hp := by exact id rfl
theorem zC4 (o r m) : sxSch P w0 Hp (.alt o r m) K fr H = (sxOp P w0 o (altK P w0 Hp r K) fr H ∧ sxSch P w0 Hp m K fr H) := by exact id rfl
theorem zC5 : sxSch P w0 Hp .none_ K fr H = True := by exact id rfl
theorem zC39 (o m) : sxSch P w0 Hp (.last o m) K fr H = (sxOp P w0 o K fr H ∧ sxSch P w0 Hp m K fr H) := by exact id rfl
theorem zC40 (o r m) : sxSch P w0 Hp (.free o r m) K fr H = (sxOp P w0 o (freeK P w0 Hp r K) fr H ∧ sxSch P w0 Hp m K fr H) := by exact id rfl
theorem zC41 (r) : freeK P w0 Hp r K fr H = sxSch P w0 Hp r K fr H := by exact id rfl
theorem zC6 (d r v) : takeK P w0 Hp d r K fr H v = sxSch P w0 Hp r K (putD fr d v) H := by exact id rfl
theorem zC7 (r) : altK P w0 Hp r K fr H = (AHeap.le Hp H ∧ sxSch P w0 Hp r K fr H) := by exact id rfl
theorem zC8 (t x) : sxTd P (.bool true) t true x C fr H = sxVal P x fr.ev H C := by simp [sxTd]
theorem zC9 (t x) : sxTd P (.bool false) t true x C fr H = C undef := by simp [sxTd]
theorem zC10 (t x) : sxTd P (.bool true) t false x C fr H = C undef := by simp [sxTd]
theorem zC11 (t x) : sxTd P (.bool false) t false x C fr H = sxVal P x fr.ev H C := by simp [sxTd]
theorem zC38 (t b x) : sxTd P undef t b x C fr H = C undef := by exact id rfl
theorem zC12 (x) : sxVal P (.mov x) ρ H C = C (ρ x) := by exact id rfl
theorem zC13 (c a b) : sxVal P (.pick c a b) ρ H C = sxC (ρ c) (C (ρ a)) (C (ρ b)) := by
  show needs (X.val ρ H (.pick c a b)) _ = _
  simp only [X.val]
  cases ρ c <;> try rfl
  rename_i t
  cases t <;> simp [sxC, needs]
theorem zC14 (x) : sxVal P (.ld x) ρ H C = needs (X.val ρ H (.ld x)) C := by exact id rfl
theorem zC15 (n x) : sxVal P (.ldn n x) ρ H C = needs (ldnV H n (ρ x)) C := by
  rw [← ldnV_eq]
  exact id rfl
theorem zC16 (n x) : sxVal P (.fld n x) ρ H C = needs (X.val ρ H (.fld n x)) C := by exact id rfl
theorem zC17 (n x i) : sxVal P (.idx n x i) ρ H C = needs (X.val ρ H (.idx n x i)) C := by exact id rfl
theorem zC18 (l n x i) : sxVal P (.ida l n x i) ρ H C = needs (X.val ρ H (.ida l n x i)) C := by exact id rfl
theorem zC19 (o x y) : sxVal P (.bin o x y) ρ H C = needs (X.val ρ H (.bin o x y)) C := by exact id rfl
theorem zC20 (o x y) : sxVal P (.eqb o x y) ρ H C = needs (X.val ρ H (.eqb o x y)) C := by exact id rfl
theorem zC21 (n t x y) : sxVal P (.eqs n t x y) ρ H C = eqsK P n t (ρ x) (ρ y) C := by exact id rfl
theorem zC22 (x) : sxVal P (.not x) ρ H C = needs (X.val ρ H (.not x)) C := by exact id rfl
theorem zC23 (x) : sxVal P (.neg x) ρ H C = needs (X.val ρ H (.neg x)) C := by exact id rfl
theorem zC24 (k x) : sxVal P (.cnv k x) ρ H C = needs (X.val ρ H (.cnv k x)) C := by exact id rfl
theorem zC25 (n x a b c) : sxVal P (.slc n x a b c) ρ H C = needs (X.val ρ H (.slc n x a b c)) C := by exact id rfl
theorem zC26 (l n x a b c) : sxVal P (.sla l n x a b c) ρ H C = needs (X.val ρ H (.sla l n x a b c)) C := by exact id rfl
theorem zC27 (o n x) : sxVal P (.prt o n x) ρ H C = needs (X.val ρ H (.prt o n x)) C := by exact id rfl
theorem zC28 (l s n x i) : sxVal P (.ixv l s n x i) ρ H C = needs (X.val ρ H (.ixv l s n x i)) C := by exact id rfl
theorem zC29 (i x) : sxVal P (.ext i x) ρ H C = needs (X.val ρ H (.ext i x)) C := by exact id rfl
theorem zC30 (x) : sxVal P (.len x) ρ H C = needs (X.val ρ H (.len x)) C := by exact id rfl
theorem zC31 (n) : sxVal P (.lena n) ρ H C = C (.int .i64 n) := by exact id rfl
theorem zC32 (x y) : sxVal P (.max x y) ρ H C = needs (X.val ρ H (.max x y)) C := by exact id rfl
theorem zC33 (x y) : sxVal P (.min x y) ρ H C = needs (X.val ρ H (.min x y)) C := by exact id rfl
theorem zC34 (f a b) : sxVal P (.mkf f a b) ρ H C = needs (X.val ρ H (.mkf f a b)) C := by exact id rfl
theorem zC35 (x) : sxVal P (.nilc x) ρ H C = needs (X.val ρ H (.nilc x)) C := by exact id rfl
theorem zC36 (z ps) : sxVal P (.agg z ps) ρ H C = needs (X.val ρ H (.agg z ps)) C := by exact id rfl
theorem zC37 (n x y) : sxVal P (.nils n x y) ρ H C = needs (X.val ρ H (.nils n x y)) C := by exact id rfl
theorem draw_same {s : Sch} {Q : Exit → Fr → AHeap → Prop} (h : sxSch P w0 H s (Q .normal) fr H) : sx P w0 (.draw s) Q fr H := ⟨H, .refl _, h⟩
theorem td_split {c : Bool} {t : Nat} {b : Bool} {x : X} {d : Option Nat} {r : Sch} (hfr : fr t = .bool c)
    (h1 : c = true → sxTd P (.bool true) t b x (takeK P w0 Hp d r K (fr.put t (.bool true)) H) (fr.put t (.bool true)) Hp) (h2 : c = false → sxTd P (.bool false) t b x (takeK P w0 Hp d r K (fr.put t (.bool false)) H) (fr.put t (.bool false)) Hp) :
    sxTd P (.bool c) t b x (takeK P w0 Hp d r K fr H) fr Hp := by
  have e : ∀ v, fr t = v → fr.put t v = fr := fun v hv => by
    funext u
    simp only [Fr.put]
    split
    · rename_i hu; rw [hu]; exact hv.symm
    · rfl
  cases c
  · have := h2 rfl; rw [e _ hfr] at this; exact this
  · have := h1 rfl; rw [e _ hfr] at this; exact this
def nextI (I : Nat → Fr → AHeap → Prop) (n : Nat) : Fr → AHeap → Prop := fun fr H => ∃ n' H', n' < n ∧ AHeap.le H' H ∧ I n' fr H'
theorem loop_rule {c : XC} {Q : Exit → Fr → AHeap → Prop} (I : Nat → Fr → AHeap → Prop) (n : Nat) (h0 : I n fr H) (h : ∀ n fr H, I n fr H → sx P w0 c (thenK (nextI I n) Q) fr H) : sx P w0 (.loop c) Q fr H := ⟨I, n, h0, h⟩
theorem new_intro {D : Value → AHeap → Prop} {k : Blk} (h : ∀ b, H b = none → D (.pointer (some ⟨b, 0, none⟩)) (H.set b k)) : newK D H k := h
theorem rows_intro {D : Value → AHeap → Prop} {t : TypeId} {l : Nat} {cs : List Value} (h : ∀ b, H b = none → D (.slice (some ⟨b, 0, none⟩) l l) (H.set b ⟨cs, true, t, cs.length⟩)) : rowsK D H t l cs := h
theorem le_refl_true (A : AHeap) : AHeap.le A A = True := eq_true (AHeap.le.refl A)
theorem le_set_true {A B : AHeap} {b : Nat} {k : Blk} (hb : A b = none) : AHeap.le A (B.set b k) = AHeap.le A B := propext ⟨fun h i x hx => by
    have : i ≠ b := by rintro rfl; rw [hb] at hx; cases hx
    obtain ⟨k1, h1, r⟩ := h i x hx
    exact ⟨k1, by simpa [AHeap.set, this] using h1, r⟩, fun h i x hx => by
    have : i ≠ b := by rintro rfl; rw [hb] at hx; cases hx
    obtain ⟨k1, h1, r⟩ := h i x hx
    exact ⟨k1, by simp [AHeap.set, this, h1], r⟩⟩
end
end Go.Proofs.Ytfjhjfddgdokgaa
namespace Go.Proofs.Ytfjhjfddgdokgaa
set_option linter.all false
open Go Go.RowKit
theorem set_none {H : AHeap} {b i : Nat} {k : Blk} : (H.set b k) i = none ↔ i ≠ b ∧ H i = none := by
  simp only [AHeap.set]
  split <;> simp_all
theorem set_same (H : AHeap) (b : Nat) (k : Blk) : (H.set b k) b = some k := by simp [AHeap.set]
theorem set_ne {H : AHeap} {b i : Nat} {k : Blk} (h : ¬ i = b) : (H.set b k) i = H i := by simp [AHeap.set, h]
theorem set_set (H : AHeap) (b : Nat) (k k' : Blk) : (H.set b k).set b k' = H.set b k' := by
  funext i
  simp only [AHeap.set]
  split <;> rfl
theorem set_comm {H : AHeap} {b b' : Nat} {k k' : Blk} (h : ¬ b = b') : (H.set b k).set b' k' = (H.set b' k').set b k := by
  funext i
  simp only [AHeap.set]
  split <;> split <;> simp_all
theorem cell_same (H : AHeap) (b j : Nat) (k : Blk) : (H.set b k).cell (some ⟨b, j, none⟩) = k.cells[j]? := by simp [AHeap.cell, AHeap.set]
theorem cell_ne {H : AHeap} {b i j : Nat} {k : Blk} (h : ¬ i = b) : (H.set b k).cell (some ⟨i, j, none⟩) = H.cell (some ⟨i, j, none⟩) := by simp [AHeap.cell, AHeap.set, h]
theorem cell_ne' {H : AHeap} {b i j : Nat} {k : Blk} (h : ¬ b = i) : (H.set b k).cell (some ⟨i, j, none⟩) = H.cell (some ⟨i, j, none⟩) := cell_ne fun e => h e.symm
theorem set_ne' {H : AHeap} {b i : Nat} {k : Blk} (h : ¬ b = i) : (H.set b k) i = H i := set_ne fun e => h e.symm
theorem ocI (k : IntKind) (n : Int) : (Value.int k n).oneCell' = true := by exact id rfl
theorem ocB (b : Bool) : (Value.bool b).oneCell' = true := by exact id rfl
theorem ocS (a : Option Addr) (n c : Nat) : (Value.slice a n c).oneCell' = true := by exact id rfl
theorem ocP (a : Option Addr) : (Value.pointer a).oneCell' = true := by exact id rfl
theorem st_eq {n b o : Nat} {v : Value} {K : Value → AHeap → Prop} {H : AHeap} : stK n (.pointer (some ⟨b, o, none⟩)) v K H = ∃ k, H b = some k ∧ k.own = true ∧ v.cells.size = n ∧ o + n ≤ k.cells.length ∧ (∀ u ∈ v.cells.toList, u.oneCell' = true) ∧
    K undef (H.set b ⟨setR k.cells o v.cells.toList, k.own, k.ty, k.cap⟩) := by simp [stK]
theorem some_ex {α : Type} (a : α) (p : α → Prop) : (∃ k, some a = some k ∧ p k) = p a := by simp
theorem all_cons {p : Value → Prop} (v : Value) (l : List Value) : (∀ u ∈ v :: l, p u) = (p v ∧ ∀ u ∈ l, p u) := by simp
theorem all_nil' {p : Value → Prop} : (∀ u ∈ ([] : List Value), p u) = True := by simp
theorem cell_old {H : AHeap} {b : Nat} {k : Blk} {a : Option Addr} (hb : H b = none) (h : (H.cell a).isSome = true) : (H.set b k).cell a = H.cell a := by
  obtain ⟨v, hv⟩ := Option.isSome_iff_exists.1 h
  rw [hv]
  exact ((AHeap.le.refl H).fresh hb k).cell hv
/-- H' knows all blocks of H just as H does. -/
def AHeap.ext (H H' : AHeap) : Prop := ∀ (b : Nat) (k : Blk), H b = some k → H' b = some k
theorem AHeap.ext.refl (H : AHeap) : AHeap.ext H H := fun _ _ h => h
theorem AHeap.ext.trans {A B C : AHeap} (h : AHeap.ext A B) (h' : AHeap.ext B C) : AHeap.ext A C := fun b k hk => h' b k (h b k hk)
theorem AHeap.ext.le {A B : AHeap} (h : AHeap.ext A B) : AHeap.le A B := fun b k hk => ⟨k, h b k hk, rfl, rfl, rfl, fun _ _ h => h⟩
theorem AHeap.ext.fresh {A B : AHeap} (h : AHeap.ext A B) {b : Nat} (hb : A b = none) (k : Blk) : AHeap.ext A (B.set b k) := fun x k' hx => by
  have : ¬ x = b := by rintro rfl; rw [hb] at hx; cases hx
  rw [set_ne this]; exact h x k' hx
theorem AHeap.ext.set {A B : AHeap} (h : AHeap.ext A B) (b : Nat) (k : Blk) : AHeap.ext (A.set b k) (B.set b k) := fun x k' hx => by
  by_cases hx' : x = b
  · subst hx'; rw [set_same] at hx ⊢; exact hx
  · rw [set_ne hx'] at hx ⊢; exact h x k' hx
theorem AHeap.ext.none {A B : AHeap} (h : AHeap.ext A B) {b : Nat} (hb : B b = none) : A b = none := h.le.none hb
theorem cell_blk {H : AHeap} {b : Nat} {k : Blk} (h : H b = some k) (j : Nat) : H.cell (some ⟨b, j, none⟩) = k.cells[j]? := by simp [AHeap.cell, h]
def rdnF (H : AHeap) (a : Option Addr) : Nat → Nat → Option (List Value)
  | _, 0 => some []
  | j, n + 1 => match H.cell (adr a j) with
    | some v => (rdnF H a (j + 1) n).map (v :: ·)
    | none => none
theorem rdn_eqF (H : AHeap) (a : Option Addr) : ∀ (n j : Nat), H.rdn (adr a j) n = rdnF H a j n
  | 0, j => rfl
  | n + 1, j => by
    simp only [AHeap.rdn, rdnF]
    cases H.cell (adr a j) with
    | none => rfl
    | some v => simp only [adr_adr, rdn_eqF H a n (j + 1)]
theorem rdn_F (H : AHeap) (a : Option Addr) (n : Nat) : H.rdn a n = rdnF H a 0 n := by
  have := rdn_eqF H a n 0
  rwa [adr_zero] at this
theorem rdnF_zero (H : AHeap) (a : Option Addr) (j : Nat) : rdnF H a j 0 = some [] := by exact id rfl
theorem rdnF_succ (H : AHeap) (a : Option Addr) (j n : Nat) : rdnF H a j (n + 1) = (H.cell (adr a j)).bind fun v => (rdnF H a (j + 1) n).map (v :: ·) := by
  simp only [rdnF]
  cases H.cell (adr a j) <;> rfl
section
variable {ρ : Operand → Value} {H : AHeap}
end
theorem v_cells (l : List Value) : (Value.agg l.toArray).cells.toList = l := by exact id rfl
theorem v_size (l : List Value) : (Value.agg l.toArray).cells.size = l.length := by exact id rfl
theorem vcI (k : IntKind) (n : Int) : (Value.int k n).cells = #[.int k n] := by exact id rfl
theorem vcB (b : Bool) : (Value.bool b).cells = #[.bool b] := by exact id rfl
theorem vcS (a : Option Addr) (n c : Nat) : (Value.slice a n c).cells = #[.slice a n c] := by exact id rfl
theorem vcP (a : Option Addr) : (Value.pointer a).cells = #[.pointer a] := by exact id rfl
theorem vcF (f : Fn) (a b : Array Value) : (Value.func f a b).cells = #[.func f a b] := by exact id rfl
theorem vcA (cs : Array Value) : (Value.agg cs).cells = cs := by exact id rfl
theorem vcU (cs : Array Value) : (Value.tuple cs).cells = #[.tuple cs] := by exact id rfl
/-- A quad. -/
structure Qd where
  op : Int
  dst : Int
  a : Int
  b : Int
  n : Int
  deriving DecidableEq
abbrev Qd.cells (q : Qd) : List Value := [.int .i64 q.op, .int .i64 q.dst, .int .i64 q.a, .int .i64 q.b, .int .i64 q.n]
abbrev Qd.val (q : Qd) : Value := .agg #[.int .i64 q.op, .int .i64 q.dst, .int .i64 q.a, .int .i64 q.b, .int .i64 q.n]
theorem q_val (q : Qd) : q.val = .agg #[.int .i64 q.op, .int .i64 q.dst, .int .i64 q.a, .int .i64 q.b, .int .i64 q.n] := by exact id rfl
end Go.Proofs.Ytfjhjfddgdokgaa
namespace Go.Proofs.Ytfjhjfddgdokgaa
set_option linter.all false
open Go Go.RowKit
def intAt (xs : List Value) (i : Nat) : Int := match xs[i]? with
  | some (.int _ n) => n
  | _ => 0
def flatInts (P : Program) (t : TypeId) (n : Nat) : Bool := match P.underlying t with
  | some (.struct fs) => fs.toList.map (·.offset) == List.range n && fs.toList.all (fun f => f.name != "_" && (match P.underlying f.type with | some (.int _) => true | _ => false)) && !P.stoodInHeld t && !P.eqGuardType P.depth t
  | _ => false
section
variable {P : Program} {w : World}
theorem part_int {t : TypeId} {k : IntKind} (h : P.underlying t = some (.int k)) {cs : Array Value} {i : Nat} {v : Value} (hv : cs[i]? = some v) : (part t cs i).run P w = .ok v w := by
  have ha : aggB P t = some false := by simp [aggB, h]
  simp only [part, Sem.run_bind, run_isAgg ha, Result.andThen_ok, Bool.false_eq_true, if_false, hv, Sem.run_pure]
theorem eqFields_ints {d : Nat} {xs ys : List Value} : ∀ (fs : List Field), (∀ f ∈ fs, f.name ≠ "_" ∧ (∃ k, P.underlying f.type = some (.int k)) ∧ ∃ k a b, xs[f.offset]? = some (.int k a) ∧ ys[f.offset]? = some (.int k b)) →
    (Op.eqFields (d + 1) xs.toArray ys.toArray fs).run P w = .ok (fs.all fun f => intAt xs f.offset == intAt ys f.offset) w
  | [], _ => by simp [Op.eqFields]
  | f :: fs, h => by
    obtain ⟨hn, ⟨k, hk⟩, k', a, b, ha, hb⟩ := h f (by simp)
    have ih := eqFields_ints (d := d) fs (fun g hg => h g (by simp [hg]))
    have pa : (part f.type xs.toArray f.offset).run P w = .ok (.int k' a) w := part_int hk (by simpa using ha)
    have pb : (part f.type ys.toArray f.offset).run P w = .ok (.int k' b) w := part_int hk (by simpa using hb)
    have he := run_equalIn_int (P := P) w d f.type k' k a b hk
    rw [Op.eqFields]
    simp only [if_pos hn, Sem.run_bind, pa, pb, he, Result.andThen_ok]
    have e : (intAt xs f.offset == intAt ys f.offset) = (a == b) := by simp only [intAt, ha, hb]
    simp only [List.all_cons, e]
    cases hab : (a == b)
    · simp
    · simpa using ih
theorem eqs_ints {t : TypeId} {n : Nat} (hf : flatInts P t n = true) {xs ys : List Value} (h : ∀ i, i < n → ∃ k a b, xs[i]? = some (.int k a) ∧ ys[i]? = some (.int k b)) :
    EqRun P t (.agg xs.toArray) (.agg ys.toArray) ((List.range n).all fun i => intAt xs i == intAt ys i) := by
  unfold flatInts at hf
  split at hf
  · rename_i fs hu
    simp only [Bool.and_eq_true, beq_iff_eq, Bool.not_eq_true', List.all_eq_true, bne_iff_ne] at hf
    obtain ⟨⟨⟨h1, h2⟩, h3⟩, h4⟩ := hf
    refine ⟨⟨_, rfl⟩, ⟨_, rfl⟩, h4, fun w => ?_⟩
    have hfl : P.fieldsOf t = fs := by simp [Program.fieldsOf, hu]
    have hr := run_equalIn_struct (P := P) w 9999 t xs.toArray ys.toArray (by rw [hfl]; exact hu) h3
    rw [hfl] at hr
    have hq := eqFields_ints (P := P) (w := w) (d := 9998) (xs := xs) (ys := ys) fs.toList (fun f hf => by
      obtain ⟨g1, g2⟩ := h2 f hf
      refine ⟨g1, ?_, ?_⟩
      · revert g2
        cases P.underlying f.type with
        | none => intro g2; cases g2
        | some d => cases d <;> intro g2 <;> first | exact ⟨_, rfl⟩ | cases g2
      · have hm : f.offset ∈ List.range n := by rw [← h1]; exact List.mem_map_of_mem hf
        exact h _ (List.mem_range.1 hm))
    have e : (fs.toList.all fun f => intAt xs f.offset == intAt ys f.offset) = (List.range n).all fun i => intAt xs i == intAt ys i := by
      rw [← h1, List.all_map]
      rfl
    rw [← e]
    show (Op.equalIn (9999 + 1) t _ _).run P w = _
    rw [hr]
    exact hq
  · cases hf
theorem eqsK_ints {ng : Bool} {t : TypeId} {n : Nat} (hf : flatInts P t n = true) {xs ys : List Value} (h : ∀ i, i < n → ∃ k a b, xs[i]? = some (.int k a) ∧ ys[i]? = some (.int k b)) {C : Value → Prop}
    (hC : C (.bool (ng != ((List.range n).all fun i => intAt xs i == intAt ys i)))) : eqsK P ng t (.agg xs.toArray) (.agg ys.toArray) C := ⟨_, eqs_ints hf h, hC⟩
theorem eqs_five {t : TypeId} (hf : flatInts P t 5 = true) {ng : Bool} {k0 k1 k2 k3 k4 : IntKind} {x0 x1 x2 x3 x4 y0 y1 y2 y3 y4 : Int} {C : Value → Prop}
    (hC : C (.bool (ng != decide (x0 = y0 ∧ x1 = y1 ∧ x2 = y2 ∧ x3 = y3 ∧ x4 = y4)))) :
    eqsK P ng t (.agg #[.int k0 x0, .int k1 x1, .int k2 x2, .int k3 x3, .int k4 x4]) (.agg #[.int k0 y0, .int k1 y1, .int k2 y2, .int k3 y3, .int k4 y4]) C := by
  refine eqsK_ints (xs := [.int k0 x0, .int k1 x1, .int k2 x2, .int k3 x3, .int k4 x4]) (ys := [.int k0 y0, .int k1 y1, .int k2 y2, .int k3 y3, .int k4 y4]) hf (fun i hi => ?_) ?_
  · match i, hi with
    | 0, _ => exact ⟨_, _, _, rfl, rfl⟩
    | 1, _ => exact ⟨_, _, _, rfl, rfl⟩
    | 2, _ => exact ⟨_, _, _, rfl, rfl⟩
    | 3, _ => exact ⟨_, _, _, rfl, rfl⟩
    | 4, _ => exact ⟨_, _, _, rfl, rfl⟩
  · have e : ((List.range 5).all fun i => intAt [.int k0 x0, .int k1 x1, .int k2 x2, .int k3 x3, .int k4 x4] i == intAt [.int k0 y0, .int k1 y1, .int k2 y2, .int k3 y3, .int k4 y4] i) = decide (x0 = y0 ∧ x1 = y1 ∧ x2 = y2 ∧ x3 = y3 ∧ x4 = y4) := by
      rw [Bool.eq_iff_iff]
      simp [List.range_succ, intAt, and_assoc]
    rw [e]; exact hC
end
theorem kb {K : Value → AHeap → Prop} {H : AHeap} {b c : Bool} (h : K (.bool b) H) (e : c = b) : K (.bool c) H := e ▸ h
theorem ki {K : Value → AHeap → Prop} {H : AHeap} {k : IntKind} {b c : Int} (h : K (.int k b) H) (e : c = b) : K (.int k c) H := e ▸ h
theorem false_bne' (b : Bool) : (false != b) = b := by simp
theorem true_bne' (b : Bool) : (true != b) = !b := by simp
theorem zG1 : (type_of% @zA1) ∧ (type_of% @zA2) ∧ (type_of% @zA3) ∧ (type_of% @zA4) ∧ (type_of% @zA5) ∧ (type_of% @zA6) ∧ (type_of% @zA7) ∧ (type_of% @zA8) ∧ (type_of% @zA9) ∧ (type_of% @zA10) ∧ (type_of% @zA11) ∧ (type_of% @zA12) ∧ (type_of% @zA13) ∧ (type_of% @zA14) ∧ (type_of% @zA15) ∧ (type_of% @zA16) ∧ (type_of% @zA17) ∧ (type_of% @zA18) ∧ (type_of% @zA19) ∧ (type_of% @zA20) ∧ (type_of% @zA21) ∧ (type_of% @zA22) ∧ (type_of% @zA23) ∧ (type_of% @zA24) ∧ (type_of% @zA25) ∧ (type_of% @zA26) ∧ (type_of% @zA27) ∧ (type_of% @zA28) := ⟨@zA1, @zA2, @zA3, @zA4, @zA5, @zA6, @zA7, @zA8, @zA9, @zA10, @zA11, @zA12, @zA13, @zA14, @zA15, @zA16, @zA17, @zA18, @zA19, @zA20, @zA21, @zA22, @zA23, @zA24, @zA25, @zA26, @zA27, @zA28⟩
theorem zG2 : (type_of% @zA29) ∧ (type_of% @zA30) ∧ (type_of% @zA31) ∧ (type_of% @zA32) ∧ (type_of% @zA33) ∧ (type_of% @zA34) ∧ (type_of% @zA35) ∧ (type_of% @zA36) ∧ (type_of% @zB1) ∧ (type_of% @zB2) ∧ (type_of% @zB3) ∧ (type_of% @zB4) ∧ (type_of% @zB5) ∧ (type_of% @zB6) ∧ (type_of% @zB7) ∧ (type_of% @zB8) ∧ (type_of% @zB9) ∧ (type_of% @zB10) ∧ (type_of% @zB11) ∧ (type_of% @zB12) ∧ (type_of% @zB13) ∧ (type_of% @zB14) ∧ (type_of% @zB15) ∧ (type_of% @zB16) ∧ (type_of% @zB17) ∧ (type_of% @zB18) ∧ (type_of% @zB19) ∧ (type_of% @zB20) := ⟨@zA29, @zA30, @zA31, @zA32, @zA33, @zA34, @zA35, @zA36, @zB1, @zB2, @zB3, @zB4, @zB5, @zB6, @zB7, @zB8, @zB9, @zB10, @zB11, @zB12, @zB13, @zB14, @zB15, @zB16, @zB17, @zB18, @zB19, @zB20⟩
theorem zG3 : (type_of% @zB21) ∧ (type_of% @zB22) ∧ (type_of% @zB23) ∧ (type_of% @zB24) ∧ (type_of% @zB25) ∧ (type_of% @zB26) ∧ (type_of% @zB27) ∧ (type_of% @zB28) ∧ (type_of% @zB29) ∧ (type_of% @zB30) ∧ (type_of% @zB31) ∧ (type_of% @zB32) ∧ (type_of% @zB33) ∧ (type_of% @zB34) ∧ (type_of% @zC1) ∧ (type_of% @zC2) ∧ (type_of% @zC3) ∧ (type_of% @zC4) ∧ (type_of% @zC5) ∧ (type_of% @zC6) ∧ (type_of% @zC7) ∧ (type_of% @zC8) ∧ (type_of% @zC9) ∧ (type_of% @zC10) ∧ (type_of% @zC11) ∧ (type_of% @zC12) ∧ (type_of% @zC13) ∧ (type_of% @zC14) := ⟨@zB21, @zB22, @zB23, @zB24, @zB25, @zB26, @zB27, @zB28, @zB29, @zB30, @zB31, @zB32, @zB33, @zB34, @zC1, @zC2, @zC3, @zC4, @zC5, @zC6, @zC7, @zC8, @zC9, @zC10, @zC11, @zC12, @zC13, @zC14⟩
theorem zG4 : (type_of% @zC15) ∧ (type_of% @zC16) ∧ (type_of% @zC17) ∧ (type_of% @zC18) ∧ (type_of% @zC19) ∧ (type_of% @zC20) ∧ (type_of% @zC21) ∧ (type_of% @zC22) ∧ (type_of% @zC23) ∧ (type_of% @zC24) ∧ (type_of% @zC25) ∧ (type_of% @zC26) ∧ (type_of% @zC27) ∧ (type_of% @zC28) ∧ (type_of% @zC29) ∧ (type_of% @zC30) ∧ (type_of% @zC31) ∧ (type_of% @zC32) ∧ (type_of% @zC33) ∧ (type_of% @zC34) ∧ (type_of% @zC35) ∧ (type_of% @zC36) ∧ (type_of% @zC37) ∧ (type_of% @zC38) ∧ (type_of% @zC39) ∧ (type_of% @zC40) ∧ (type_of% @zC41) ∧ (type_of% @le_refl_true) := ⟨@zC15, @zC16, @zC17, @zC18, @zC19, @zC20, @zC21, @zC22, @zC23, @zC24, @zC25, @zC26, @zC27, @zC28, @zC29, @zC30, @zC31, @zC32, @zC33, @zC34, @zC35, @zC36, @zC37, @zC38, @zC39, @zC40, @zC41, @le_refl_true⟩
theorem zG5 : (type_of% @true_and) ∧ (type_of% @and_true) ∧ (type_of% @needs_some) ∧ (type_of% @needs_map) ∧ (type_of% @put_at) ∧ (type_of% @fr0_zero) ∧ (type_of% @fr0_succ) ∧ (type_of% @fr0_nil) ∧ (type_of% @adr_adr) ∧ (type_of% @adr_zero) ∧ (type_of% @adr_lit) ∧ (type_of% @adr_some) ∧ (type_of% @cell_same) ∧ (type_of% @v_cells) ∧ (type_of% @v_size) ∧ (type_of% @List.getElem?_cons_succ.{0}) ∧ (type_of% @List.getElem?_cons_zero.{0}) ∧ (type_of% @Option.isSome_some.{0}) ∧ (type_of% @Option.bind_some.{0, 0}) ∧ (type_of% @Option.map_some.{0, 0}) ∧ (type_of% @List.set_cons_zero.{0}) ∧ (type_of% @List.set_cons_succ.{0}) ∧ (type_of% @vcI) ∧ (type_of% @vcB) ∧ (type_of% @vcS) ∧ (type_of% @vcP) ∧ (type_of% @vcF) ∧ (type_of% @vcA) := ⟨@true_and, @and_true, @needs_some, @needs_map, @put_at, @fr0_zero, @fr0_succ, @fr0_nil, @adr_adr, @adr_zero, @adr_lit, @adr_some, @cell_same, @v_cells, @v_size, @List.getElem?_cons_succ.{0}, @List.getElem?_cons_zero.{0}, @Option.isSome_some.{0}, @Option.bind_some.{0, 0}, @Option.map_some.{0, 0}, @List.set_cons_zero.{0}, @List.set_cons_succ.{0}, @vcI, @vcB, @vcS, @vcP, @vcF, @vcA⟩
theorem zG6 : (type_of% @vcU) ∧ (type_of% @List.toList_toArray.{0}) ∧ (type_of% @and_self) ∧ (type_of% @List.length_cons.{0}) ∧ (type_of% @List.length_nil.{0}) ∧ (type_of% @List.size_toArray.{0}) ∧ (type_of% @List.map_cons.{0, 0}) ∧ (type_of% @List.map_nil.{0, 0}) ∧ (type_of% @List.nil_append.{0}) ∧ (type_of% @List.append_nil.{0}) ∧ (type_of% @List.cons_append.{0}) ∧ (type_of% @Int.toNat_natCast) ∧ (type_of% @Nat.zero_add) ∧ (type_of% @bne_self_eq_false.{0}) ∧ (type_of% @false_bne') ∧ (type_of% @true_bne') ∧ (type_of% @cell_ne) ∧ (type_of% @cell_ne') ∧ (type_of% @set_same) ∧ (type_of% @set_ne) ∧ (type_of% @set_ne') ∧ (type_of% @set_set) ∧ (type_of% @some_ex) ∧ (type_of% @all_cons) ∧ (type_of% @all_nil') ∧ (type_of% @ocI) ∧ (type_of% @ocB) ∧ (type_of% @ocS) := ⟨@vcU, @List.toList_toArray.{0}, @and_self, @List.length_cons.{0}, @List.length_nil.{0}, @List.size_toArray.{0}, @List.map_cons.{0, 0}, @List.map_nil.{0, 0}, @List.nil_append.{0}, @List.append_nil.{0}, @List.cons_append.{0}, @Int.toNat_natCast, @Nat.zero_add, @bne_self_eq_false.{0}, @false_bne', @true_bne', @cell_ne, @cell_ne', @set_same, @set_ne, @set_ne', @set_set, @some_ex, @all_cons, @all_nil', @ocI, @ocB, @ocS⟩
theorem zG7 : (type_of% @ocP) ∧ (type_of% @not_false_eq_true) ∧ (type_of% @Bool.not_true) ∧ (type_of% @Bool.not_false) ∧ (type_of% @ldnV_p) := ⟨@ocP, @not_false_eq_true, @Bool.not_true, @Bool.not_false, @ldnV_p⟩
theorem zGr : (type_of% @rdn_F) ∧ (type_of% @rdnF_zero) ∧ (type_of% @rdnF_succ) ∧ (type_of% @st_eq) := ⟨@rdn_F, @rdnF_zero, @rdnF_succ, @st_eq⟩
end Go.Proofs.Ytfjhjfddgdokgaa
namespace Go.Proofs.Ytfjhjfddgdokgaa
open Go Go.RowKit
set_option maxRecDepth 100000
def ir7 : XF := ⟨117, [(.tmp 4)], (.seq (.ops [(qO 4 (.mov (.const (.bool false))))]) (.seq (.seq (.ops [(qM 17 0), (qO 18 (.len (qT 17))), (qO 19 (.bin .gtr (qT 18) (qI 1048576)))]) (.cond (qT 19) (.seq (.ops [(qO 4 (.mov (.const (.bool true))))]) .ret) .skip)) (.seq (.ops [(qO 5 (.mov (qI 1048576)))]) (.seq (.ops [(qM 20 1), (qM 21 5), (qO 22 (qC 37 [(qT 20), (qT 21)])), (qM 5 22)]) (.seq (.seq (.ops [(qM 23 5), (qO 24 (.bin .lss (qT 23) (qI 0)))]) (.cond (qT 24) (.seq (.ops [(qO 4 (.mov (.const (.bool true))))]) .ret) .skip)) (.seq (.ops [(qM 26 0), (qO 27 (qC 39 [(qT 26)])), (qM 28 1), (qO 29 (qC 40 [(qT 28)])), (qO 30 (qC 38 [(qT 27), (qT 29)])), (qM 25 30), (qO 31 (.ext 0 (qT 25))), (qO 32 (.ext 1 (qT 25))), (qO 6 (.new [(.slice none 0 0), (.slice none 0 0), (.slice none 0 0), (.int .i64 0), (.int .i64 0), (.slice none 0 0)] 62)), ⟨none, (.st 6 (qT 6) (qT 31)), none⟩, (qM 7 32)]) (.seq (.ops [(qM 33 0), (qO 34 (qC 39 [(qT 33)])), (qM 8 34)]) (.seq (.ops [(qM 35 1), (qO 36 (qC 40 [(qT 35)])), (qM 9 36)]) (.seq (.ops [(qM 38 8), (qM 39 9), (qO 40 (qC 41 [(qT 38), (qT 39)])), (qM 37 40), (qO 41 (.ext 0 (qT 37))), (qO 42 (.ext 1 (qT 37))), (qO 10 (.new [(.slice none 0 0), (.slice none 0 0), (.slice none 0 0), (.int .i64 0), (.int .i64 0), (.slice none 0 0)] 62)), ⟨none, (.st 6 (qT 10) (qT 41)), none⟩, (qM 11 42)]) (.seq (.seq (.ops [(qO 43 (.ldn 6 (qT 10))), (qO 44 (.ldn 6 (qT 6))), (qO 45 (qC 36 [(qT 43), (qT 44)])), (qO 46 (.not (qT 45))), (qM 47 46), (qG 48 (.mov (qT 11)) 47 false), (qG 49 (.mov (qT 7)) 47 false), (qG 50 (.eqb true (qT 48) (qT 49)) 47 false), (qO 51 (.pick (qT 47) (.const (.bool true)) (qT 50)))]) (.cond (qT 51) (.seq (.ops [(qO 4 (.mov (.const (.bool false))))]) .ret) .skip)) (.seq (.seq (.ops [(qM 52 8), (qM 53 0), (qO 54 (qC 39 [(qT 53)])), (qO 55 (qC 42 [(qT 52), (qT 54)])), (qO 56 (.not (qT 55)))]) (.cond (qT 56) (.seq (.ops [(qO 4 (.mov (.const (.bool false))))]) .ret) .skip)) (.seq (.seq (.ops [(qM 57 9), (qM 58 1), (qO 59 (qC 40 [(qT 58)])), (qO 60 (qC 27 [(qT 57), (qT 59)])), (qO 61 (.not (qT 60)))]) (.cond (qT 61) (.seq (.ops [(qO 4 (.mov (.const (.bool false))))]) .ret) .skip)) (.seq (.ops [(qO 12 (.mov (qI 1)))]) (.seq (.ops [(qM 62 8), (qM 63 12), (qO 64 (qC 43 [(qT 62), (qT 63)])), (qM 12 64)]) (.seq (.ops [(qM 65 9), (qM 66 12), (qO 67 (qC 30 [(qT 65), (qT 66)])), (qM 12 67)]) (.seq (.seq (.ops [(qM 68 12), (qO 69 (.bin .lss (qT 68) (qI 0))), (qM 70 69), (qG 71 (.ldn 6 (qT 10)) 70 false), (qG 72 (.ldn 6 (qT 6)) 70 false), (qG 73 (qC 36 [(qT 71), (qT 72)]) 70 false), (qG 74 (.not (qT 73)) 70 false), (qO 75 (.pick (qT 70) (.const (.bool true)) (qT 74))), (qM 76 75), (qG 77 (.mov (qT 11)) 76 false), (qG 78 (.mov (qT 7)) 76 false), (qG 79 (.eqb true (qT 77) (qT 78)) 76 false), (qO 80 (.pick (qT 76) (.const (.bool true)) (qT 79)))]) (.cond (qT 80) (.seq (.ops [(qO 4 (.mov (.const (.bool false))))]) .ret) .skip)) (.seq (.ops [(qO 13 (.mov (qI 1)))]) (.seq (.ops [(qO 81 (.ldn 6 (qT 10))), (qM 82 13), (qO 83 (qC 44 [(qT 81), (qT 82)])), (qM 13 83)]) (.seq (.ops [(qO 14 (.mov (qI 1)))]) (.seq (.ops [(qO 84 (.ldn 6 (qT 10))), (qM 85 14), (qO 86 (qC 45 [(qT 84), (qT 85)])), (qM 14 86)]) (.seq (.seq (.ops [(qM 87 14), (qO 88 (.bin .lss (qT 87) (qI 0)))]) (.cond (qT 88) (.seq (.ops [(qO 4 (.mov (.const (.bool false))))]) .ret) .skip)) (.seq (.seq (.ops [(qM 89 14), (qM 90 13), (qO 91 (.bin .neq (qT 89) (qT 90)))]) (.cond (qT 91) (.seq (.ops [(qO 4 (.mov (.const (.bool false))))]) .ret) .skip)) (.seq (.ops [(qM 93 0), (qO 94 (qC 39 [(qT 93)])), (qM 95 1), (qO 96 (qC 40 [(qT 95)])), (qO 97 (qC 41 [(qT 94), (qT 96)])), (qM 92 97), (qO 98 (.ext 0 (qT 92))), (qO 99 (.ext 1 (qT 92))), (qO 15 (.new [(.slice none 0 0), (.slice none 0 0), (.slice none 0 0), (.int .i64 0), (.int .i64 0), (.slice none 0 0)] 62)), ⟨none, (.st 6 (qT 15) (qT 98)), none⟩, (qM 16 99)]) (.seq (.seq (.ops [(qO 100 (.ldn 6 (qT 15))), (qO 101 (.ldn 6 (qT 6))), (qO 102 (qC 36 [(qT 100), (qT 101)])), (qO 103 (.not (qT 102))), (qM 104 103), (qG 105 (.mov (qT 16)) 104 false), (qG 106 (.mov (qT 7)) 104 false), (qG 107 (.eqb true (qT 105) (qT 106)) 104 false), (qO 108 (.pick (qT 104) (.const (.bool true)) (qT 107)))]) (.cond (qT 108) (.seq (.ops [(qO 4 (.mov (.const (.bool false))))]) .ret) .skip)) (.seq (.ops [(qO 14 (.mov (qI 1)))]) (.seq (.ops [(qO 109 (.ldn 6 (qT 10))), (qM 110 14), (qO 111 (qC 45 [(qT 109), (qT 110)])), (qM 14 111)]) (.seq (.seq (.ops [(qM 112 14), (qO 113 (.bin .lss (qT 112) (qI 0)))]) (.cond (qT 113) (.seq (.ops [(qO 4 (.mov (.const (.bool false))))]) .ret) .skip)) (.seq (.seq (.ops [(qM 114 14), (qM 115 13), (qO 116 (.bin .neq (qT 114) (qT 115)))]) (.cond (qT 116) (.seq (.ops [(qO 4 (.mov (.const (.bool false))))]) .ret) .skip)) (.seq (.ops [(qO 4 (.mov (.const (.bool true))))]) .ret)))))))))))))))))))))))))))))⟩
theorem of7 : XF.of Try.prog Try.f7 = some ir7 := by kernel_rfl
def ir19 : XF := ⟨27, [(.tmp 4)], (.seq (.ops [(qO 4 (.mov (.const (.bool false))))]) (.seq (.seq (.ops [(qM 6 0), (qO 7 (.len (qT 6))), (qM 8 1), (qO 9 (.len (qT 8))), (qO 10 (.bin .neq (qT 7) (qT 9)))]) (.cond (qT 10) (.seq (.ops [(qO 4 (.mov (.const (.bool false))))]) .ret) .skip)) (.seq (.seq (.ops [(qO 5 (.mov (qI 0)))]) (.block 0 (.loop (.seq (.seq (.ops [(qM 11 5), (qM 12 0), (qO 13 (.len (qT 12))), (qO 14 (.bin .lss (qT 11) (qT 13)))]) (.cond (qT 14) .skip (.exit 0))) (.seq (.block 1 (.seq (.draw (.take (qM 17 0) (.take (qM 18 5) (.take (qO 19 (.idx 5 (qT 17) (qT 18))) (.take (qO 20 (.ldn 5 (qT 19))) (.take (qM 21 1) (.take (qM 22 5) (.take (qO 23 (.idx 5 (qT 21) (qT 22))) (.take (qO 24 (.ldn 5 (qT 23))) (.alt (qO 25 (qC 73 [(qT 20), (qT 24)])) (.take (qO 26 (.not (qT 25))) .done) .none_)))))))))) (.cond (qT 26) (.seq (.ops [(qO 4 (.mov (.const (.bool false))))]) .ret) .skip))) (.ops [(qM 15 5), (qO 16 (.bin .add (qT 15) (qI 1))), (qM 5 16)])))))) (.seq (.ops [(qO 4 (.mov (.const (.bool true))))]) .ret))))⟩
theorem of19 : XF.of Try.prog Try.f19 = some ir19 := by kernel_rfl
def ir21 : XF := ⟨48, [(.tmp 4)], (.seq (.ops [(qO 4 (.mov (qI 0)))]) (.seq (.seq (.ops [(qO 5 (.mov (qI 0)))]) (.block 0 (.loop (.seq (.seq (.ops [(qM 6 5), (qM 7 0), (qO 8 (.len (qT 7))), (qO 9 (.bin .lss (qT 6) (qT 8)))]) (.cond (qT 9) .skip (.exit 0))) (.seq (.block 1 (.seq (.ops [(qM 12 0), (qM 13 5), (qM 14 1), (qO 15 (.idx 5 (qT 12) (qT 13))), (qO 16 (.fld 0 (qT 15))), ⟨none, (.st 1 (qT 16) (qT 14)), none⟩]) (.seq (.ops [(qM 17 1), (qO 18 (.bin .add (qT 17) (qI 1))), (qM 1 18)]) (.seq (.ops [(qM 19 0), (qM 20 5), (qM 21 1), (qO 22 (.idx 5 (qT 19) (qT 20))), (qO 23 (.fld 1 (qT 22))), ⟨none, (.st 1 (qT 23) (qT 21)), none⟩]) (.seq (.ops [(qM 24 1), (qO 25 (.bin .add (qT 24) (qI 1))), (qM 1 25)]) (.seq (.ops [(qM 26 0), (qM 27 5), (qM 28 1), (qO 29 (.idx 5 (qT 26) (qT 27))), (qO 30 (.fld 2 (qT 29))), ⟨none, (.st 1 (qT 30) (qT 28)), none⟩]) (.seq (.ops [(qM 31 1), (qO 32 (.bin .add (qT 31) (qI 1))), (qM 1 32)]) (.seq (.ops [(qM 33 0), (qM 34 5), (qM 35 1), (qO 36 (.idx 5 (qT 33) (qT 34))), (qO 37 (.fld 3 (qT 36))), ⟨none, (.st 1 (qT 37) (qT 35)), none⟩]) (.seq (.ops [(qM 38 1), (qO 39 (.bin .add (qT 38) (qI 1))), (qM 1 39)]) (.seq (.ops [(qM 40 0), (qM 41 5), (qM 42 1), (qO 43 (.idx 5 (qT 40) (qT 41))), (qO 44 (.fld 4 (qT 43))), ⟨none, (.st 1 (qT 44) (qT 42)), none⟩]) (.ops [(qM 45 1), (qO 46 (.bin .add (qT 45) (qI 1))), (qM 1 46)]))))))))))) (.ops [(qM 10 5), (qO 11 (.bin .add (qT 10) (qI 1))), (qM 5 11)])))))) (.seq (.ops [(qM 47 1), (qM 4 47)]) .ret)))⟩
theorem of21 : XF.of Try.prog Try.f21 = some ir21 := by kernel_rfl
def ir22 : XF := ⟨58, [(.tmp 4)], (.seq (.ops [(qO 4 (.mov (qI 0)))]) (.seq (.seq (.ops [(qO 5 (.mov (qI 0)))]) (.block 0 (.loop (.seq (.seq (.ops [(qM 6 5), (qM 7 0), (qO 8 (.len (qT 7))), (qO 9 (.bin .lss (qT 6) (qT 8)))]) (.cond (qT 9) .skip (.exit 0))) (.seq (.block 1 (.seq (.seq (.ops [(qM 12 0), (qM 13 5), (qO 14 (.idx 5 (qT 12) (qT 13))), (qO 15 (.fld 0 (qT 14))), (qO 16 (.ld (qT 15))), (qM 17 1), (qO 18 (.bin .neq (qT 16) (qT 17)))]) (.cond (qT 18) (.seq (.ops [(qO 4 (.mov (qI (-1))))]) .ret) .skip)) (.seq (.ops [(qM 19 1), (qO 20 (.bin .add (qT 19) (qI 1))), (qM 1 20)]) (.seq (.seq (.ops [(qM 21 0), (qM 22 5), (qO 23 (.idx 5 (qT 21) (qT 22))), (qO 24 (.fld 1 (qT 23))), (qO 25 (.ld (qT 24))), (qM 26 1), (qO 27 (.bin .neq (qT 25) (qT 26)))]) (.cond (qT 27) (.seq (.ops [(qO 4 (.mov (qI (-1))))]) .ret) .skip)) (.seq (.ops [(qM 28 1), (qO 29 (.bin .add (qT 28) (qI 1))), (qM 1 29)]) (.seq (.seq (.ops [(qM 30 0), (qM 31 5), (qO 32 (.idx 5 (qT 30) (qT 31))), (qO 33 (.fld 2 (qT 32))), (qO 34 (.ld (qT 33))), (qM 35 1), (qO 36 (.bin .neq (qT 34) (qT 35)))]) (.cond (qT 36) (.seq (.ops [(qO 4 (.mov (qI (-1))))]) .ret) .skip)) (.seq (.ops [(qM 37 1), (qO 38 (.bin .add (qT 37) (qI 1))), (qM 1 38)]) (.seq (.seq (.ops [(qM 39 0), (qM 40 5), (qO 41 (.idx 5 (qT 39) (qT 40))), (qO 42 (.fld 3 (qT 41))), (qO 43 (.ld (qT 42))), (qM 44 1), (qO 45 (.bin .neq (qT 43) (qT 44)))]) (.cond (qT 45) (.seq (.ops [(qO 4 (.mov (qI (-1))))]) .ret) .skip)) (.seq (.ops [(qM 46 1), (qO 47 (.bin .add (qT 46) (qI 1))), (qM 1 47)]) (.seq (.seq (.ops [(qM 48 0), (qM 49 5), (qO 50 (.idx 5 (qT 48) (qT 49))), (qO 51 (.fld 4 (qT 50))), (qO 52 (.ld (qT 51))), (qM 53 1), (qO 54 (.bin .neq (qT 52) (qT 53)))]) (.cond (qT 54) (.seq (.ops [(qO 4 (.mov (qI (-1))))]) .ret) .skip)) (.ops [(qM 55 1), (qO 56 (.bin .add (qT 55) (qI 1))), (qM 1 56)]))))))))))) (.ops [(qM 10 5), (qO 11 (.bin .add (qT 10) (qI 1))), (qM 5 11)])))))) (.seq (.ops [(qM 57 1), (qM 4 57)]) .ret)))⟩
theorem of22 : XF.of Try.prog Try.f22 = some ir22 := by kernel_rfl
def ir27 : XF := ⟨27, [(.tmp 4)], (.seq (.ops [(qO 4 (.mov (.const (.bool false))))]) (.seq (.seq (.ops [(qM 6 0), (qO 7 (.len (qT 6))), (qM 8 1), (qO 9 (.len (qT 8))), (qO 10 (.bin .neq (qT 7) (qT 9)))]) (.cond (qT 10) (.seq (.ops [(qO 4 (.mov (.const (.bool false))))]) .ret) .skip)) (.seq (.seq (.ops [(qO 5 (.mov (qI 0)))]) (.block 0 (.loop (.seq (.seq (.ops [(qM 11 5), (qM 12 0), (qO 13 (.len (qT 12))), (qO 14 (.bin .lss (qT 11) (qT 13)))]) (.cond (qT 14) .skip (.exit 0))) (.seq (.block 1 (.seq (.draw (.take (qM 17 0) (.take (qM 18 5) (.take (qO 19 (.idx 1 (qT 17) (qT 18))) (.take (qO 20 (.ld (qT 19))) (.take (qM 21 1) (.take (qM 22 5) (.take (qO 23 (.idx 1 (qT 21) (qT 22))) (.take (qO 24 (.ld (qT 23))) (.alt (qO 25 (qC 19 [(qT 20), (qT 24)])) (.take (qO 26 (.not (qT 25))) .done) .none_)))))))))) (.cond (qT 26) (.seq (.ops [(qO 4 (.mov (.const (.bool false))))]) .ret) .skip))) (.ops [(qM 15 5), (qO 16 (.bin .add (qT 15) (qI 1))), (qM 5 16)])))))) (.seq (.ops [(qO 4 (.mov (.const (.bool true))))]) .ret))))⟩
theorem of27 : XF.of Try.prog Try.f27 = some ir27 := by kernel_rfl
def ir30 : XF := ⟨19, [(.tmp 4)], (.seq (.ops [(qO 4 (.mov (qI 0)))]) (.seq (.seq (.ops [(qO 5 (.mov (qI 0)))]) (.block 0 (.loop (.seq (.seq (.ops [(qM 6 5), (qM 7 0), (qO 8 (.len (qT 7))), (qO 9 (.bin .lss (qT 6) (qT 8)))]) (.cond (qT 9) .skip (.exit 0))) (.seq (.block 1 (.ops [(qM 12 0), (qM 13 5), (qO 14 (.idx 1 (qT 12) (qT 13))), (qO 15 (.ld (qT 14))), (qM 16 1), (qO 17 (qC 21 [(qT 15), (qT 16)])), (qM 1 17)])) (.ops [(qM 10 5), (qO 11 (.bin .add (qT 10) (qI 1))), (qM 5 11)])))))) (.seq (.ops [(qM 18 1), (qM 4 18)]) .ret)))⟩
theorem of30 : XF.of Try.prog Try.f30 = some ir30 := by kernel_rfl
def ir31 : XF := ⟨21, [(.tmp 4)], (.seq (.ops [(qO 4 (.mov (qI 0)))]) (.seq (.seq (.ops [(qO 5 (.mov (qI 0)))]) (.block 0 (.loop (.seq (.seq (.ops [(qM 6 5), (qM 7 0), (qO 8 (.len (qT 7))), (qO 9 (.bin .lss (qT 6) (qT 8)))]) (.cond (qT 9) .skip (.exit 0))) (.seq (.block 1 (.seq (.ops [(qM 12 0), (qM 13 5), (qO 14 (.idx 1 (qT 12) (qT 13))), (qO 15 (.ld (qT 14))), (qM 16 1), (qO 17 (qC 22 [(qT 15), (qT 16)])), (qM 1 17)]) (.seq (.ops [(qM 18 1), (qO 19 (.bin .lss (qT 18) (qI 0)))]) (.cond (qT 19) (.seq (.ops [(qO 4 (.mov (qI (-1))))]) .ret) .skip)))) (.ops [(qM 10 5), (qO 11 (.bin .add (qT 10) (qI 1))), (qM 5 11)])))))) (.seq (.ops [(qM 20 1), (qM 4 20)]) .ret)))⟩
theorem of31 : XF.of Try.prog Try.f31 = some ir31 := by kernel_rfl
def ir33 : XF := ⟨74, [(.tmp 2)], (.seq (.ops [(qO 1 (.box 62 (qT 0))), (qO 2 (.mov (.const (.bool false))))]) (.seq (.ops [(qO 5 (.fld 1 (qT 1))), (qO 6 (.ld (qT 5))), (qO 7 (.len (qT 6))), (qM 3 7)]) (.seq (.seq (.ops [(qM 8 3), (qO 9 (qC 84 [(qT 8), (qI 1), (qI 3)])), (qO 10 (.not (qT 9))), (qM 11 10), (qG 12 (.fld 0 (qT 1)) 11 false), (qG 13 (.ld (qT 12)) 11 false), (qG 14 (.len (qT 13)) 11 false), (qG 15 (.mov (qT 3)) 11 false), (qG 16 (.bin .neq (qT 14) (qT 15)) 11 false), (qO 17 (.pick (qT 11) (.const (.bool true)) (qT 16))), (qM 18 17), (qG 19 (.fld 2 (qT 1)) 18 false), (qG 20 (.ld (qT 19)) 18 false), (qG 21 (qC 85 [(qT 20)]) 18 false), (qG 22 (.not (qT 21)) 18 false), (qO 23 (.pick (qT 18) (.const (.bool true)) (qT 22))), (qM 24 23), (qG 25 (.fld 3 (qT 1)) 24 false), (qG 26 (.ld (qT 25)) 24 false), (qG 27 (.mov (qT 3)) 24 false), (qG 28 (.bin .sub (qT 27) (qI 1)) 24 false), (qG 29 (qC 84 [(qT 26), (qI 0), (qT 28)]) 24 false), (qG 30 (.not (qT 29)) 24 false), (qO 31 (.pick (qT 24) (.const (.bool true)) (qT 30))), (qM 32 31), (qG 33 (.fld 4 (qT 1)) 32 false), (qG 34 (.ld (qT 33)) 32 false), (qG 35 (.mov (qT 3)) 32 false), (qG 36 (qC 84 [(qT 34), (qI 0), (qT 35)]) 32 false), (qG 37 (.not (qT 36)) 32 false), (qO 38 (.pick (qT 32) (.const (.bool true)) (qT 37)))]) (.cond (qT 38) (.seq (.ops [(qO 2 (.mov (.const (.bool false))))]) .ret) .skip)) (.seq (.seq (.ops [(qO 4 (.mov (qI 0)))]) (.block 0 (.loop (.seq (.seq (.ops [(qM 39 4), (qM 40 3), (qO 41 (.bin .lss (qT 39) (qT 40)))]) (.cond (qT 41) .skip (.exit 0))) (.seq (.block 1 (.seq (.draw (.take (qO 44 (.fld 1 (qT 1))) (.take (qO 45 (.ld (qT 44))) (.take (qM 46 4) (.take (qO 47 (.idx 2 (qT 45) (qT 46))) (.take (qO 48 (.ldn 2 (qT 47))) (.take (qO 49 (.fld 0 (qT 1))) (.take (qO 50 (.ld (qT 49))) (.take (qM 51 4) (.take (qO 52 (.idx 1 (qT 50) (qT 51))) (.take (qO 53 (.ld (qT 52))) (.alt (qO 54 (qC 86 [(qT 48), (qT 53)])) (.take (qO 55 (.not (qT 54))) (.take (qM 56 55) (.take (qG 57 (.fld 0 (qT 1)) 56 false) (.take (qG 58 (.ld (qT 57)) 56 false) (.take (qG 59 (.mov (qT 4)) 56 false) (.take (qG 60 (.idx 1 (qT 58) (qT 59)) 56 false) (.take (qG 61 (.ld (qT 60)) 56 false) (.take (qG 62 (.fld 2 (qT 1)) 56 false) (.take (qG 63 (.ld (qT 62)) 56 false) (.take (qG 64 (.len (qT 63)) 56 false) (.alt (qG 65 (qC 87 [(qT 61), (qT 64)]) 56 false) (.take (qG 66 (.not (qT 65)) 56 false) (.take (qO 67 (.pick (qT 56) (.const (.bool true)) (qT 66))) .done)) .none_))))))))))) .none_)))))))))))) (.cond (qT 67) (.seq (.ops [(qO 2 (.mov (.const (.bool false))))]) .ret) .skip))) (.ops [(qM 42 4), (qO 43 (.bin .add (qT 42) (qI 1))), (qM 4 43)])))))) (.seq (.ops [(qO 68 (.fld 5 (qT 1))), (qO 69 (.ld (qT 68))), (qO 70 (.fld 5 (qT 1))), (qO 71 (.ld (qT 70))), (qO 72 (.len (qT 71))), (qO 73 (qC 88 [(qT 69), (qT 72)])), (qM 2 73)]) .ret)))))⟩
theorem of33 : XF.of Try.prog Try.f33 = some ir33 := by kernel_rfl
def ir35 : XF := ⟨63, [(.tmp 2)], (.seq (.ops [(qO 1 (.box 62 (qT 0))), (qO 2 (.mov (.const (.bool false))))]) (.seq (.seq (.ops [(qO 7 (.fld 0 (qT 1))), (qO 8 (.ld (qT 7))), (qO 9 (.len (qT 8))), (qO 10 (.fld 3 (qT 1))), (qO 11 (.ld (qT 10))), (qO 12 (.fld 4 (qT 1))), (qO 13 (.ld (qT 12))), (qO 14 (.fld 5 (qT 1))), (qO 15 (.ld (qT 14))), (qO 16 (qC 91 [(qT 9), (qT 11), (qT 13), (qT 15)])), (qO 17 (.not (qT 16))), (qM 18 17), (qG 19 (.fld 1 (qT 1)) 18 false), (qG 20 (.ld (qT 19)) 18 false), (qG 21 (.len (qT 20)) 18 false), (qG 22 (.fld 0 (qT 1)) 18 false), (qG 23 (.ld (qT 22)) 18 false), (qG 24 (.len (qT 23)) 18 false), (qG 25 (.bin .neq (qT 21) (qT 24)) 18 false), (qO 26 (.pick (qT 18) (.const (.bool true)) (qT 25))), (qM 27 26), (qG 28 (.fld 2 (qT 1)) 27 false), (qG 29 (.ld (qT 28)) 27 false), (qG 30 (qC 92 [(qT 29)]) 27 false), (qG 31 (.not (qT 30)) 27 false), (qO 32 (.pick (qT 27) (.const (.bool true)) (qT 31)))]) (.cond (qT 32) (.seq (.ops [(qO 2 (.mov (.const (.bool false))))]) .ret) .skip)) (.seq (.seq (.ops [(qO 33 (.fld 0 (qT 1))), (qO 34 (.ld (qT 33))), (qO 35 (.len (qT 34))), (qO 36 (.mov (qI 0)))]) (.block 0 (.loop (.seq (.ops [(qO 37 (.bin .lss (qT 36) (qT 35)))]) (.seq (.cond (qT 37) .skip (.exit 0)) (.seq (.block 1 (.seq (.ops [(qM 38 36), (qO 39 (.idx 1 (qT 34) (qT 36))), (qO 40 (.ld (qT 39))), (qM 3 38), (qM 4 40)]) (.seq (.seq (.ops [(qO 41 (.fld 1 (qT 1))), (qO 42 (.ld (qT 41))), (qM 43 3), (qO 44 (.idx 2 (qT 42) (qT 43))), (qO 45 (.ldn 2 (qT 44))), (qM 46 4), (qO 47 (qC 93 [(qT 45), (qT 46)])), (qO 48 (.not (qT 47)))]) (.cond (qT 48) (.seq (.ops [(qO 2 (.mov (.const (.bool false))))]) .ret) .skip)) (.seq (.ops [(qM 49 4), (qO 50 (.len (qT 49))), (qO 51 (.mov (qI 0)))]) (.block 2 (.loop (.seq (.ops [(qO 52 (.bin .lss (qT 51) (qT 50)))]) (.seq (.cond (qT 52) .skip (.exit 2)) (.seq (.block 3 (.seq (.ops [(qO 53 (.idx 5 (qT 49) (qT 51))), (qO 54 (.ldn 5 (qT 53))), (qO 6 (.new [(.int .i64 0), (.int .i64 0), (.int .i64 0), (.int .i64 0), (.int .i64 0)] 111)), ⟨none, (.st 5 (qT 6) (qT 54)), none⟩]) (.seq (.ops [(qO 55 (.ldn 5 (qT 6))), (qO 56 (.fld 2 (qT 1))), (qO 57 (.ld (qT 56))), (qO 58 (.len (qT 57))), (qO 59 (qC 94 [(qT 55), (qT 58)])), (qO 60 (.not (qT 59)))]) (.cond (qT 60) (.seq (.ops [(qO 2 (.mov (.const (.bool false))))]) .ret) .skip)))) (.ops [(qO 61 (.bin .add (qT 51) (qI 1))), (qM 51 61)])))))))))) (.ops [(qO 62 (.bin .add (qT 36) (qI 1))), (qM 36 62)]))))))) (.seq (.ops [(qO 2 (.mov (.const (.bool true))))]) .ret))))⟩
theorem of35 : XF.of Try.prog Try.f35 = some ir35 := by kernel_rfl
def ir36 : XF := ⟨39, [(.tmp 4)], (.seq (.ops [(qO 2 (.box 62 (qT 0))), (qO 3 (.box 62 (qT 1))), (qO 4 (.mov (.const (.bool false))))]) (.seq (.seq (.ops [(qO 5 (.fld 0 (qT 2))), (qO 6 (.ld (qT 5))), (qO 7 (.fld 0 (qT 3))), (qO 8 (.ld (qT 7))), (qO 9 (qC 27 [(qT 6), (qT 8)])), (qO 10 (.not (qT 9)))]) (.cond (qT 10) (.seq (.ops [(qO 4 (.mov (.const (.bool false))))]) .ret) .skip)) (.seq (.seq (.ops [(qO 11 (.fld 1 (qT 2))), (qO 12 (.ld (qT 11))), (qO 13 (.fld 1 (qT 3))), (qO 14 (.ld (qT 13))), (qO 15 (qC 95 [(qT 12), (qT 14)])), (qO 16 (.not (qT 15)))]) (.cond (qT 16) (.seq (.ops [(qO 4 (.mov (.const (.bool false))))]) .ret) .skip)) (.seq (.seq (.ops [(qO 17 (.fld 2 (qT 2))), (qO 18 (.ld (qT 17))), (qO 19 (.fld 2 (qT 3))), (qO 20 (.ld (qT 19))), (qO 21 (qC 96 [(qT 18), (qT 20)])), (qO 22 (.not (qT 21)))]) (.cond (qT 22) (.seq (.ops [(qO 4 (.mov (.const (.bool false))))]) .ret) .skip)) (.seq (.seq (.ops [(qO 23 (.fld 3 (qT 2))), (qO 24 (.ld (qT 23))), (qO 25 (.fld 3 (qT 3))), (qO 26 (.ld (qT 25))), (qO 27 (.bin .neq (qT 24) (qT 26)))]) (.cond (qT 27) (.seq (.ops [(qO 4 (.mov (.const (.bool false))))]) .ret) .skip)) (.seq (.seq (.ops [(qO 28 (.fld 4 (qT 2))), (qO 29 (.ld (qT 28))), (qO 30 (.fld 4 (qT 3))), (qO 31 (.ld (qT 30))), (qO 32 (.bin .neq (qT 29) (qT 31)))]) (.cond (qT 32) (.seq (.ops [(qO 4 (.mov (.const (.bool false))))]) .ret) .skip)) (.seq (.seq (.ops [(qO 33 (.fld 5 (qT 2))), (qO 34 (.ld (qT 33))), (qO 35 (.fld 5 (qT 3))), (qO 36 (.ld (qT 35))), (qO 37 (qC 42 [(qT 34), (qT 36)])), (qO 38 (.not (qT 37)))]) (.cond (qT 38) (.seq (.ops [(qO 4 (.mov (.const (.bool false))))]) .ret) .skip)) (.seq (.ops [(qO 4 (.mov (.const (.bool true))))]) .ret))))))))⟩
theorem of36 : XF.of Try.prog Try.f36 = some ir36 := by kernel_rfl
def ir37 : XF := ⟨27, [(.tmp 4)], (.seq (.ops [(qO 4 (.mov (qI 0)))]) (.seq (.ops [(qM 6 1), (qM 7 0), (qO 8 (.len (qT 7))), (qO 9 (.bin .sub (qT 6) (qT 8))), (qM 1 9)]) (.seq (.seq (.ops [(qM 10 1), (qO 11 (.bin .lss (qT 10) (qI 0)))]) (.cond (qT 11) (.seq (.ops [(qO 4 (.mov (qI (-1))))]) .ret) .skip)) (.seq (.seq (.ops [(qO 5 (.mov (qI 0)))]) (.block 0 (.loop (.seq (.seq (.ops [(qM 12 5), (qM 13 0), (qO 14 (.len (qT 13))), (qO 15 (.bin .lss (qT 12) (qT 14)))]) (.cond (qT 15) .skip (.exit 0))) (.seq (.block 1 (.seq (.ops [(qM 18 0), (qM 19 5), (qO 20 (.idx 1 (qT 18) (qT 19))), (qO 21 (.ld (qT 20))), (qM 22 1), (qO 23 (qC 51 [(qT 21), (qT 22)])), (qM 1 23)]) (.seq (.ops [(qM 24 1), (qO 25 (.bin .lss (qT 24) (qI 0)))]) (.cond (qT 25) (.seq (.ops [(qO 4 (.mov (qI (-1))))]) .ret) .skip)))) (.ops [(qM 16 5), (qO 17 (.bin .add (qT 16) (qI 1))), (qM 5 17)])))))) (.seq (.ops [(qM 26 1), (qM 4 26)]) .ret)))))⟩
theorem of37 : XF.of Try.prog Try.f37 = some ir37 := by kernel_rfl
def ir38 : XF := ⟨37, [(.cell 4 (some 6)), (.tmp 5)], (.seq (.ops [(qO 4 (.new [(.slice none 0 0), (.slice none 0 0), (.slice none 0 0), (.int .i64 0), (.int .i64 0), (.slice none 0 0)] 62)), (qO 5 (.mov (.const (.bool false))))]) (.seq (.seq (.ops [(qM 8 0), (qO 9 (qC 97 [(qT 8)])), (qO 10 (.not (qT 9)))]) (.cond (qT 10) (.seq (.ops [(qO 11 (.agg [(.slice none 0 0), (.slice none 0 0), (.slice none 0 0), (.int .i64 0), (.int .i64 0), (.slice none 0 0)] [])), ⟨none, (.st 6 (qT 4) (qT 11)), none⟩, (qO 5 (.mov (.const (.bool false))))]) .ret) .skip)) (.seq (.ops [(qM 12 1), (qO 13 (qC 98 [(qT 12)])), (qO 14 (.lit [] 125 0 [])), (qM 15 0), (qO 16 (qC 99 [(qT 15)])), (qO 17 (.lit [] 3 0 [])), (qO 18 (.agg [(.slice none 0 0), (.slice none 0 0), (.slice none 0 0), (.int .i64 0), (.int .i64 0), (.slice none 0 0)] [(0, (1, (qT 13))), (1, (1, (qT 14))), (2, (1, (qT 16))), (5, (1, (qT 17)))])), (qO 6 (.new [(.slice none 0 0), (.slice none 0 0), (.slice none 0 0), (.int .i64 0), (.int .i64 0), (.slice none 0 0)] 62)), ⟨none, (.st 6 (qT 6) (qT 18)), none⟩]) (.seq (.seq (.ops [(qO 7 (.mov (qI 0)))]) (.block 0 (.loop (.seq (.seq (.ops [(qM 19 7), (qM 20 1), (qO 21 (.len (qT 20))), (qO 22 (.bin .lss (qT 19) (qT 21)))]) (.cond (qT 22) .skip (.exit 0))) (.seq (.block 1 (.draw (.take (qO 25 (.fld 1 (qT 6))) (.take (qO 26 (.ld (qT 25))) (.alt (qO 27 (.mks [(.int .i64 0)] 3 8 (qI 12) (qI 12))) (.take (qO 28 (.agg [(.slice none 0 0), (.int .i64 0)] [(0, (1, (qT 27)))])) (.alt (qO 29 (.lit [(.slice none 0 0), (.int .i64 0)] 125 1 [(0, (2, (qT 28)))])) (.free (qO 30 (.app [(.slice none 0 0), (.int .i64 0)] 125 32 (qT 26) (qT 29))) (.take (qO 31 (.fld 1 (qT 6))) (.last ⟨none, (.st 1 (qT 31) (qT 30)), none⟩ .none_)) .none_) .none_)) .none_))))) (.ops [(qM 23 7), (qO 24 (.bin .add (qT 23) (qI 1))), (qM 7 24)])))))) (.seq (.seq (.ops [(qO 32 (.ldn 6 (qT 6))), (qO 33 (qC 33 [(qT 32)])), (qO 34 (.not (qT 33)))]) (.cond (qT 34) (.seq (.ops [(qO 35 (.agg [(.slice none 0 0), (.slice none 0 0), (.slice none 0 0), (.int .i64 0), (.int .i64 0), (.slice none 0 0)] [])), ⟨none, (.st 6 (qT 4) (qT 35)), none⟩, (qO 5 (.mov (.const (.bool false))))]) .ret) .skip)) (.seq (.ops [(qO 36 (.ldn 6 (qT 6))), ⟨none, (.st 6 (qT 4) (qT 36)), none⟩, (qO 5 (.mov (.const (.bool true))))]) .ret))))))⟩
theorem of38 : XF.of Try.prog Try.f38 = some ir38 := by kernel_rfl
def ir39 : XF := ⟨22, [(.tmp 2)], (.seq (.ops [(qO 2 (.mov (.const (.slice none 0 0))))]) (.seq (.ops [(qM 5 0), (qO 6 (.len (qT 5))), (qO 7 (.mks [(.int .i64 0)] 3 8 (qT 6) (qT 6))), (qM 3 7)]) (.seq (.seq (.ops [(qO 4 (.mov (qI 0)))]) (.block 0 (.loop (.seq (.seq (.ops [(qM 8 4), (qM 9 0), (qO 10 (.len (qT 9))), (qO 11 (.bin .lss (qT 8) (qT 10)))]) (.cond (qT 11) .skip (.exit 0))) (.seq (.block 1 (.ops [(qM 14 3), (qM 15 4), (qM 16 0), (qM 17 4), (qO 18 (.idx 1 (qT 16) (qT 17))), (qO 19 (.ld (qT 18))), (qO 20 (.idx 1 (qT 14) (qT 15))), ⟨none, (.st 1 (qT 20) (qT 19)), none⟩])) (.ops [(qM 12 4), (qO 13 (.bin .add (qT 12) (qI 1))), (qM 4 13)])))))) (.seq (.ops [(qM 21 3), (qM 2 21)]) .ret))))⟩
theorem of39 : XF.of Try.prog Try.f39 = some ir39 := by kernel_rfl
def ir40 : XF := ⟨23, [(.tmp 2)], (.seq (.ops [(qO 2 (.mov (.const (.slice none 0 0))))]) (.seq (.ops [(qM 5 0), (qO 6 (.len (qT 5))), (qO 7 (.mks [(.slice none 0 0)] 29 24 (qT 6) (qT 6))), (qM 3 7)]) (.seq (.seq (.ops [(qO 4 (.mov (qI 0)))]) (.block 0 (.loop (.seq (.seq (.ops [(qM 8 4), (qM 9 0), (qO 10 (.len (qT 9))), (qO 11 (.bin .lss (qT 8) (qT 10)))]) (.cond (qT 11) .skip (.exit 0))) (.seq (.block 1 (.ops [(qM 14 3), (qM 15 4), (qM 16 0), (qM 17 4), (qO 18 (.idx 1 (qT 16) (qT 17))), (qO 19 (.ld (qT 18))), (qO 20 (qC 53 [(qT 19)])), (qO 21 (.idx 1 (qT 14) (qT 15))), ⟨none, (.st 1 (qT 21) (qT 20)), none⟩])) (.ops [(qM 12 4), (qO 13 (.bin .add (qT 12) (qI 1))), (qM 4 13)])))))) (.seq (.ops [(qM 22 3), (qM 2 22)]) .ret))))⟩
theorem of40 : XF.of Try.prog Try.f40 = some ir40 := by kernel_rfl
def ir41 : XF := ⟨34, [(.cell 4 (some 6)), (.tmp 5)], (.seq (.ops [(qO 4 (.new [(.slice none 0 0), (.slice none 0 0), (.slice none 0 0), (.int .i64 0), (.int .i64 0), (.slice none 0 0)] 62)), (qO 5 (.mov (.const (.bool false))))]) (.seq (.ops [(qM 7 1), (qO 8 (qC 100 [(qT 7)])), (qM 9 0), (qO 10 (qC 101 [(qT 9)])), (qO 11 (.agg [(.slice none 0 0), (.slice none 0 0), (.slice none 0 0), (.int .i64 0), (.int .i64 0), (.slice none 0 0)] [(0, (1, (qT 8))), (2, (1, (qT 10)))])), (qO 6 (.new [(.slice none 0 0), (.slice none 0 0), (.slice none 0 0), (.int .i64 0), (.int .i64 0), (.slice none 0 0)] 62)), ⟨none, (.st 6 (qT 6) (qT 11)), none⟩]) (.seq (.seq (.ops [(qM 12 1), (qO 13 (.len (qT 12))), (qO 14 (.mov (qI 0)))]) (.block 0 (.loop (.seq (.ops [(qO 15 (.bin .lss (qT 14) (qT 13)))]) (.seq (.cond (qT 15) .skip (.exit 0)) (.seq (.block 1 (.draw (.take (qO 16 (.fld 1 (qT 6))) (.take (qO 17 (.ld (qT 16))) (.alt (qO 18 (.mks [(.int .i64 0)] 3 8 (qI 12) (qI 12))) (.take (qO 19 (.agg [(.slice none 0 0), (.int .i64 0)] [(0, (1, (qT 18)))])) (.alt (qO 20 (.lit [(.slice none 0 0), (.int .i64 0)] 125 1 [(0, (2, (qT 19)))])) (.free (qO 21 (.app [(.slice none 0 0), (.int .i64 0)] 125 32 (qT 17) (qT 20))) (.take (qO 22 (.fld 1 (qT 6))) (.last ⟨none, (.st 1 (qT 22) (qT 21)), none⟩ .none_)) .none_) .none_)) .none_))))) (.ops [(qO 23 (.bin .add (qT 14) (qI 1))), (qM 14 23)]))))))) (.seq (.seq (.ops [(qM 24 0), (qO 25 (qC 102 [(qT 24)])), (qO 26 (.not (qT 25))), (qM 27 26), (qG 28 (.ldn 6 (qT 6)) 27 false), (qG 29 (qC 35 [(qT 28)]) 27 false), (qG 30 (.not (qT 29)) 27 false), (qO 31 (.pick (qT 27) (.const (.bool true)) (qT 30)))]) (.cond (qT 31) (.seq (.ops [(qO 32 (.agg [(.slice none 0 0), (.slice none 0 0), (.slice none 0 0), (.int .i64 0), (.int .i64 0), (.slice none 0 0)] [])), ⟨none, (.st 6 (qT 4) (qT 32)), none⟩, (qO 5 (.mov (.const (.bool false))))]) .ret) .skip)) (.seq (.ops [(qO 33 (.ldn 6 (qT 6))), ⟨none, (.st 6 (qT 4) (qT 33)), none⟩, (qO 5 (.mov (.const (.bool true))))]) .ret)))))⟩
theorem of41 : XF.of Try.prog Try.f41 = some ir41 := by kernel_rfl
def ir42 : XF := ⟨26, [(.tmp 4)], (.seq (.ops [(qO 4 (.mov (.const (.bool false))))]) (.seq (.seq (.ops [(qM 6 0), (qO 7 (.len (qT 6))), (qM 8 1), (qO 9 (.len (qT 8))), (qO 10 (.bin .neq (qT 7) (qT 9)))]) (.cond (qT 10) (.seq (.ops [(qO 4 (.mov (.const (.bool false))))]) .ret) .skip)) (.seq (.seq (.ops [(qO 5 (.mov (qI 0)))]) (.block 0 (.loop (.seq (.seq (.ops [(qM 11 5), (qM 12 0), (qO 13 (.len (qT 12))), (qO 14 (.bin .lss (qT 11) (qT 13)))]) (.cond (qT 14) .skip (.exit 0))) (.seq (.block 1 (.seq (.ops [(qM 17 0), (qM 18 5), (qO 19 (.idx 1 (qT 17) (qT 18))), (qO 20 (.ld (qT 19))), (qM 21 1), (qM 22 5), (qO 23 (.idx 1 (qT 21) (qT 22))), (qO 24 (.ld (qT 23))), (qO 25 (.bin .neq (qT 20) (qT 24)))]) (.cond (qT 25) (.seq (.ops [(qO 4 (.mov (.const (.bool false))))]) .ret) .skip))) (.ops [(qM 15 5), (qO 16 (.bin .add (qT 15) (qI 1))), (qM 5 16)])))))) (.seq (.ops [(qO 4 (.mov (.const (.bool true))))]) .ret))))⟩
theorem of42 : XF.of Try.prog Try.f42 = some ir42 := by kernel_rfl
def ir43 : XF := ⟨19, [(.tmp 4)], (.seq (.ops [(qO 4 (.mov (qI 0)))]) (.seq (.seq (.ops [(qO 5 (.mov (qI 0)))]) (.block 0 (.loop (.seq (.seq (.ops [(qM 6 5), (qM 7 0), (qO 8 (.len (qT 7))), (qO 9 (.bin .lss (qT 6) (qT 8)))]) (.cond (qT 9) .skip (.exit 0))) (.seq (.block 1 (.seq (.ops [(qM 12 0), (qM 13 5), (qM 14 1), (qO 15 (.idx 1 (qT 12) (qT 13))), ⟨none, (.st 1 (qT 15) (qT 14)), none⟩]) (.ops [(qM 16 1), (qO 17 (.bin .add (qT 16) (qI 1))), (qM 1 17)]))) (.ops [(qM 10 5), (qO 11 (.bin .add (qT 10) (qI 1))), (qM 5 11)])))))) (.seq (.ops [(qM 18 1), (qM 4 18)]) .ret)))⟩
theorem of43 : XF.of Try.prog Try.f43 = some ir43 := by kernel_rfl
def ir44 : XF := ⟨22, [(.tmp 4)], (.seq (.ops [(qO 2 (.box 62 (qT 0))), (qO 4 (.mov (qI 0)))]) (.seq (.ops [(qO 5 (.fld 0 (qT 2))), (qO 6 (.ld (qT 5))), (qM 7 1), (qO 8 (qC 30 [(qT 6), (qT 7)])), (qM 1 8)]) (.seq (.ops [(qO 9 (.fld 1 (qT 2))), (qO 10 (.ld (qT 9))), (qM 11 1), (qO 12 (qC 103 [(qT 10), (qT 11)])), (qM 1 12)]) (.seq (.ops [(qO 13 (.fld 2 (qT 2))), (qO 14 (.ld (qT 13))), (qM 15 1), (qO 16 (qC 104 [(qT 14), (qT 15)])), (qM 1 16)]) (.seq (.ops [(qO 17 (.fld 5 (qT 2))), (qO 18 (.ld (qT 17))), (qM 19 1), (qO 20 (qC 43 [(qT 18), (qT 19)])), (qM 1 20)]) (.seq (.ops [(qM 21 1), (qM 4 21)]) .ret))))))⟩
theorem of44 : XF.of Try.prog Try.f44 = some ir44 := by kernel_rfl
def ir45 : XF := ⟨30, [(.tmp 4)], (.seq (.ops [(qO 2 (.box 62 (qT 0))), (qO 4 (.mov (qI 0)))]) (.seq (.ops [(qO 5 (.fld 0 (qT 2))), (qO 6 (.ld (qT 5))), (qM 7 1), (qO 8 (qC 31 [(qT 6), (qT 7)])), (qM 1 8)]) (.seq (.seq (.ops [(qM 9 1), (qO 10 (.bin .lss (qT 9) (qI 0)))]) (.cond (qT 10) (.seq (.ops [(qO 4 (.mov (qI (-1))))]) .ret) .skip)) (.seq (.ops [(qO 11 (.fld 1 (qT 2))), (qO 12 (.ld (qT 11))), (qM 13 1), (qO 14 (qC 105 [(qT 12), (qT 13)])), (qM 1 14)]) (.seq (.seq (.ops [(qM 15 1), (qO 16 (.bin .lss (qT 15) (qI 0)))]) (.cond (qT 16) (.seq (.ops [(qO 4 (.mov (qI (-1))))]) .ret) .skip)) (.seq (.ops [(qO 17 (.fld 2 (qT 2))), (qO 18 (.ld (qT 17))), (qM 19 1), (qO 20 (qC 106 [(qT 18), (qT 19)])), (qM 1 20)]) (.seq (.seq (.ops [(qM 21 1), (qO 22 (.bin .lss (qT 21) (qI 0)))]) (.cond (qT 22) (.seq (.ops [(qO 4 (.mov (qI (-1))))]) .ret) .skip)) (.seq (.ops [(qO 23 (.fld 5 (qT 2))), (qO 24 (.ld (qT 23))), (qM 25 1), (qO 26 (qC 107 [(qT 24), (qT 25)])), (qM 1 26)]) (.seq (.seq (.ops [(qM 27 1), (qO 28 (.bin .lss (qT 27) (qI 0)))]) (.cond (qT 28) (.seq (.ops [(qO 4 (.mov (qI (-1))))]) .ret) .skip)) (.seq (.ops [(qM 29 1), (qM 4 29)]) .ret))))))))))⟩
theorem of45 : XF.of Try.prog Try.f45 = some ir45 := by kernel_rfl
def ir51 : XF := ⟨12, [(.tmp 4)], (.seq (.ops [(qO 4 (.mov (qI 0)))]) (.seq (.ops [(qM 5 1), (qM 6 0), (qO 7 (.len (qT 6))), (qO 8 (.bin .sub (qT 5) (qT 7))), (qM 1 8)]) (.seq (.seq (.ops [(qM 9 1), (qO 10 (.bin .lss (qT 9) (qI 0)))]) (.cond (qT 10) (.seq (.ops [(qO 4 (.mov (qI (-1))))]) .ret) .skip)) (.seq (.ops [(qM 11 1), (qM 4 11)]) .ret))))⟩
theorem of51 : XF.of Try.prog Try.f51 = some ir51 := by kernel_rfl
def ir53 : XF := ⟨23, [(.tmp 2)], (.seq (.ops [(qO 2 (.mov (.const (.slice none 0 0))))]) (.seq (.ops [(qM 5 0), (qO 6 (.len (qT 5))), (qO 7 (.mks [(.int .i64 0), (.int .i64 0), (.int .i64 0), (.int .i64 0), (.int .i64 0)] 111 40 (qT 6) (qT 6))), (qM 3 7)]) (.seq (.seq (.ops [(qO 4 (.mov (qI 0)))]) (.block 0 (.loop (.seq (.seq (.ops [(qM 8 4), (qM 9 0), (qO 10 (.len (qT 9))), (qO 11 (.bin .lss (qT 8) (qT 10)))]) (.cond (qT 11) .skip (.exit 0))) (.seq (.block 1 (.ops [(qM 14 3), (qM 15 4), (qM 16 0), (qM 17 4), (qO 18 (.idx 5 (qT 16) (qT 17))), (qO 19 (.ldn 5 (qT 18))), (qO 20 (qC 115 [(qT 19)])), (qO 21 (.idx 5 (qT 14) (qT 15))), ⟨none, (.st 5 (qT 21) (qT 20)), none⟩])) (.ops [(qM 12 4), (qO 13 (.bin .add (qT 12) (qI 1))), (qM 4 13)])))))) (.seq (.ops [(qM 22 3), (qM 2 22)]) .ret))))⟩
theorem of53 : XF.of Try.prog Try.f53 = some ir53 := by kernel_rfl
def ir73 : XF := ⟨30, [(.tmp 4)], (.seq (.ops [(qO 2 (.box 111 (qT 0))), (qO 3 (.box 111 (qT 1))), (qO 4 (.mov (.const (.bool false))))]) (.seq (.seq (.ops [(qO 5 (.fld 0 (qT 2))), (qO 6 (.ld (qT 5))), (qO 7 (.fld 0 (qT 3))), (qO 8 (.ld (qT 7))), (qO 9 (.bin .neq (qT 6) (qT 8)))]) (.cond (qT 9) (.seq (.ops [(qO 4 (.mov (.const (.bool false))))]) .ret) .skip)) (.seq (.seq (.ops [(qO 10 (.fld 1 (qT 2))), (qO 11 (.ld (qT 10))), (qO 12 (.fld 1 (qT 3))), (qO 13 (.ld (qT 12))), (qO 14 (.bin .neq (qT 11) (qT 13)))]) (.cond (qT 14) (.seq (.ops [(qO 4 (.mov (.const (.bool false))))]) .ret) .skip)) (.seq (.seq (.ops [(qO 15 (.fld 2 (qT 2))), (qO 16 (.ld (qT 15))), (qO 17 (.fld 2 (qT 3))), (qO 18 (.ld (qT 17))), (qO 19 (.bin .neq (qT 16) (qT 18)))]) (.cond (qT 19) (.seq (.ops [(qO 4 (.mov (.const (.bool false))))]) .ret) .skip)) (.seq (.seq (.ops [(qO 20 (.fld 3 (qT 2))), (qO 21 (.ld (qT 20))), (qO 22 (.fld 3 (qT 3))), (qO 23 (.ld (qT 22))), (qO 24 (.bin .neq (qT 21) (qT 23)))]) (.cond (qT 24) (.seq (.ops [(qO 4 (.mov (.const (.bool false))))]) .ret) .skip)) (.seq (.seq (.ops [(qO 25 (.fld 4 (qT 2))), (qO 26 (.ld (qT 25))), (qO 27 (.fld 4 (qT 3))), (qO 28 (.ld (qT 27))), (qO 29 (.bin .neq (qT 26) (qT 28)))]) (.cond (qT 29) (.seq (.ops [(qO 4 (.mov (.const (.bool false))))]) .ret) .skip)) (.seq (.ops [(qO 4 (.mov (.const (.bool true))))]) .ret)))))))⟩
theorem of73 : XF.of Try.prog Try.f73 = some ir73 := by kernel_rfl
def ir84 : XF := ⟨15, [(.tmp 6)], (.seq (.ops [(qO 6 (.mov (.const (.bool false))))]) (.seq (.ops [(qM 7 0), (qM 8 1), (qO 9 (.bin .geq (qT 7) (qT 8))), (qM 10 9), (qG 11 (.mov (qT 0)) 10 true), (qG 12 (.mov (qT 2)) 10 true), (qG 13 (.bin .leq (qT 11) (qT 12)) 10 true), (qO 14 (.pick (qT 10) (qT 13) (.const (.bool false)))), (qM 6 14)]) .ret))⟩
theorem of84 : XF.of Try.prog Try.f84 = some ir84 := by kernel_rfl
def ir85 : XF := ⟨19, [(.tmp 2)], (.seq (.ops [(qO 2 (.mov (.const (.bool false))))]) (.seq (.seq (.ops [(qO 3 (.mov (qI 0)))]) (.block 0 (.loop (.seq (.seq (.ops [(qM 4 3), (qM 5 0), (qO 6 (.len (qT 5))), (qO 7 (.bin .lss (qT 4) (qT 6)))]) (.cond (qT 7) .skip (.exit 0))) (.seq (.block 1 (.seq (.ops [(qM 10 0), (qM 11 3), (qO 12 (.idx 2 (qT 10) (qT 11))), (qO 13 (.ldn 2 (qT 12))), (qO 14 (qC 141 [(qT 13)])), (qO 15 (.not (qT 14)))]) (.cond (qT 15) (.seq (.ops [(qO 2 (.mov (.const (.bool false))))]) .ret) .skip))) (.ops [(qM 8 3), (qO 9 (.bin .add (qT 8) (qI 1))), (qM 3 9)])))))) (.seq (.ops [(qM 16 0), (qO 17 (.len (qT 16))), (qO 18 (.bin .leq (qT 17) (qI 3))), (qM 2 18)]) .ret)))⟩
theorem of85 : XF.of Try.prog Try.f85 = some ir85 := by kernel_rfl
def ir86 : XF := ⟨13, [(.tmp 4)], (.seq (.ops [(qO 2 (.box 125 (qT 0))), (qO 4 (.mov (.const (.bool false))))]) (.seq (.ops [(qM 5 1), (qO 6 (qC 113 [(qT 5)])), (qM 7 6), (qG 8 (.ldn 2 (qT 2)) 7 true), (qG 9 (.mov (qT 1)) 7 true), (qG 10 (.len (qT 9)) 7 true), (qG 11 (qC 142 [(qT 8), (qT 10)]) 7 true), (qO 12 (.pick (qT 7) (qT 11) (.const (.bool false)))), (qM 4 12)]) .ret))⟩
theorem of86 : XF.of Try.prog Try.f86 = some ir86 := by kernel_rfl
def ir87 : XF := ⟨19, [(.tmp 4)], (.seq (.ops [(qO 4 (.mov (.const (.bool false))))]) (.seq (.seq (.ops [(qO 5 (.mov (qI 0)))]) (.block 0 (.loop (.seq (.seq (.ops [(qM 6 5), (qM 7 0), (qO 8 (.len (qT 7))), (qO 9 (.bin .lss (qT 6) (qT 8)))]) (.cond (qT 9) .skip (.exit 0))) (.seq (.block 1 (.seq (.ops [(qM 12 0), (qM 13 5), (qO 14 (.idx 5 (qT 12) (qT 13))), (qO 15 (.ldn 5 (qT 14))), (qM 16 1), (qO 17 (qC 143 [(qT 15), (qT 16)])), (qO 18 (.not (qT 17)))]) (.cond (qT 18) (.seq (.ops [(qO 4 (.mov (.const (.bool false))))]) .ret) .skip))) (.ops [(qM 10 5), (qO 11 (.bin .add (qT 10) (qI 1))), (qM 5 11)])))))) (.seq (.ops [(qO 4 (.mov (.const (.bool true))))]) .ret)))⟩
theorem of87 : XF.of Try.prog Try.f87 = some ir87 := by kernel_rfl
end Go.Proofs.Ytfjhjfddgdokgaa
