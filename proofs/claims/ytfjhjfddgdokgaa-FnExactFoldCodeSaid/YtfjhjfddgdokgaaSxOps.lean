/- The small instructions: how an operation of the model is read as one, what it yields, and that the model yields the same. -/
import Derived.Test.YtfjhjfddgdokgaaSxCore
namespace Go.Proofs.Ytfjhjfddgdokgaa
set_option linter.all false
open Go Go.RowKit

inductive X where
  | mov (x : Operand)
  | pick (c a b : Operand)
  | new (z : List Value) (t : TypeId)
  | box (t : TypeId) (x : Operand)
  | agg (z : List Value) (ps : List (Nat × Nat × Operand))
  | lit (z : List Value) (t : TypeId) (len : Nat) (ps : List (Nat × Nat × Operand))
  | ld (x : Operand)
  | ldn (n : Nat) (x : Operand)
  | st (n : Nat) (a x : Operand)
  | fld (off : Nat) (x : Operand)
  | idx (size : Nat) (x i : Operand)
  | ida (len size : Nat) (x i : Operand)
  | bin (op : BinOp) (x y : Operand)
  | eqb (neg : Bool) (x y : Operand)
  | eqs (neg : Bool) (t : TypeId) (x y : Operand)
  | nils (neg : Bool) (x y : Operand)
  | not (x : Operand)
  | neg (x : Operand)
  | cnv (k : IntKind) (x : Operand)
  | mks (z : List Value) (t : TypeId) (bytes : Nat) (l c : Operand)
  | slc (size : Nat) (x : Operand) (lo hi mx : Option Operand)
  | sla (len size : Nat) (x : Operand) (lo hi mx : Option Operand)
  | prt (off : Nat) (n : Option Nat) (x : Operand)
  | ixv (len size : Nat) (n : Option Nat) (x i : Operand)
  | ext (i : Nat) (x : Operand)
  | call (f : Operand) (args : List Operand)
  | len (x : Operand)
  | lena (n : Nat)
  | app (z : List Value) (t : TypeId) (bytes : Nat) (s x : Operand)
  | max (x y : Operand)
  | min (x y : Operand)
  | mkf (fn : Fn) (first captured : List Operand)
  | nilc (x : Operand)

def aggB (P : Program) (t : TypeId) : Option Bool := (P.underlying t).map fun | .struct _ => true | .array _ _ => true | _ => false
def sizeB (P : Program) (t : TypeId) : Option Nat := (P.info? t).map (·.size)
/-- One cell, or a row of cells: how many. -/
def partB (P : Program) (t : TypeId) : Option (Option Nat) := match aggB P t, sizeB P t with
  | some true, some n => some (some n)
  | some false, some _ => some none
  | _, _ => none
def zeroB (P : Program) (t : TypeId) : Option (List Value) := match P.info? t with
  | some i => i.zero.map (·.cells.toList)
  | none => none

def X.of (P : Program) : Op → Option X
  | .move x => some (.mov x)
  | .assign x => some (.mov x)
  | .pick c a b => some (.pick c a b)
  | .alloc t => (zeroB P t).map fun z => .new z t
  | .box t x => some (.box t x)
  | .build t parts => match P.underlying t, zeroB P t with
    | some (.struct fs), some z => if fs.all (fun f => (sizeB P f.type).isSome) then
        (parts.toList.mapM fun (p : Nat × Operand) => match fs[p.1]? with
          | some f => (sizeB P f.type).map fun n => (f.offset, n, p.2)
          | none => none).map fun ps => .agg z ps
      else none
    | some (.array _ e), some z => (sizeB P e).map fun n => .agg z (parts.toList.map fun p => (p.1 * n, n, p.2))
    | _, _ => none
  | .buildSlice t ln parts => match P.underlying t with
    | some (.slice e) => match sizeB P e, zeroB P e with
      | some n, some z => if ln * n ≤ 16777216 then some (.lit (madeCells z.toArray (ln * n)).toList e ln (parts.toList.map fun p => (p.1 * n, n, p.2))) else none
      | _, _ => none
    | _ => none
  | .load t a => (partB P t).map fun | some n => .ldn n a | none => .ld a
  | .store t a x => (sizeB P t).map fun n => .st n a x
  | .fieldAddr t x f => match P.underlying t with
    | some (.struct fs) => match fs[f]? with
      | some fd => match sizeB P fd.type with
        | some (_ + 1) => some (.fld fd.offset x)
        | _ => none
      | none => none
    | _ => none
  | .indexAddr t x i => match P.underlying t with
    | some (.slice e) => (sizeB P e).map fun n => .idx n x i
    | some (.array l e) => (sizeB P e).map fun n => .ida l n x i
    | _ => none
  | .binOp op t x y _ => match P.underlying t with
    | some (.int _) => some (.bin op x y)
    | some .bool => match op with
      | .eql => some (.eqb false x y)
      | .neq => some (.eqb true x y)
      | _ => none
    | some (.slice _) => match op with
      | .eql => some (.nils false x y)
      | .neq => some (.nils true x y)
      | _ => none
    | some (.struct _) => match op with
      | .eql => some (.eqs false t x y)
      | .neq => some (.eqs true t x y)
      | _ => none
    | some (.array _ _) => match op with
      | .eql => some (.eqs false t x y)
      | .neq => some (.eqs true t x y)
      | _ => none
    | _ => none
  | .unOp .not _ x => some (.not x)
  | .unOp .neg _ x => some (.neg x)
  | .convert src dst x => match P.underlying src, P.underlying dst with
    | some (.int _), some (.int k) => some (.cnv k x)
    | _, _ => none
  | .makeSlice t l c => match P.underlying t with
    | some (.slice e) => match P.info? e, zeroB P e with
      | some i, some z => if i.size = z.length then some (.mks z e i.bytes l c) else none
      | _, _ => none
    | _ => none
  | .slice t x lo hi mx => match P.underlying t with
    | some (.slice e) => (sizeB P e).map fun n => .slc n x lo hi mx
    | some (.array l e) => (sizeB P e).map fun n => .sla l n x lo hi mx
    | _ => none
  | .field t x f => match P.underlying t with
    | some (.struct fs) => match fs[f]? with
      | some fd => (partB P fd.type).map fun n => .prt fd.offset n x
      | none => none
    | _ => none
  | .index t x i => match P.underlying t with
    | some (.array l e) => match sizeB P e, partB P e with
      | some n, some p => some (.ixv l n p x i)
      | _, _ => none
    | _ => none
  | .extract x i => some (.ext i x)
  | .makeFunc fn a b => some (.mkf fn a.toList b.toList)
  | .nilCheck x => some (.nilc x)
  | .call c => match c.callee with
    | .value f => some (.call f c.args.toList)
    | .builtin .len => match c.argTypes.toList, c.args.toList with
      | [t], [x] => match P.underlying t with
        | some (.slice _) => some (.len x)
        | some (.array n _) => some (.lena n)
        | _ => none
      | _, _ => none
    | .builtin .append => match c.argTypes.toList, c.args.toList with
      | [t, u], [s, x] => if t = u then match P.underlying t with
          | some (.slice e) => match P.info? e, zeroB P e with
            | some i, some z => if i.size = z.length ∧ 0 < i.size then some (.app z e i.bytes s x) else none
            | _, _ => none
          | _ => none
        else none
      | _, _ => none
    | .builtin .max => match c.args.toList with
      | [x, y] => some (.max x y)
      | _ => none
    | .builtin .min => match c.args.toList with
      | [x, y] => some (.min x y)
      | _ => none
    | _ => none
  | _ => none

def adr (a : Option Addr) (n : Nat) : Option Addr := a.map (·.add n)
theorem Addr.add_add (a : Addr) (m n : Nat) : (a.add m).add n = a.add (m + n) := by
  unfold Addr.add
  by_cases hm : m = 0 <;> by_cases hn : n = 0 <;> simp [hm, hn, Nat.add_assoc]
theorem adr_adr (a : Option Addr) (m n : Nat) : adr (adr a m) n = adr a (m + n) := by
  cases a <;> simp [adr, Addr.add_add]
theorem adr_zero (a : Option Addr) : adr a 0 = a := by cases a <;> simp [adr, Addr.add]
theorem adr_lit (b o n : Nat) : adr (some ⟨b, o, none⟩) n = some ⟨b, o + n, none⟩ := by simp [adr, Addr.add_lit]
theorem adr_some (a : Option Addr) (n : Nat) : (adr a n).isSome = a.isSome := by cases a <;> rfl

def AHeap.rdn (H : AHeap) (a : Option Addr) : Nat → Option (List Value)
  | 0 => some []
  | n + 1 => match H.cell a with
    | some v => (AHeap.rdn H (adr a 1) n).map (v :: ·)
    | none => none
theorem rdn_length {H : AHeap} : ∀ {n : Nat} {a : Option Addr} {l : List Value}, H.rdn a n = some l → l.length = n
  | 0, _, l, h => by obtain rfl := Option.some.inj h; rfl
  | n + 1, a, l, h => by
    simp only [AHeap.rdn] at h
    split at h
    · obtain ⟨l', hl, rfl⟩ := Option.map_eq_some_iff.1 h
      simp [rdn_length hl]
    · cases h
theorem rdn_cell {H : AHeap} : ∀ {n : Nat} {a : Option Addr} {l : List Value}, H.rdn a n = some l → ∀ (j : Nat) (v : Value), l[j]? = some v → H.cell (adr a j) = some v
  | 0, _, l, h => by obtain rfl := Option.some.inj h; intro j v hv; simp at hv
  | n + 1, a, l, h => by
    simp only [AHeap.rdn] at h
    split at h
    · rename_i u hu
      obtain ⟨l', hl, rfl⟩ := Option.map_eq_some_iff.1 h
      intro j v hv
      cases j with
      | zero => rw [adr_zero]; simp at hv; rw [← hv]; exact hu
      | succ j => have := rdn_cell hl j v (by simpa using hv); rw [adr_adr, Nat.add_comm] at this; exact this
    · cases h
theorem rdn_of {H : AHeap} : ∀ {n : Nat} {a : Option Addr} {l : List Value}, l.length = n → (∀ (j : Nat) (v : Value), l[j]? = some v → H.cell (adr a j) = some v) → H.rdn a n = some l
  | 0, _, l, h, _ => by obtain rfl := List.eq_nil_of_length_eq_zero h; rfl
  | n + 1, a, [], h, _ => by simp at h
  | n + 1, a, v :: l, h, hc => by
    have h0 := hc 0 v rfl
    rw [adr_zero] at h0
    simp only [AHeap.rdn, h0]
    rw [rdn_of (l := l) (by simpa using h) (fun j u hu => by rw [adr_adr, Nat.add_comm]; exact hc (j + 1) u (by simpa using hu))]
    rfl
theorem AHeap.le.rdn {A B : AHeap} (h : AHeap.le A B) {a : Option Addr} {n : Nat} {l : List Value} (hl : A.rdn a n = some l) : B.rdn a n = some l :=
  rdn_of (rdn_length hl) fun j v hv => h.cell (rdn_cell hl j v hv)

def setR (cells : List Value) (off : Nat) : List Value → List Value
  | [] => cells
  | v :: r => setR (cells.set off v) (off + 1) r
def fillL (cells : List Value) : List (Nat × Nat × Value) → Option (List Value)
  | [] => some cells
  | (off, size, v) :: r => if v.cells.size = size ∧ off + size ≤ cells.length then fillL (setR cells off v.cells.toList) r else none
theorem length_setR : ∀ (vs cells : List Value) (off : Nat), (setR cells off vs).length = cells.length
  | [], _, _ => rfl
  | v :: r, cells, off => by simp [setR, length_setR r]

def binv (op : BinOp) (k : IntKind) (a b : Int) : Option Value := match op with
  | .add => some (.int k (k.wrap (a + b)))
  | .sub => some (.int k (k.wrap (a - b)))
  | .mul => some (.int k (k.wrap (a * b)))
  | .quo => if b = 0 then none else some (.int k (k.wrap (a.tdiv b)))
  | .rem => if b = 0 then none else some (.int k (a.tmod b))
  | .and => some (.int k (bits .and k a b))
  | .or => some (.int k (bits .or k a b))
  | .xor => some (.int k (bits .xor k a b))
  | .andNot => some (.int k (bits .andNot k a b))
  | .eql => some (.bool (a == b))
  | .neq => some (.bool (a != b))
  | .lss => some (.bool (decide (a < b)))
  | .leq => some (.bool (decide (a ≤ b)))
  | .gtr => some (.bool (decide (a > b)))
  | .geq => some (.bool (decide (a ≥ b)))
  | .shl => if b < 0 then none else some (.int k (k.wrap (a * 2 ^ (Nat.min b.toNat k.bits))))
  | .shr => if b < 0 then none else some (.int k (a.fdiv (2 ^ (Nat.min b.toNat k.bits))))

def bndv (y : Nat) : Option Value → (dflt : Nat) → Option Nat
  | some (.int _ i), _ => if 0 ≤ i ∧ i ≤ y then some i.toNat else none
  | some _, _ => none
  | none, d => some d
/-- The bounds of a slice expression: low, high, max. -/
def bnds (len cap : Nat) (lo hi mx : Option Value) : Option (Nat × Nat × Nat) :=
  match bndv cap mx cap with
  | none => none
  | some m => match hi, mx with
    | none, some _ => none
    | _, _ => match bndv m hi len with
      | none => none
      | some h => match bndv h lo 0 with
        | none => none
        | some l => some (l, h, m)

def prtv (off : Nat) (n : Option Nat) (cs : List Value) : Option Value := match n with
  | none => cs[off]?
  | some n => some (.agg ((cs.drop off).take n).toArray)

/-- What an instruction yields that writes nothing and calls nothing. -/
def X.val (ρ : Operand → Value) (H : AHeap) : X → Option Value
  | .mov x => some (ρ x)
  | .pick c a b => match ρ c with
    | .bool t => some (if t then ρ a else ρ b)
    | _ => none
  | .agg z ps => (fillL z (ps.map fun p => (p.1, p.2.1, ρ p.2.2))).map fun cs => .agg cs.toArray
  | .ld x => match ρ x with
    | .pointer a => H.cell a
    | _ => none
  | .ldn n x => match ρ x with
    | .pointer (some a) => (H.rdn (some a) n).map fun cs => .agg cs.toArray
    | .pointer a => if a.isSome then (H.rdn a n).map fun cs => .agg cs.toArray else none
    | _ => none
  | .fld off x => match ρ x with
    | .pointer a => if a.isSome then some (.pointer (adr a off)) else none
    | _ => none
  | .idx size x i => match ρ x, ρ i with
    | .slice a n _, .int _ i => if 0 ≤ i ∧ i < n then (if a.isSome then some (.pointer (adr a (i.toNat * size))) else none) else none
    | _, _ => none
  | .ida ln size x i => match ρ x, ρ i with
    | .pointer a, .int _ i => if 0 ≤ i ∧ i < ln then (if a.isSome then some (.pointer (adr a (i.toNat * size))) else none) else none
    | _, _ => none
  | .bin op x y => match ρ x, ρ y with
    | .int k a, .int k' b => match op with
      | .shl => binv .shl k a b
      | .shr => binv .shr k a b
      | op => if k = k' then binv op k a b else none
    | _, _ => none
  | .eqb ng x y => match ρ x, ρ y with
    | .bool a, .bool b => some (.bool (if ng then a != b else a == b))
    | _, _ => none
  | .nils ng x y => match ρ x, ρ y with
    | .slice none _ _, .slice b _ _ => some (.bool (ng != b.isNone))
    | .slice (some _) _ _, .slice none _ _ => some (.bool ng)
    | _, _ => none
  | .not x => match ρ x with
    | .bool b => some (.bool (!b))
    | _ => none
  | .neg x => match ρ x with
    | .int k n => some (.int k (k.wrap (0 - n)))
    | _ => none
  | .cnv k x => match ρ x with
    | .int _ n => some (.int k (k.wrap n))
    | _ => none
  | .slc size x lo hi mx => match ρ x with
    | .slice a ln cap => (bnds ln cap (lo.map ρ) (hi.map ρ) (mx.map ρ)).map fun b => .slice (if b.2.2 = b.1 then a else adr a (b.1 * size)) (b.2.1 - b.1) (b.2.2 - b.1)
    | _ => none
  | .sla ln size x lo hi mx => match ρ x with
    | .pointer (some a) => (bnds ln ln (lo.map ρ) (hi.map ρ) (mx.map ρ)).map fun b => .slice (if b.2.2 = b.1 then some a else adr (some a) (b.1 * size)) (b.2.1 - b.1) (b.2.2 - b.1)
    | _ => none
  | .prt off n x => match ρ x with
    | .agg cs => prtv off n cs.toList
    | _ => none
  | .ixv ln size n x i => match ρ x, ρ i with
    | .agg cs, .int _ i => if 0 ≤ i ∧ i < ln then prtv (i.toNat * size) n cs.toList else none
    | _, _ => none
  | .ext i x => match ρ x with
    | .tuple vs => vs.toList[i]?
    | _ => none
  | .len x => match ρ x with
    | .slice _ n _ => some (.int .i64 n)
    | _ => none
  | .lena n => some (.int .i64 n)
  | .max x y => match ρ x, ρ y with
    | .int k a, .int _ b => some (.int k (if b > a then b else a))
    | _, _ => none
  | .min x y => match ρ x, ρ y with
    | .int k a, .int _ b => some (.int k (if b < a then b else a))
    | _, _ => none
  | .mkf fn first captured => some (.func fn (first.map ρ).toArray (captured.map ρ).toArray)
  | .nilc x => match ρ x with
    | .pointer a => if a.isSome then some (.pointer a) else none
    | .func (.func f) first captured => some (.func (.func f) first captured)
    | _ => none
  | _ => none
end Go.Proofs.Ytfjhjfddgdokgaa
