/- Regions, in the text's order and in whatever order; codes; functions: the abstract walk is sound. -/
import Derived.Test.YtfjhjfddgdokgaaSxEff
import Derived.Test.YtfjhjfddgdokgaaSxWait
import Derived.Deep.LoopGhost
namespace Go.Proofs.Ytfjhjfddgdokgaa
set_option linter.all false
open Go Go.RowKit
set_option linter.unusedSimpArgs false

/-- An order of a region that draws: 'take': may come first, whatever comes else; 'alt': what comes next, or else another; 'last': what comes at the very end, or else another. -/
inductive Sch where
  | done
  | take (o : XO) (r : Sch)
  | alt (o : XO) (r : Sch) (more : Sch)
  | last (o : XO) (more : Sch)
  | none_

inductive XC where
  | skip
  | ops (l : List XO)
  | draw (s : Sch)
  | seq (a b : XC)
  | cond (c : Operand) (a b : XC)
  | block (id : Nat) (c : XC)
  | loop (c : XC)
  | exit (id : Nat)
  | ret

def floats : X → Bool
  | .eqs .. => true
  | x => x.isVal

def Sch.isDone : Sch → Bool
  | .done => true
  | _ => false
def Sch.of (P : Program) (N : Nat) (ops : Array Oper) (z : Bool) : (fuel : Nat) → Array Bool → Option Sch
  | 0, listed => if Region.ready .any ops listed = [] then some .done else none
  | fuel + 1, listed =>
    let rs := Region.ready .any ops listed
    if rs = [] then some .done else
    match rs.find? (fun i => Region.free .any ops listed i && (match (ops[i]?).bind (XO.of P N ops) with | some o => floats o.x | none => false) && (!z || wants ops listed i)) with
    | some i => match (ops[i]?).bind (XO.of P N ops), Sch.of P N ops z fuel (listed.setIfInBounds i true) with
      | some o, some r => some (.take o r)
      | _, _ => none
    | none => rs.foldr (fun i acc => match (ops[i]?).bind (XO.of P N ops), Sch.of P N ops z fuel (listed.setIfInBounds i true), acc with
      | some o, some r, some m => some (if z && allUp (listed.setIfInBounds i true) && r.isDone then .last o m else .alt o r m)
      | _, _, _ => none) (some .none_)
/-- A store into an array some of whose places are read in the same region. -/
def inPlace (P : Program) (N : Nat) (ops : Array Oper) : Bool :=
  let xs := ops.toList.filterMap (XO.of P N ops)
  xs.any fun s => match s.x with
    | .st _ (.tmp t) _ => xs.any fun d => (match d.dst with | some u => u == t | none => false) && (match d.x with
      | .ida _ _ (.tmp b) _ => xs.any fun d' => (match d'.dst with | some u => u != t | none => false) && (match d'.x with
        | .ida _ _ (.tmp b') _ => b == b'
        | _ => false)
      | _ => false)
    | _ => false

/-- A region of values alone: in the order of the takes. -/
def Sch.flat : Sch → Option (List XO)
  | .done => some []
  | .take o r => (Sch.flat r).map (o :: ·)
  | _ => none
def Sch.code (s : Sch) : XC := match s.flat with
  | some l => .ops l
  | none => .draw s

def XC.of (P : Program) (N : Nat) : Code → Option XC
  | .skip => some .skip
  | .region _ os false => (os.toList.mapM (XO.of P N os)).map .ops
  | .region _ os true => if Region.noSelect os then (Sch.of P N os (inPlace P N os) os.size (Array.replicate os.size false)).map Sch.code else none
  | .seq a b => match XC.of P N a, XC.of P N b with
    | some a, some b => some (.seq a b)
    | _, _ => none
  | .cond c a b => match XC.of P N a, XC.of P N b with
    | some a, some b => some (.cond c a b)
    | _, _ => none
  | .block id c => (XC.of P N c).map (.block id)
  | .loop c => (XC.of P N c).map .loop
  | .exit id => some (.exit id)
  | .ret => some .ret
  | _ => none

/-- A value that may be had at any time, or is not wanted. -/
def sxTake (P : Program) (o : XO) (K : Value → Prop) (fr : Fr) (H : AHeap) : Prop := match o.guard with
  | none => sxVal P o.x fr.ev H K
  | some (t, b) => match fr t with
    | .bool c => (c = b → sxVal P o.x fr.ev H K) ∧ (c ≠ b → K undef)
    | _ => K undef

def sxSch (P : Program) (w0 : World) (Hp : AHeap) : Sch → (Fr → AHeap → Prop) → Fr → AHeap → Prop
  | .done, K, fr, H => K fr H
  | .take o r, K, fr, H => sxTake P o (fun v => sxSch P w0 Hp r K (putD fr o.dst v) H) fr Hp
  | .alt o r m, K, fr, H => sxOp P w0 o (fun fr' H' => AHeap.le Hp H' ∧ sxSch P w0 Hp r K fr' H') fr H ∧ sxSch P w0 Hp m K fr H
  | .last o m, K, fr, H => sxOp P w0 o K fr H ∧ sxSch P w0 Hp m K fr H
  | .none_, _, _, _ => True

section
variable {P : Program} {w0 : World} {N : Nat}

theorem Sim.putD {fr : Fr} {a : Act} (h : Sim N fr a) {d : Option Nat} (hd : dstOk N d = true) (v : Value) : Sim N (putD fr d v) (a.put d v) := by
  cases d with
  | none => exact h
  | some d => exact h.put (by simpa [dstOk] using hd) v

theorem of_parts {ops : Array Oper} {o : Oper} {x : XO} (h : XO.of P N ops o = some x) : X.of P o.op = some x.x ∧ x.dst = o.dst ∧ dstOk N o.dst = true ∧
    ((o.guard = none ∧ x.guard = none) ∨ ∃ j b t, o.guard = some (j, b) ∧ x.guard = some (t, b) ∧ (ops[j]?).bind (·.dst) = some t ∧ t < N) := by
  unfold XO.of at h
  split at h
  · cases h
  · rename_i x' hx
    split at h
    · rename_i hd
      split at h
      · rename_i hg
        obtain rfl := Option.some.inj h
        exact ⟨hx, rfl, hd, .inl ⟨hg, rfl⟩⟩
      · rename_i j b hg
        split at h
        · rename_i t ht
          split at h
          · rename_i hlt
            obtain rfl := Option.some.inj h
            exact ⟨hx, rfl, hd, .inr ⟨j, b, t, hg, rfl, ht, hlt⟩⟩
          · cases h
        · cases h
    · cases h

theorem wanted_guard {ops : Array Oper} {o : Oper} {fr : Fr} {a : Act} (hs : Sim N fr a) {j : Nat} {b : Bool} {t : Nat} (hg : o.guard = some (j, b)) (ht : (ops[j]?).bind (·.dst) = some t) (hlt : t < N) {c : Bool} (hc : fr t = .bool c) :
    Region.wanted o (yielded ops a.tmps) = (c == b) := by
  have hv : a.tmps[t]? = some (.bool c) := by
    have h1 := hs.at_ t
    rw [hc] at h1
    have hl : t < a.tmps.size := by rw [hs.size]; exact hlt
    simp only [Array.getD_eq_getD_getElem?] at h1
    rw [Array.getElem?_eq_getElem hl] at h1 ⊢
    simpa using h1
  simp only [Region.wanted, hg, yielded, ht, Option.bind_some, hv]
  cases c <;> cases b <;> rfl

theorem wanted_none {ops : Array Oper} {o : Oper} {fr : Fr} {a : Act} (hs : Sim N fr a) {j : Nat} {b : Bool} {t : Nat} (hg : o.guard = some (j, b)) (ht : (ops[j]?).bind (·.dst) = some t) (hlt : t < N) (hc : ∀ c, fr t ≠ .bool c) :
    Region.wanted o (yielded ops a.tmps) = false := by
  have hv : a.tmps[t]? = some (fr t) := by
    have h1 := hs.at_ t
    have hl : t < a.tmps.size := by rw [hs.size]; exact hlt
    simp only [Array.getD_eq_getD_getElem?] at h1
    rw [Array.getElem?_eq_getElem hl] at h1 ⊢
    simpa using h1
  simp only [Region.wanted, hg, yielded, ht, Option.bind_some, hv]
  cases hf : fr t <;> first | rfl | exact absurd hf (hc _)

theorem op_sound {ops : Array Oper} {o : Oper} {x : XO} (hx : XO.of P N ops o = some x) {fr : Fr} {H : AHeap} {K : Fr → AHeap → Prop} {a : Act} {w : World} (h : sxOp P w0 x K fr H) (hsim : Sim N fr a) (hs : Sat w0 H w)
    {next : Act → World → Prop} {Q : Exit → Act → World → Prop} (hn : ∀ fr' H' a' w', Sim N fr' a' → Sat w0 H' w' → K fr' H' → next a' w') :
    if Region.wanted o (yielded ops a.tmps) then o.wp P a w next Q else next (a.put o.dst undef) w := by
  obtain ⟨h1, h2, h3, h4⟩ := of_parts hx
  have main : sxEff P w0 x.x fr.ev H (fun v H' => K (putD fr x.dst v) H') → o.wp P a w next Q := fun hh => by
    rw [← hsim.ev] at hh
    exact eff_sound h1 hh hs fun v H' w' hs' hK => hn _ _ _ _ (by rw [h2]; exact hsim.putD h3 v) hs' hK
  rcases h4 with ⟨hg, hg'⟩ | ⟨j, b, t, hg, hg', ht, hlt⟩
  · have hw : Region.wanted o (yielded ops a.tmps) = true := by simp [Region.wanted, hg]
    rw [if_pos hw]
    simp only [sxOp, hg'] at h
    exact main h
  · simp only [sxOp, hg'] at h
    by_cases hbool : ∃ c, fr t = .bool c
    case neg =>
      have hno : ∀ c, fr t ≠ .bool c := fun c hc => hbool ⟨c, hc⟩
      have h' : K (putD fr x.dst undef) H := by
        cases hf : fr t <;> rw [hf] at h <;> first | exact h | exact absurd hf (hno _)
      rw [wanted_none hsim hg ht hlt hno, if_neg (by simp)]
      exact hn _ _ _ _ (by rw [← h2]; exact hsim.putD (by rw [h2]; exact h3) undef) hs h'
    obtain ⟨c, hc⟩ := hbool
    rw [hc] at h
    rw [wanted_guard hsim hg ht hlt hc]
    by_cases hcb : c = b
    · rw [if_pos (by simpa using hcb)]
      exact main (h.1 hcb)
    · rw [if_neg (by simpa using hcb)]
      exact hn _ _ _ _ (by rw [← h2]; exact hsim.putD (by rw [h2]; exact h3) undef) hs (h.2 hcb)

theorem ops_sound {ops : Array Oper} {Q : Exit → Act → World → Prop} : ∀ (l : List Nat) (xs : List XO), (xs.length = l.length) → (∀ (i j : Nat) (x : XO), l[i]? = some j → xs[i]? = some x → ∃ o, ops[j]? = some o ∧ XO.of P N ops o = some x) →
    ∀ (fr : Fr) (H : AHeap) (K : Fr → AHeap → Prop) (a : Act) (w : World), sxOps P w0 xs K fr H → Sim N fr a → Sat w0 H w →
    (∀ fr' H' a' w', Sim N fr' a' → Sat w0 H' w' → K fr' H' → Q .normal a' w') → wpOps P ops Q l a w
  | [], [], _, _, fr, H, K, a, w, h, hsim, hs, hn => hn _ _ _ _ hsim hs h
  | [], x :: xs, hl, _, _, _, _, _, _, _, _, _, _ => by simp at hl
  | j :: l, [], hl, _, _, _, _, _, _, _, _, _, _ => by simp at hl
  | j :: l, x :: xs, hl, hat, fr, H, K, a, w, h, hsim, hs, hn => by
    obtain ⟨o, ho, hx⟩ := hat 0 j x rfl rfl
    simp only [wpOps, ho]
    have := op_sound (Q := Q) (next := wpOps P ops Q l) hx h hsim hs fun fr' H' a' w' hsim' hs' hK =>
      ops_sound l xs (by simpa using hl) (fun i j' x' h1 h2 => hat (i + 1) j' x' (by simpa using h1) (by simpa using h2)) fr' H' K a' w' hK hsim' hs' hn
    split
    · rename_i hw
      rw [if_pos hw] at this
      exact .inl this
    · rename_i hw
      rw [if_neg hw] at this
      exact this

theorem take_sound {ops : Array Oper} {o : Oper} {x : XO} (hx : XO.of P N ops o = some x) (hf : floats x.x = true) {fr : Fr} {Hp : AHeap} {K : Value → Prop} {a : Act} (h : sxTake P x K fr Hp) (hsim : Sim N fr a) :
    ∃ v, YieldsIf P ops (Sat w0 Hp) o v a ∧ K v := by
  obtain ⟨h1, h2, h3, h4⟩ := of_parts hx
  have main : sxVal P x.x fr.ev Hp K → ∃ v, (∀ w, Sat w0 Hp w → (execOp a.eval o).run P w = .ok (.value v) w) ∧ K v := fun hh => by
    rw [← hsim.ev] at hh
    rcases of_cases h1 with hv | he
    · have e : sxVal P x.x a.eval Hp K = needs (x.x.val a.eval Hp) K := by
        cases hxx : x.x <;> rw [hxx] at hv <;> first | rfl | (cases hv; done)
      rw [e] at hh
      obtain ⟨v, hv', hK⟩ := needs_elim hh
      exact ⟨v, fun w hs => val_sound h1 hv' hs, hK⟩
    · obtain ⟨dst, op, ty, pos, after, guard⟩ := o
      obtain ⟨xd, xx, xg⟩ := x
      simp only at he hf hh h1
      cases he <;> first | (cases hf; done) | skip
      rename_i op ng t y z ty' ho ha
      obtain ⟨r, hr, hK⟩ := hh
      exact ⟨_, fun w _ => eqs_run ho hr, hK⟩
  rcases h4 with ⟨hg, hg'⟩ | ⟨j, b, t, hg, hg', ht, hlt⟩
  · simp only [sxTake, hg'] at h
    obtain ⟨v, hv, hK⟩ := main h
    exact ⟨v, .inl ⟨by simp [Region.wanted, hg], hv⟩, hK⟩
  · simp only [sxTake, hg'] at h
    by_cases hbool : ∃ c, fr t = .bool c
    case neg =>
      have hno : ∀ c, fr t ≠ .bool c := fun c hc => hbool ⟨c, hc⟩
      have h' : K undef := by
        cases hf : fr t <;> rw [hf] at h <;> first | exact h | exact absurd hf (hno _)
      exact ⟨undef, .inr ⟨wanted_none hsim hg ht hlt hno, rfl⟩, h'⟩
    obtain ⟨c, hc⟩ := hbool
    rw [hc] at h
    have hw := wanted_guard hsim hg ht hlt hc
    by_cases hcb : c = b
    · obtain ⟨v, hv, hK⟩ := main (h.1 hcb)
      exact ⟨v, .inl ⟨by rw [hw]; simpa using hcb, hv⟩, hK⟩
    · exact ⟨undef, .inr ⟨by rw [hw]; simpa using hcb, rfl⟩, h.2 hcb⟩

theorem alts_at {ops : Array Oper} {z : Bool} {fuel : Nat} {listed : Array Bool} {Hp : AHeap} {K : Fr → AHeap → Prop} {fr : Fr} {H : AHeap} : ∀ (l : List Nat) (s : Sch),
    l.foldr (fun i acc => match (ops[i]?).bind (XO.of P N ops), Sch.of P N ops z fuel (listed.setIfInBounds i true), acc with
      | some o, some r, some m => some (if z && allUp (listed.setIfInBounds i true) && r.isDone then .last o m else .alt o r m)
      | _, _, _ => none) (some .none_) = some s → sxSch P w0 Hp s K fr H →
    ∀ i ∈ l, ∃ o r, (ops[i]?).bind (XO.of P N ops) = some o ∧ Sch.of P N ops z fuel (listed.setIfInBounds i true) = some r ∧ (sxOp P w0 o (fun fr' H' => AHeap.le Hp H' ∧ sxSch P w0 Hp r K fr' H') fr H ∨ ((z = true ∧ allUp (listed.setIfInBounds i true) = true ∧ r = .done) ∧ sxOp P w0 o K fr H))
  | [], _, _, _, i, hi => by cases hi
  | j :: l, s, h, hs, i, hi => by
    simp only [List.foldr_cons] at h
    split at h
    · rename_i o r m h1 h2 h3
      obtain rfl := Option.some.inj h
      split at hs
      · rename_i hz
        simp only [Bool.and_eq_true] at hz
        have hr : r = .done := by
          have := hz.2
          cases r <;> first | rfl | cases this
        simp only [sxSch] at hs
        rcases List.mem_cons.1 hi with rfl | hi
        · exact ⟨o, r, h1, h2, .inr ⟨⟨hz.1.1, hz.1.2, hr⟩, hs.1⟩⟩
        · exact alts_at l m h3 hs.2 i hi
      · simp only [sxSch] at hs
        rcases List.mem_cons.1 hi with rfl | hi
        · exact ⟨o, r, h1, h2, .inl hs.1⟩
        · exact alts_at l m h3 hs.2 i hi
    · cases h

theorem sch_sound {ops : Array Oper} {z : Bool} {Q : Exit → Act → World → Prop} {Hp : AHeap} {K : Fr → AHeap → Prop} (hsel : Region.noSelect ops = true) (hQ : ∀ c a w, ¬ Q (.panic c) a w)
    (hn : ∀ fr' H' a' w', Sim N fr' a' → Sat w0 H' w' → K fr' H' → Q .normal a' w') : ∀ (fuel : Nat) (listed : Array Bool) (s : Sch), Sch.of P N ops z fuel listed = some s →
    ∀ (fr : Fr) (H : AHeap) (a : Act) (w : World), sxSch P w0 Hp s K fr H → Sim N fr a → Sat w0 H w → (AHeap.le Hp H ∨ (z = true ∧ allUp listed = true ∧ s = .done)) → Behind P ops Q (Sat w0 Hp) z fuel listed a w
  | 0, listed, s, h, fr, H, a, w, hh, hsim, hs, hle => by
    simp only [Sch.of] at h
    split at h
    · rename_i hr
      obtain rfl := Option.some.inj h
      exact ⟨hr, hn _ _ _ _ hsim hs hh⟩
    · cases h
  | fuel + 1, listed, s, h, fr, H, a, w, hh, hsim, hs, hle => by
    simp only [Sch.of] at h
    split at h
    · rename_i hr
      obtain rfl := Option.some.inj h
      exact Behind.done hr (hn _ _ _ _ hsim hs hh) _
    · rename_i hne
      split at h
      · rename_i i hi
        split at h
        · rename_i o r ho hr
          obtain rfl := Option.some.inj h
          obtain ⟨oi, hoi, hxo⟩ := Option.bind_eq_some_iff.1 ho
          have hp := List.find?_some hi
          have hm := List.mem_of_find?_eq_some hi
          simp only [ho, Bool.and_eq_true, Bool.or_eq_true, Bool.not_eq_true'] at hp
          simp only [sxSch] at hh
          have hle' : AHeap.le Hp H := hle.resolve_right fun e => by cases e.2.2
          obtain ⟨v, hy, hK⟩ := take_sound (w0 := w0) hxo hp.1.2 hh hsim
          obtain ⟨_, h2, h3, _⟩ := of_parts hxo
          refine Behind.take hoi hsel (fun c a w hq => absurd hq (hQ _ _ _)) _ _ _ _ (Region.free_spec hoi hp.1.1) (fun hz => wants_spec (hp.2.resolve_left (by rw [hz]; simp))) hm hy (hs.mono hle') ?_
          exact sch_sound hsel hQ hn fuel _ r hr _ H _ w hK (by rw [h2]; exact hsim.putD h3 v) hs (.inl hle')
        · cases h
      · refine Behind.all rfl hne fun i hi => ?_
        obtain ⟨o, r, ho, hr, hop⟩ := alts_at _ s h hh i hi
        obtain ⟨oi, hoi, hxo⟩ := Option.bind_eq_some_iff.1 ho
        have : if Region.wanted oi (yielded ops a.tmps) then oi.wp P a w (fun a' w' => ((z = false ∨ Left (listed.setIfInBounds i true)) → Sat w0 Hp w') ∧ Behind P ops Q (Sat w0 Hp) z fuel (listed.setIfInBounds i true) a' w') Q else (fun a' w' => ((z = false ∨ Left (listed.setIfInBounds i true)) → Sat w0 Hp w') ∧ Behind P ops Q (Sat w0 Hp) z fuel (listed.setIfInBounds i true) a' w') (a.put oi.dst undef) w := by
          rcases hop with hop | ⟨e, hop⟩
          · exact op_sound (Q := Q) hxo hop hsim hs fun fr' H' a' w' hsim' hs' hK =>
              ⟨fun _ => hs'.mono hK.1, sch_sound hsel hQ hn fuel _ r hr fr' H' a' w' hK.2 hsim' hs' (.inl hK.1)⟩
          · obtain ⟨e1, e2, rfl⟩ := e
            exact op_sound (Q := Q) hxo hop hsim hs fun fr' H' a' w' hsim' hs' hK =>
              ⟨fun hc => hc.elim (fun hz => by rw [e1] at hz; cases hz) (fun hl => absurd hl (allUp_spec e2)), sch_sound hsel hQ hn fuel _ .done hr fr' H' a' w' hK hsim' hs' (.inr ⟨e1, e2, rfl⟩)⟩
        unfold wpOp
        simp only [hoi]
        split
        · rename_i hw
          rw [if_pos hw] at this
          exact .inl this
        · rename_i hw
          rw [if_neg hw] at this
          exact this

/-- Values alone: the plain order's walk is one of them. -/
theorem flat_sch {Hp : AHeap} {K : Fr → AHeap → Prop} : ∀ (s : Sch) (l : List XO), s.flat = some l → (∀ o ∈ l, floats o.x = true) → ∀ fr, sxOps P w0 l K fr Hp → sxSch P w0 Hp s K fr Hp
  | .done, l, h, _, fr, hh => by obtain rfl := Option.some.inj h; exact hh
  | .take o r, l, h, hf, fr, hh => by
    obtain ⟨l', hl, rfl⟩ := Option.map_eq_some_iff.1 h
    have ih := flat_sch (Hp := Hp) (K := K) r l' hl (fun x hx => hf x (by simp [hx]))
    have hfo := hf o (by simp)
    have e : ∀ K' : Value → AHeap → Prop, sxEff P w0 o.x fr.ev Hp K' = sxVal P o.x fr.ev Hp fun v => K' v Hp := by
      intro K'
      cases hx : o.x <;> rw [hx] at hfo <;> first | rfl | (cases hfo; done)
    simp only [sxOps, sxOp] at hh
    simp only [sxSch, sxTake]
    have mono : ∀ (K1 K2 : Value → Prop), (∀ v, K1 v → K2 v) → sxVal P o.x fr.ev Hp K1 → sxVal P o.x fr.ev Hp K2 := by
      intro K1 K2 hk h1
      cases hx : o.x <;> rw [hx] at h1 <;> simp only [sxVal] at h1 ⊢ <;> first
        | (obtain ⟨r, hr, h1⟩ := h1; exact ⟨r, hr, hk _ h1⟩)
        | (obtain ⟨v, hv, h1⟩ := needs_elim h1
           rw [hv]; exact hk _ h1)
    cases hg : o.guard with
    | none =>
      rw [hg] at hh
      simp only [e] at hh ⊢
      exact mono _ _ (fun v hv => ih _ hv) hh
    | some g =>
      rw [hg] at hh
      simp only at hh ⊢
      cases ht : fr g.1 <;> rw [ht] at hh <;> first
        | exact ih _ hh
        | (simp only [e] at hh ⊢
           exact ⟨fun hc => mono _ _ (fun v hv => ih _ hv) (hh.1 hc), fun hc => ih _ (hh.2 hc)⟩)
  | .alt .., l, h, _, _, _ => by cases h
  | .last .., l, h, _, _, _ => by cases h
  | .none_, l, h, _, _, _ => by cases h
theorem floats_of {ops : Array Oper} {z : Bool} : ∀ (fuel : Nat) (listed : Array Bool) (s : Sch) (l : List XO), Sch.of P N ops z fuel listed = some s → s.flat = some l → ∀ o ∈ l, floats o.x = true
  | 0, listed, s, l, h, hl, o, ho => by
    simp only [Sch.of] at h
    split at h
    · obtain rfl := Option.some.inj h
      obtain rfl := Option.some.inj hl
      cases ho
    · cases h
  | fuel + 1, listed, s, l, h, hl, o, ho => by
    simp only [Sch.of] at h
    split at h
    · obtain rfl := Option.some.inj h
      obtain rfl := Option.some.inj hl
      cases ho
    · split at h
      · rename_i i hi
        split at h
        · rename_i o' r ho' hr
          obtain rfl := Option.some.inj h
          obtain ⟨l', hl', rfl⟩ := Option.map_eq_some_iff.1 hl
          have hp := List.find?_some hi
          simp only [ho', Bool.and_eq_true] at hp
          rcases List.mem_cons.1 ho with rfl | ho
          · exact hp.1.2
          · exact floats_of fuel _ r l' hr hl' o ho
        · cases h
      · rename_i hnone
        generalize Region.ready .any ops listed = rs at h hnone
        cases rs with
        | nil =>
          obtain rfl := Option.some.inj h
          cases hl
        | cons j rs =>
          simp only [List.foldr_cons] at h
          split at h
          · obtain rfl := Option.some.inj h
            split at hl <;> cases hl
          · cases h

/-! ### Codes -/
end
def thenK (k : Fr → AHeap → Prop) (Q : Exit → Fr → AHeap → Prop) : Exit → Fr → AHeap → Prop
  | .normal, fr, H => k fr H
  | e, fr, H => Q e fr H
def blockK (id : Nat) (Q : Exit → Fr → AHeap → Prop) : Exit → Fr → AHeap → Prop
  | .exit id', fr, H => if id' = id then Q .normal fr H else Q (.exit id') fr H
  | e, fr, H => Q e fr H
def sx (P : Program) (w0 : World) : XC → (Exit → Fr → AHeap → Prop) → Fr → AHeap → Prop
  | .skip, Q, fr, H => Q .normal fr H
  | .ops l, Q, fr, H => sxOps P w0 l (Q .normal) fr H
  | .draw s, Q, fr, H => ∃ Hp, AHeap.le Hp H ∧ sxSch P w0 Hp s (Q .normal) fr H
  | .seq a b, Q, fr, H => sx P w0 a (thenK (sx P w0 b Q) Q) fr H
  | .cond c a b, Q, fr, H => match fr.ev c with
    | .bool t => (t = true → sx P w0 a Q fr H) ∧ (t = false → sx P w0 b Q fr H)
    | _ => False
  | .block id c, Q, fr, H => sx P w0 c (blockK id Q) fr H
  | .loop c, Q, fr, H => ∃ (I : Nat → Fr → AHeap → Prop) (n : Nat), I n fr H ∧ ∀ n fr H, I n fr H → sx P w0 c (thenK (fun fr' H' => ∃ n' H'', n' < n ∧ AHeap.le H'' H' ∧ I n' fr' H'') Q) fr H
  | .exit id, Q, fr, H => Q (.exit id) fr H
  | .ret, Q, fr, H => Q .ret fr H

/-- The concrete post of an abstract one. -/
def conc (N : Nat) (w0 : World) (Q : Exit → Fr → AHeap → Prop) (e : Exit) (a : Act) (w : World) : Prop :=
  (match e with | .panic _ => False | .outgrown => False | .goto _ => False | _ => True) ∧ ∃ fr H, Sim N fr a ∧ Sat w0 H w ∧ Q e fr H

section
variable {P : Program} {w0 : World} {N : Nat}
theorem sx_sound (hmix : P.follows .mixedOrders = true) : ∀ (c : Code) (x : XC), XC.of P N c = some x → ∀ (Q : Exit → Fr → AHeap → Prop) (fr : Fr) (H : AHeap) (a : Act) (w : World),
    sx P w0 x Q fr H → Sim N fr a → Sat w0 H w → c.wp P (conc N w0 Q) a w := by
  intro c
  induction c with
  | skip => intro x hx Q fr H a w h hsim hs; obtain rfl := Option.some.inj hx; exact wp_skip ⟨trivial, fr, H, hsim, hs, h⟩
  | region id ops d =>
    intro x hx Q fr H a w h hsim hs
    cases d with
    | false =>
      obtain ⟨xs, hxs, rfl⟩ := Option.map_eq_some_iff.1 hx
      refine wp_region (ops_sound (List.range ops.size) xs (by rw [mapM_length hxs]; simp) (fun i j x h1 h2 => ?_) fr H (Q .normal) a w h hsim hs fun fr' H' a' w' h1 h2 h3 => ⟨trivial, fr', H', h1, h2, h3⟩)
      have hj : i = j ∧ i < ops.size := by
        have hlt := (List.getElem?_eq_some_iff.1 h1).1
        simp only [List.length_range] at hlt
        rw [List.getElem?_range hlt] at h1
        exact ⟨Option.some.inj h1, hlt⟩
      obtain ⟨rfl, hlt⟩ := hj
      refine ⟨ops[i], Array.getElem?_eq_getElem hlt, mapM_at hxs i _ x ?_ h2⟩
      rw [Array.getElem?_toList]; exact Array.getElem?_eq_getElem hlt
    | true =>
      simp only [XC.of] at hx
      split at hx
      · rename_i hsel
        obtain ⟨s, hsch, rfl⟩ := Option.map_eq_some_iff.1 hx
        have h : ∃ Hp, AHeap.le Hp H ∧ sxSch P w0 Hp s (Q .normal) fr H := by
          unfold Sch.code at h
          split at h
          · rename_i l hl
            exact ⟨H, .refl _, flat_sch s l hl (floats_of _ _ s l hsch hl) fr h⟩
          · exact h
        obtain ⟨Hp, hle, hh⟩ := h
        refine Behind.region (S := Sat w0 Hp) (z := inPlace P N ops) hmix ?_
        exact sch_sound hsel (fun c a w hq => hq.1) (fun fr' H' a' w' h1 h2 h3 => ⟨trivial, fr', H', h1, h2, h3⟩) _ _ s hsch fr H a w.drew hh hsim hs.drew (.inl hle)
      · cases hx
  | seq c1 c2 ih1 ih2 =>
    intro x hx Q fr H a w h hsim hs
    simp only [XC.of] at hx
    split at hx
    · rename_i x1 x2 h1 h2
      obtain rfl := Option.some.inj hx
      refine wp_seq (wp_mono (ih1 x1 h1 _ fr H a w h hsim hs) fun e a' w' hq => ?_)
      obtain ⟨he, fr', H', hsim', hs', hQ⟩ := hq
      cases e with
      | normal => exact ih2 x2 h2 Q fr' H' a' w' hQ hsim' hs'
      | exit id => exact ⟨trivial, fr', H', hsim', hs', hQ⟩
      | ret => exact ⟨trivial, fr', H', hsim', hs', hQ⟩
      | goto l => exact he.elim
      | panic ch => exact he.elim
      | outgrown => exact he.elim
    · cases hx
  | cond c c1 c2 ih1 ih2 =>
    intro x hx Q fr H a w h hsim hs
    simp only [XC.of] at hx
    split at hx
    · rename_i x1 x2 h1 h2
      obtain rfl := Option.some.inj hx
      simp only [sx] at h
      rw [← hsim.ev] at h
      cases hc : a.eval c <;> rw [hc] at h <;> first | exact h.elim | skip
      rename_i t
      refine wp_cond_split hc (fun ht => ih1 x1 h1 Q fr H a w (h.1 ht) hsim hs) (fun ht => ih2 x2 h2 Q fr H a w (h.2 ht) hsim hs)
    · cases hx
  | block id c ih =>
    intro x hx Q fr H a w h hsim hs
    obtain ⟨x1, h1, rfl⟩ := Option.map_eq_some_iff.1 hx
    refine wp_block (wp_mono (ih x1 h1 _ fr H a w h hsim hs) fun e a' w' hq => ?_)
    obtain ⟨he, fr', H', hsim', hs', hQ⟩ := hq
    cases e with
    | normal => exact ⟨trivial, fr', H', hsim', hs', hQ⟩
    | exit id' =>
      simp only [blockK] at hQ
      simp only [Exit.inBlock]
      split
      · rename_i hid; rw [if_pos hid] at hQ; exact ⟨trivial, fr', H', hsim', hs', hQ⟩
      · rename_i hid; rw [if_neg hid] at hQ; exact ⟨trivial, fr', H', hsim', hs', hQ⟩
    | ret => exact ⟨trivial, fr', H', hsim', hs', hQ⟩
    | goto l => exact he.elim
    | panic ch => exact he.elim
    | outgrown => exact he.elim
  | loop c ih =>
    intro x hx Q fr H a w h hsim hs
    obtain ⟨x1, h1, rfl⟩ := Option.map_eq_some_iff.1 hx
    obtain ⟨I, n, h0, hr⟩ := h
    refine wp_loop_ghost (fun n a w => ∃ fr H, Sim N fr a ∧ Sat w0 H w ∧ I n fr H) n ⟨fr, H, hsim, hs, h0⟩ ?_
    rintro n a w ⟨fr, H, hsim, hs, hI⟩
    refine wp_mono (ih x1 h1 _ fr H a w (hr n fr H hI) hsim hs) fun e a' w' hq => ?_
    obtain ⟨he, fr', H', hsim', hs', hQ⟩ := hq
    cases e with
    | normal =>
      obtain ⟨n', H'', hlt, hle, hI'⟩ := hQ
      exact ⟨n', hlt, fr', H'', hsim', hs'.mono hle, hI'⟩
    | exit id => exact ⟨trivial, fr', H', hsim', hs', hQ⟩
    | ret => exact ⟨trivial, fr', H', hsim', hs', hQ⟩
    | goto l => exact he.elim
    | panic ch => exact he.elim
    | outgrown => exact he.elim
  | exit id => intro x hx Q fr H a w h hsim hs; obtain rfl := Option.some.inj hx; exact wp_exit ⟨trivial, fr, H, hsim, hs, h⟩
  | ret => intro x hx Q fr H a w h hsim hs; obtain rfl := Option.some.inj hx; exact wp_ret ⟨trivial, fr, H, hsim, hs, h⟩
  | rangeFunc f ps c1 c2 ih1 ih2 => intro x hx; cases hx
  | scope c ih => intro x hx; cases hx
  | label l => intro x hx; cases hx
  | goto l => intro x hx; cases hx
  | refuse why => intro x hx; cases hx

/-! ### Functions -/
end
inductive RV where
  | tmp (t : Nat)
  | cell (t : Nat) (n : Option Nat)
def RV.of (P : Program) : ResultVar → Option RV
  | .tmp t => some (.tmp t)
  | .cell t ty => (partB P ty).map (.cell t)
structure XF where
  N : Nat
  results : List RV
  body : XC
def XF.of (P : Program) (fn : Func) : Option XF := match fn.body with
  | none => none
  | some c => match XC.of P fn.ntmps c, fn.results.toList.mapM (RV.of P) with
    | some b, some r => if fn.name == "runtime.NumGoroutine" then none else some ⟨fn.ntmps, r, b⟩
    | _, _ => none
def rval (fr : Fr) (H : AHeap) : RV → Option Value
  | .tmp t => some (fr t)
  | .cell t none => match fr t with
    | .pointer (some a) => H.cell (some a)
    | _ => none
  | .cell t (some n) => match fr t with
    | .pointer (some a) => (H.rdn (some a) n).map fun cs => .agg cs.toArray
    | _ => none
def resV (fr : Fr) (H : AHeap) : List RV → Option Value
  | [r] => rval fr H r
  | rs => (rs.mapM (rval fr H)).map fun l => .tuple l.toArray
def retK (rs : List RV) (K : Value → AHeap → Prop) : Exit → Fr → AHeap → Prop
  | .normal, fr, H => needs (resV fr H rs) fun v => ∃ H', AHeap.le H' H ∧ K v H'
  | .ret, fr, H => needs (resV fr H rs) fun v => ∃ H', AHeap.le H' H ∧ K v H'
  | _, _, _ => False
def fr0 (args : List Value) : Fr := fun t => args.getD t undef

section
variable {P : Program} {w0 : World}
theorem rval_run {rv : ResultVar} {r : RV} (hr : RV.of P rv = some r) {N : Nat} {fr : Fr} {a : Act} {H : AHeap} {w : World} (hsim : Sim N fr a) (hs : Sat w0 H w) {v : Value} (h : rval fr H r = some v) :
    (match rv with
      | .tmp t => pure (a.tmps.getD t undef)
      | .cell x t => do loadVar t (← asAddr (a.tmps.getD x undef)) : Sem Value).run P w = .ok v w := by
  cases rv with
  | tmp t =>
    obtain rfl := Option.some.inj hr
    obtain rfl := Option.some.inj h
    simp only [hsim.at_ t, Sem.run_pure]
  | cell t ty =>
    obtain ⟨p, hp, rfl⟩ := Option.map_eq_some_iff.1 hr
    simp only [hsim.at_ t]
    unfold partB at hp
    split at hp
    · rename_i n ha hn
      obtain rfl := Option.some.inj hp
      simp only [rval] at h
      cases hv : fr t <;> rw [hv] at h <;> first | (cases h; done) | skip
      rename_i A
      cases A with
      | none => cases h
      | some A =>
        obtain ⟨cs, hcs, rfl⟩ := Option.map_eq_some_iff.1 h
        simp only [asAddr, loadVar, Sem.run_bind, Sem.run_pure, Result.andThen_ok, run_isAgg ha, if_true, run_size hn, cells_load hs hcs]
    · rename_i n ha hn
      obtain rfl := Option.some.inj hp
      simp only [rval] at h
      cases hv : fr t <;> rw [hv] at h <;> first | (cases h; done) | skip
      rename_i A
      cases A with
      | none => cases h
      | some A =>
        have hcell := hs.cell h
        simp only [asAddr, loadVar, Sem.run_bind, Sem.run_pure, Result.andThen_ok, run_isAgg ha, Bool.false_eq_true, if_false, run_load, hcell]
    · cases hp

theorem loop_run {fr : Fr} {H : AHeap} {w : World} (g : ResultVar → Sem Value) (hg : ∀ x r v, RV.of P x = some r → rval fr H r = some v → (g x).run P w = .ok v w) :
    ∀ (l : List ResultVar) (rs : List RV) (vs acc : List Value), l.mapM (RV.of P) = some rs → rs.mapM (rval fr H) = some vs → (List.mapM.loop g l acc).run P w = .ok (acc.reverse ++ vs) w := by
  intro l
  induction l with
  | nil =>
    intro rs vs acc h1 h2
    simp only [List.mapM_nil] at h1
    obtain rfl := Option.some.inj h1
    simp only [List.mapM_nil] at h2
    obtain rfl := Option.some.inj h2
    simp [List.mapM.loop]
  | cons x l ih =>
    intro rs vs acc h1 h2
    simp only [List.mapM_cons, Option.bind_eq_bind, Option.bind_eq_some_iff] at h1
    obtain ⟨r, hx, rs', hl, h1⟩ := h1
    obtain rfl := Option.some.inj h1
    simp only [List.mapM_cons, Option.bind_eq_bind, Option.bind_eq_some_iff] at h2
    obtain ⟨v, hv, vs', hvs, h2⟩ := h2
    obtain rfl := Option.some.inj h2
    simp only [List.mapM.loop, Sem.run_bind, hg x r v hx hv, Result.andThen_ok, ih rs' vs' (v :: acc) hl hvs]
    simp

theorem results_run {fn : Func} {rs : List RV} (hr : fn.results.toList.mapM (RV.of P) = some rs) {N : Nat} {fr : Fr} {a : Act} {H : AHeap} {w : World} (hsim : Sim N fr a) (hs : Sat w0 H w) {v : Value} (h : resV fr H rs = some v) :
    (results fn a.tmps).run P w = .ok v w := by
  have hall : ∀ (vs : List Value), rs.mapM (rval fr H) = some vs → (results fn a.tmps).run P w = .ok (if h : vs.toArray.size = 1 then vs.toArray[0] else .tuple vs.toArray) w := by
    intro vs hvs
    unfold results
    have hm : ∀ (g : ResultVar → Sem Value), (∀ x r v, RV.of P x = some r → rval fr H r = some v → (g x).run P w = .ok v w) → (fn.results.mapM g : Sem (Array Value)).run P w = .ok vs.toArray w := by
      intro g hg
      rw [← Array.toArray_toList (xs := fn.results), List.mapM_toArray]
      simp only [List.mapM, Sem.run_map, loop_run g hg _ rs vs [] hr hvs, Result.andThen_ok]
      simp
    simp only [Sem.run_bind]
    rw [hm _ fun x r v h1 h2 => by cases x <;> exact rval_run h1 hsim hs h2]
    rfl
  match rs, h, hall with
  | [], h, hall =>
    have := hall [] (by simp)
    have h' : (List.mapM (rval fr H) []).map (fun l => Value.tuple l.toArray) = some v := h
    simp only [List.mapM_nil] at h'
    obtain rfl := Option.some.inj h'
    simpa using this
  | [r], h, hall =>
    have := hall [v] (by simp only [resV] at h; simp [List.mapM_cons, h])
    simpa using this
  | r :: s :: rs, h, hall =>
    have h' : (List.mapM (rval fr H) (r :: s :: rs)).map (fun l => Value.tuple l.toArray) = some v := h
    obtain ⟨l, hl, rfl⟩ := Option.map_eq_some_iff.1 h'
    have := hall l hl
    have hlen := mapM_length hl
    have hne : ¬ l.length = 1 := by rw [hlen]; simp
    simpa [hne] using this

/-- THE LAW: the abstract walk of a function's body gives its call. -/
theorem acalls_of_sx (hmix : P.follows .mixedOrders = true) {f : Nat} {fn : Func} (hf : P.funcs[f]? = some fn) {xf : XF} (hx : XF.of P fn = some xf) {args : List Value} (hN : args.length ≤ xf.N) {H : AHeap} {K : Value → AHeap → Prop}
    (h : sx P w0 xf.body (retK xf.results K) (fr0 args) H) : ACalls P w0 f args H K := by
  unfold XF.of at hx
  split at hx
  · cases hx
  · rename_i c hc
    split at hx
    · rename_i b r hb hr
      split at hx
      · cases hx
      · rename_i hname
        obtain rfl := Option.some.inj hx
        refine ⟨⟨fn, hf, by simp [hc], by simpa using hname⟩, fun w hs => ?_⟩
        refine calls_of_wp hf hc ?_
        have hsim : Sim fn.ntmps (fr0 args) { tmps := args.toArray ++ Array.replicate (fn.ntmps - args.toArray.size) undef, defers := [] } := by
          refine ⟨by simp only at hN; simp; omega, rfl, fun t => ?_⟩
          simp only [fr0, Array.getD_eq_getD_getElem?, List.getD_eq_getElem?_getD]
          by_cases ht : t < args.length
          · rw [Array.getElem?_append_left (by simpa using ht)]
            simp
          · rw [Array.getElem?_append_right (by simpa using ht), List.getElem?_eq_none (by omega)]
            simp only [Array.getElem?_replicate]
            split <;> rfl
        refine wp_mono (sx_sound hmix c b hb _ _ _ _ w h hsim hs) fun e a' w' hq => ?_
        obtain ⟨he, fr', H', hsim', hs', hQ⟩ := hq
        have fin : needs (resV fr' H' r) (fun v => ∃ H'', AHeap.le H'' H' ∧ K v H'') → a'.defers = [] ∧ ∃ v, (results fn a'.tmps).run P w' = .ok v w' ∧ ∃ v' H', Ending.returned v = .returned v' ∧ Sat w0 H' w' ∧ K v' H' := fun hh => by
          obtain ⟨v, hv, H'', hle, hK⟩ := needs_elim hh
          exact ⟨hsim'.defers, v, results_run hr hsim' hs' hv, v, H'', rfl, hs'.mono hle, hK⟩
        cases e with
        | normal => exact fin hQ
        | ret => exact fin hQ
        | exit id => exact hQ.elim
        | goto l => exact he.elim
        | panic ch => exact he.elim
        | outgrown => exact he.elim
    · cases hx
end
end Go.Proofs.Ytfjhjfddgdokgaa
