/- The statement FnSqueezeKinds holds for all arguments; part 4 of the texts that show it. No further condition. -/
import Derived.Test.YtodhkodhndbpmaaGreatFnSqueezeKindsP3
import Derived.ChangeKeysEq
namespace Go.Proofs.YtodhkodhndbpmaaGreat
set_option linter.all false
open Go Go.RowKit
def iAt (l : List Int) (r : Nat) : Int := (l[r]?).getD 0
theorem iAt_eq {l : List Int} {r : Nat} (h : r < l.length) : iAt l r = l[r] := by simp [iAt, h]
theorem ext12 {a b : List Int} (ha : a.length = 12) (hb : b.length = 12) (h : ∀ r, r < 12 → iAt a r = iAt b r) : a = b := by
  apply List.ext_getElem?
  intro r
  by_cases hr : r < 12
  · have := h r hr
    rw [iAt_eq (by omega), iAt_eq (by omega)] at this
    rw [List.getElem?_eq_getElem (by omega), List.getElem?_eq_getElem (by omega), this]
  · rw [List.getElem?_eq_none (by omega), List.getElem?_eq_none (by omega)]
def mk12 (f : Nat → Int) : List Int := (List.range 12).map f
theorem mk12_len (f : Nat → Int) : (mk12 f).length = 12 := by simp [mk12]
theorem mk12_at (f : Nat → Int) {r : Nat} (h : r < 12) : iAt (mk12 f) r = f r := by simp [iAt, mk12, h]
theorem mk12_ne (f : Nat → Int) : mk12 f ≠ [] := fun e => by have := mk12_len f; rw [e] at this; cases this
def selfC : List Int := mk12 fun r => (r : Int)
def meetC (a b : List Int) : List Int := mk12 fun r => if iAt a r = iAt b r then iAt a r else (r : Int)
def keptC (q : Qd) (v : List Int) : List Int := mk12 fun r => if (r : Int) = setsOf q ∨ iAt v r = setsOf q then (r : Int) else iAt v r
def behindC (q : Qd) (v : List Int) : List Int := if v = [] then [] else if setsOf q < 0 then v else if q.op = 2 then (keptC q v).set (setsOf q).toNat q.a else keptC q v
def joinC (a b : List Int) : List Int := if a = [] then b else if b = [] then a else meetC a b
def leC (a b : List Int) : Prop := a = [] ∨ (b ≠ [] ∧ ∀ r, r < 12 → iAt b r = (r : Int) ∨ iAt b r = iAt a r)
def okC (v : List Int) : Prop := v = [] ∨ v.length = 12
def cntC (v : List Int) : Nat := ((List.range 12).filter fun r => iAt v r != (r : Int)).length
def htC (v : List Int) : Nat := if v = [] then 13 else cntC v
theorem filter_lt {p q : Nat → Bool} : ∀ {l : List Nat}, (∀ r ∈ l, p r = true → q r = true) → (∃ r ∈ l, q r = true ∧ p r = false) → (l.filter p).length < (l.filter q).length
  | [], _, ⟨r, hr, _⟩ => by cases hr
  | x :: l, h, ⟨r, hr, h1, h2⟩ => by
    have hle : (l.filter p).length ≤ (l.filter q).length := by
      have : ∀ l : List Nat, (∀ r ∈ l, p r = true → q r = true) → (l.filter p).length ≤ (l.filter q).length := by
        intro l
        induction l with
        | nil => intro _; exact Nat.le_refl _
        | cons y l ih =>
          intro h
          have := ih fun r hr => h r (by simp [hr])
          have hy := h y (by simp)
          simp only [List.filter_cons]
          split <;> split <;> simp_all <;> omega
      exact this l fun r hr => h r (by simp [hr])
    have hx := h x (by simp)
    rcases List.mem_cons.1 hr with rfl | hr
    · simp only [List.filter_cons, h1, h2, if_true, List.length_cons]
      simp; omega
    · have ih := filter_lt (l := l) (fun r hr => h r (by simp [hr])) ⟨r, hr, h1, h2⟩
      simp only [List.filter_cons]
      split <;> split <;> simp_all <;> omega
theorem cntC_le (v : List Int) : cntC v ≤ 12 := Nat.le_trans (List.length_filter_le _ _) (by simp)
theorem behindC_len {q : Qd} {v : List Int} (h : okC v) : okC (behindC q v) := by
  unfold behindC
  split
  · exact .inl rfl
  · split
    · exact h
    · split
      · exact .inr (by rw [List.length_set]; exact mk12_len _)
      · exact .inr (mk12_len _)
theorem behindC_ne {q : Qd} {v : List Int} (h : v ≠ []) : behindC q v ≠ [] := by
  unfold behindC
  rw [if_neg h]
  split
  · exact h
  · split
    · intro e
      have : ((keptC q v).set (setsOf q).toNat q.a).length = 12 := by rw [List.length_set]; exact mk12_len _
      rw [e] at this; cases this
    · exact mk12_ne _
theorem iAt_set {l : List Int} {i : Nat} {x : Int} {r : Nat} (hr : r < l.length) : iAt (l.set i x) r = if i = r then x else iAt l r := by
  simp only [iAt, List.getElem?_set]
  split
  · rename_i e; subst e; simp [hr]
  · rfl
theorem behindC_mono {q : Qd} {a b : List Int} (ha : okC a) (hb : okC b) (h : leC a b) : leC (behindC q a) (behindC q b) := by
  rcases h with rfl | ⟨hb0, h⟩
  · exact .inl (by simp [behindC])
  · by_cases ha0 : a = []
    · exact .inl (by simp [behindC, ha0])
    refine .inr ⟨behindC_ne hb0, fun r hr => ?_⟩
    have hk : iAt (keptC q b) r = (r : Int) ∨ iAt (keptC q b) r = iAt (keptC q a) r := by
      simp only [keptC]
      rw [mk12_at _ hr, mk12_at _ hr]
      rcases h r hr with h1 | h1
      · rw [h1]; split <;> exact .inl rfl
      · rw [h1]; exact .inr rfl
    unfold behindC
    rw [if_neg ha0, if_neg hb0]
    split
    · exact h r hr
    · split
      · rw [iAt_set (by rw [keptC, mk12_len]; exact hr), iAt_set (by rw [keptC, mk12_len]; exact hr)]
        split
        · exact .inr rfl
        · exact hk
      · exact hk
def copyF (qs : List Qd) : Fw (List Int) where
  ok := okC
  le := leC
  join := joinC
  edges i v := if v = [] then [] else jn qs i
  tr i v := match qs[i]? with
    | some q => behindC q v
    | none => []
  ht := htC
  refl a := by
    by_cases h : a = []
    · exact .inl h
    · exact .inr ⟨h, fun r _ => .inr rfl⟩
  trans := by
    intro a b c h h'
    rcases h with h | ⟨hb, h⟩
    · exact .inl h
    · rcases h' with h' | ⟨hc, h'⟩
      · exact absurd h' hb
      · refine .inr ⟨hc, fun r hr => ?_⟩
        rcases h' r hr with h1 | h1
        · exact .inl h1
        · rw [h1]; exact h r hr
  anti := by
    intro a b ha hb h h'
    rcases h with rfl | ⟨hb0, h⟩
    · rcases h' with rfl | ⟨h0, _⟩
      · rfl
      · exact absurd rfl h0
    · rcases h' with rfl | ⟨ha0, h'⟩
      · exact absurd rfl hb0
      · refine ext12 (ha.resolve_left ha0) (hb.resolve_left hb0) fun r hr => ?_
        rcases h r hr with h1 | h1
        · rcases h' r hr with h2 | h2
          · rw [h1, h2]
          · exact h2
        · exact h1.symm
  ok_join := by
    intro a b ha hb
    unfold joinC
    split
    · exact hb
    · split
      · exact ha
      · exact .inr (mk12_len _)
  ok_tr := by
    intro i a ha
    show okC (match qs[i]? with | some q => behindC q a | none => [])
    split
    · exact behindC_len ha
    · exact .inl rfl
  join_l := by
    intro a b ha hb
    unfold joinC
    split
    · exact .inl ‹_›
    · split
      · exact .inr ⟨‹_›, fun r _ => .inr rfl⟩
      · refine .inr ⟨mk12_ne _, fun r hr => ?_⟩
        rw [meetC, mk12_at _ hr]
        split
        · exact .inr rfl
        · exact .inl rfl
  join_r := by
    intro a b ha hb
    unfold joinC
    split
    · by_cases h : b = []
      · exact .inl h
      · exact .inr ⟨h, fun r _ => .inr rfl⟩
    · split
      · exact .inl ‹_›
      · refine .inr ⟨mk12_ne _, fun r hr => ?_⟩
        rw [meetC, mk12_at _ hr]
        split
        · exact .inr ‹_›
        · exact .inl rfl
  join_le := by
    intro a b c ha hb hc h h'
    unfold joinC
    split
    · exact h'
    · split
      · exact h
      · rename_i ha0 hb0
        obtain ⟨hc0, h⟩ := h.resolve_left ha0
        obtain ⟨_, h'⟩ := h'.resolve_left hb0
        refine .inr ⟨hc0, fun r hr => ?_⟩
        rw [meetC, mk12_at _ hr]
        rcases h r hr with h1 | h1
        · exact .inl h1
        · rcases h' r hr with h2 | h2
          · exact .inl h2
          · rw [if_pos (by rw [← h1, ← h2])]; exact .inr h1
  mono_tr := by
    intro i a b ha hb h
    show leC (match qs[i]? with | some q => behindC q a | none => []) (match qs[i]? with | some q => behindC q b | none => [])
    split
    · exact behindC_mono ha hb h
    · exact .inl rfl
  mono_ed := by
    intro i j a b ha hb h hj
    rcases h with rfl | ⟨hb0, h⟩
    · simp at hj
    · by_cases ha0 : a = []
      · subst ha0; simp at hj
      · rw [if_neg ha0] at hj; rw [if_neg hb0]; exact hj
  ht_lt := by
    intro a b ha hb h
    unfold joinC at h ⊢
    split at h
    · rename_i ha0
      rw [if_pos ha0]
      have hb0 : b ≠ [] := fun e => h (by rw [e, ha0])
      simp only [htC, ha0, if_true, if_neg hb0]
      have := cntC_le b; omega
    · rename_i ha0
      split at h
      · exact absurd rfl h
      · rename_i hb0
        rw [if_neg ha0, if_neg hb0]
        simp only [htC, if_neg ha0, if_neg (mk12_ne _), meetC]
        refine filter_lt (fun r hr hp => ?_) ?_
        · have hr' := List.mem_range.1 hr
          rw [mk12_at _ hr'] at hp
          split at hp
          · exact hp
          · simp at hp
        · have : ∃ r, r < 12 ∧ iAt (meetC a b) r ≠ iAt a r := by
            refine Classical.byContradiction fun hno => h (ext12 (mk12_len _) (ha.resolve_left ha0) fun r hr => ?_)
            exact Classical.byContradiction fun hne => hno ⟨r, hr, hne⟩
          obtain ⟨r, hr, hne⟩ := this
          rw [meetC, mk12_at _ hr] at hne
          refine ⟨r, List.mem_range.2 hr, ?_, ?_⟩
          · split at hne
            · exact absurd rfl hne
            · simpa using fun e => hne e.symm
          · rw [mk12_at _ hr]
            split at hne
            · exact absurd rfl hne
            · rename_i hc; rw [if_neg hc]; simp
def copies0 (n : Nat) : List (List Int) := selfC :: List.replicate (n - 1) []
theorem copies0_len {n : Nat} (h : 1 ≤ n) : (copies0 n).length = n := by simp [copies0]; omega
theorem copies0_ok (qs : List Qd) (n : Nat) : (copyF qs).Oks (copies0 n) := fun i v h => by
  cases i with
  | zero => simp [copies0] at h; subst h; exact .inr (mk12_len _)
  | succ i =>
    simp only [copies0, List.getElem?_cons_succ, List.getElem?_replicate] at h
    split at h
    · obtain rfl := Option.some.inj h; exact .inl rfl
    · cases h
/-- Unknown: every register is itself. -/
def shown (v : List Int) : List Int := if v = [] then selfC else v
noncomputable def copiesL (qs : List Qd) : List (List Int) := (copyF qs).sol (copies0 qs.length)
noncomputable def copiesOf (qs : List Qd) : List (List Int) := if codeValid qs then (copiesL qs).map shown else []
end Go.Proofs.YtodhkodhndbpmaaGreat
namespace Go.Proofs.YtodhkodhndbpmaaGreat
set_option linter.all false
open Go Go.RowKit
def anyF : Fc := ⟨2, 0⟩
def noneF : Fc := ⟨0, 0⟩
def fAt (l : List Fc) (r : Nat) : Fc := (l[r]?).getD anyF
theorem fAt_eq {l : List Fc} {r : Nat} (h : r < l.length) : fAt l r = l[r] := by simp [fAt, h]
theorem extF {a b : List Fc} (ha : a.length = 12) (hb : b.length = 12) (h : ∀ r, r < 12 → fAt a r = fAt b r) : a = b := by
  apply List.ext_getElem?
  intro r
  by_cases hr : r < 12
  · have := h r hr
    rw [fAt_eq (by omega), fAt_eq (by omega)] at this
    rw [List.getElem?_eq_getElem (by omega), List.getElem?_eq_getElem (by omega), this]
  · rw [List.getElem?_eq_none (by omega), List.getElem?_eq_none (by omega)]
def mkF (f : Nat → Fc) : List Fc := (List.range 12).map f
theorem mkF_len (f : Nat → Fc) : (mkF f).length = 12 := by simp [mkF]
theorem mkF_at (f : Nat → Fc) {r : Nat} (h : r < 12) : fAt (mkF f) r = f r := by simp [fAt, mkF, h]
def botF : List Fc := mkF fun _ => noneF
/-- A fact of a register at a place that is reached. -/
def goodF (f : Fc) : Prop := (f.kind = 1 ∧ wordI f.n) ∨ f = anyF
def okF (v : List Fc) : Prop := v = botF ∨ (v.length = 12 ∧ ∀ r, r < 12 → goodF (fAt v r))
theorem good_ne {f : Fc} (h : goodF f) : f.kind ≠ 0 := by
  rcases h with ⟨h, _⟩ | rfl
  · omega
  · decide
theorem okF_ne {v : List Fc} (h : okF v) (hv : v ≠ botF) : v.length = 12 ∧ ∀ r, r < 12 → goodF (fAt v r) := h.resolve_left hv
theorem okF_len {v : List Fc} (h : okF v) : v.length = 12 := by
  rcases h with rfl | h
  · exact mkF_len _
  · exact h.1
theorem ne_bot {v : List Fc} (h : goodF (fAt v 0)) : v ≠ botF := fun e => by
  rw [e, botF, mkF_at _ (by omega)] at h
  exact good_ne h rfl
/-- Unreached places are told by their first fact. -/
theorem bot_iff {v : List Fc} (h : okF v) : v = botF ↔ (fAt v 0).kind = 0 := by
  constructor
  · rintro rfl; rw [botF, mkF_at _ (by omega)]; rfl
  · intro h0
    refine h.resolve_right fun h' => ?_
    exact good_ne (h'.2 0 (by omega)) h0
def constF (n : Int) : Fc := if wordValid n = true then ⟨1, n⟩ else anyF
theorem constF_good (n : Int) : goodF (constF n) := by
  unfold constF
  split
  · exact .inl ⟨rfl, (wordI_iff n).1 ‹_›⟩
  · exact .inr rfl
def valueF (q : Qd) (v : List Fc) : Fc :=
  if q.op = 1 then constF q.n
  else if q.op = 2 then fAt v q.a.toNat
  else if q.op = 3 then (if (fAt v q.a.toNat).kind = 1 ∧ (fAt v q.b.toNat).kind = 1 then constF (applyN q.n (fAt v q.a.toNat).n (fAt v q.b.toNat).n) else anyF)
  else anyF
def behindF (q : Qd) (v : List Fc) : List Fc := if v = botF then botF else if setsOf q < 0 then v else v.set (setsOf q).toNat (valueF q v)
def joinR (f g : Fc) : Fc := if f.kind = 0 ∨ f = g then g else if g.kind = 0 then f else anyF
def joinFs (a b : List Fc) : List Fc := mkF fun r => joinR (fAt a r) (fAt b r)
def leF (a b : List Fc) : Prop := a = botF ∨ (b ≠ botF ∧ ∀ r, r < 12 → fAt b r = anyF ∨ fAt b r = fAt a r)
def htF (v : List Fc) : Nat := if v = botF then 13 else ((List.range 12).filter fun r => decide (fAt v r ≠ anyF)).length
theorem fAt_ge {v : List Fc} {r : Nat} (h : v.length = 12) (hr : ¬ r < 12) : fAt v r = anyF := by
  unfold fAt; rw [List.getElem?_eq_none (by omega)]; rfl
theorem fAt_good {v : List Fc} (h : v.length = 12 ∧ ∀ r, r < 12 → goodF (fAt v r)) (r : Nat) : goodF (fAt v r) := by
  by_cases hr : r < 12
  · exact h.2 r hr
  · rw [fAt_ge h.1 hr]; exact .inr rfl
theorem valueF_good {q : Qd} {v : List Fc} (h : v.length = 12 ∧ ∀ r, r < 12 → goodF (fAt v r)) : goodF (valueF q v) := by
  unfold valueF
  split
  · exact constF_good _
  · split
    · exact fAt_good h _
    · split
      · split
        · exact constF_good _
        · exact .inr rfl
      · exact .inr rfl
theorem fAt_set {l : List Fc} {i : Nat} {x : Fc} {r : Nat} (hr : r < l.length) : fAt (l.set i x) r = if i = r then x else fAt l r := by
  simp only [fAt, List.getElem?_set]
  split
  · rename_i e; subst e; simp [hr]
  · rfl
theorem behindF_ok {q : Qd} {v : List Fc} (h : okF v) : okF (behindF q v) := by
  unfold behindF
  split
  · exact .inl rfl
  · rename_i hv
    split
    · exact h
    · have hv' := okF_ne h hv
      refine .inr ⟨by rw [List.length_set]; exact hv'.1, fun r hr => ?_⟩
      rw [fAt_set (by rw [hv'.1]; exact hr)]
      split
      · exact valueF_good hv'
      · exact hv'.2 r hr
theorem behindF_ne {q : Qd} {v : List Fc} (h : okF v) (hv : v ≠ botF) : behindF q v ≠ botF := by
  have hok := behindF_ok (q := q) h
  unfold behindF at hok ⊢
  rw [if_neg hv] at hok ⊢
  split
  · exact hv
  · have hv' := okF_ne h hv
    refine ne_bot ?_
    rw [fAt_set (by rw [hv'.1]; omega)]
    split
    · exact valueF_good hv'
    · exact hv'.2 0 (by omega)
theorem valueF_mono {q : Qd} {a b : List Fc} (ha : a.length = 12) (hb : b.length = 12) (h : ∀ r, r < 12 → fAt b r = anyF ∨ fAt b r = fAt a r) : valueF q b = anyF ∨ valueF q b = valueF q a := by
  have h' : ∀ r, fAt b r = anyF ∨ fAt b r = fAt a r := fun r => by
    by_cases hr : r < 12
    · exact h r hr
    · exact .inl (fAt_ge hb hr)
  unfold valueF
  split
  · exact .inr rfl
  · split
    · exact h' _
    · split
      · by_cases hk : (fAt b q.a.toNat).kind = 1 ∧ (fAt b q.b.toNat).kind = 1
        · have e1 := (h' q.a.toNat).resolve_left fun e => by rw [e] at hk; exact absurd hk.1 (by decide)
          have e2 := (h' q.b.toNat).resolve_left fun e => by rw [e] at hk; exact absurd hk.2 (by decide)
          rw [e1, e2]; exact .inr rfl
        · rw [if_neg hk]; exact .inl rfl
      · exact .inr rfl
theorem behindF_mono {q : Qd} {a b : List Fc} (ha : okF a) (hb : okF b) (h : leF a b) : leF (behindF q a) (behindF q b) := by
  rcases h with rfl | ⟨hb0, h⟩
  · exact .inl (by simp [behindF])
  · by_cases ha0 : a = botF
    · exact .inl (by simp [behindF, ha0])
    refine .inr ⟨behindF_ne hb hb0, fun r hr => ?_⟩
    have la := okF_len ha
    have lb := okF_len hb
    unfold behindF
    rw [if_neg ha0, if_neg hb0]
    split
    · exact h r hr
    · rw [fAt_set (by omega), fAt_set (by omega)]
      split
      · exact valueF_mono la lb h
      · exact h r hr
theorem joinR_good {f g : Fc} (hf : goodF f) (hg : goodF g) : joinR f g = if f = g then f else anyF := by
  unfold joinR
  have h1 := good_ne hf
  have h2 := good_ne hg
  by_cases h : f = g
  · rw [if_pos (.inr h), if_pos h, h]
  · rw [if_neg (fun e => e.elim h1 h), if_neg h2, if_neg h]
theorem joinR_none (g : Fc) : joinR noneF g = g := by unfold joinR; rw [if_pos (.inl rfl)]
theorem joinR_none' {f : Fc} (hf : goodF f) : joinR f noneF = f := by
  unfold joinR
  have h1 := good_ne hf
  by_cases h : f = noneF
  · rw [h] at h1; exact absurd rfl h1
  · rw [if_neg (fun e => e.elim h1 h), if_pos (show noneF.kind = 0 from rfl)]
theorem joinFs_bot {b : List Fc} (hb : b.length = 12) : joinFs botF b = b := extF (mkF_len _) hb fun r hr => by rw [joinFs, mkF_at _ hr, botF, mkF_at _ hr, joinR_none]
theorem joinFs_bot' {a : List Fc} (ha : okF a) : joinFs a botF = a := by
  by_cases ha0 : a = botF
  · rw [ha0]; exact joinFs_bot (b := botF) (mkF_len _)
  · have ha' := okF_ne ha ha0
    exact extF (mkF_len _) ha'.1 fun r hr => by rw [joinFs, mkF_at _ hr, botF, mkF_at _ hr, joinR_none' (ha'.2 r hr)]
theorem joinFs_at {a b : List Fc} (ha : okF a) (hb : okF b) (ha0 : a ≠ botF) (hb0 : b ≠ botF) {r : Nat} (hr : r < 12) : fAt (joinFs a b) r = if fAt a r = fAt b r then fAt a r else anyF := by
  rw [joinFs, mkF_at _ hr, joinR_good ((okF_ne ha ha0).2 r hr) ((okF_ne hb hb0).2 r hr)]
theorem joinFs_ok {a b : List Fc} (ha : okF a) (hb : okF b) : okF (joinFs a b) := by
  by_cases ha0 : a = botF
  · rw [ha0, joinFs_bot (okF_len hb)]; exact hb
  · by_cases hb0 : b = botF
    · rw [hb0, joinFs_bot' ha]; exact ha
    · refine .inr ⟨mkF_len _, fun r hr => ?_⟩
      rw [joinFs_at ha hb ha0 hb0 hr]
      split
      · exact (okF_ne ha ha0).2 r hr
      · exact .inr rfl
theorem joinFs_ne {a b : List Fc} (ha : okF a) (hb : okF b) (ha0 : a ≠ botF) (hb0 : b ≠ botF) : joinFs a b ≠ botF := by
  refine ne_bot ?_
  rw [joinFs_at ha hb ha0 hb0 (by omega)]
  split
  · exact (okF_ne ha ha0).2 0 (by omega)
  · exact .inr rfl
def edgesF (qs : List Qd) (i : Nat) (v : List Fc) : List Int := match qs[i]? with
  | some q => if q.op = 5 ∧ (fAt v q.a.toNat).kind = 1 then (if (fAt v q.a.toNat).n = 0 then [q.n] else [(i : Int) + 1]) else nextL q i
  | none => []
def factF (qs : List Qd) : Fw (List Fc) where
  ok := okF
  le := leF
  join := joinFs
  edges i v := if v = botF then [] else (edgesF qs i v).map Int.toNat
  tr i v := match qs[i]? with
    | some q => behindF q v
    | none => botF
  ht := htF
  refl a := by
    by_cases h : a = botF
    · exact .inl h
    · exact .inr ⟨h, fun r _ => .inr rfl⟩
  trans := by
    intro a b c h h'
    rcases h with h | ⟨hb, h⟩
    · exact .inl h
    · rcases h' with h' | ⟨hc, h'⟩
      · exact absurd h' hb
      · refine .inr ⟨hc, fun r hr => ?_⟩
        rcases h' r hr with h1 | h1
        · exact .inl h1
        · rw [h1]; exact h r hr
  anti := by
    intro a b ha hb h h'
    rcases h with rfl | ⟨hb0, h⟩
    · rcases h' with rfl | ⟨h0, _⟩
      · rfl
      · exact absurd rfl h0
    · rcases h' with rfl | ⟨ha0, h'⟩
      · exact absurd rfl hb0
      · refine extF (okF_len ha) (okF_len hb) fun r hr => ?_
        rcases h r hr with h1 | h1
        · rcases h' r hr with h2 | h2
          · rw [h1, h2]
          · exact h2
        · exact h1.symm
  ok_join := joinFs_ok
  ok_tr := by
    intro i a ha
    show okF (match qs[i]? with | some q => behindF q a | none => botF)
    split
    · exact behindF_ok ha
    · exact .inl rfl
  join_l := by
    intro a b ha hb
    by_cases ha0 : a = botF
    · exact .inl ha0
    · by_cases hb0 : b = botF
      · rw [hb0, joinFs_bot' ha]; exact .inr ⟨ha0, fun r _ => .inr rfl⟩
      · refine .inr ⟨joinFs_ne ha hb ha0 hb0, fun r hr => ?_⟩
        rw [joinFs_at ha hb ha0 hb0 hr]
        split
        · exact .inr rfl
        · exact .inl rfl
  join_r := by
    intro a b ha hb
    by_cases hb0 : b = botF
    · exact .inl hb0
    · by_cases ha0 : a = botF
      · rw [ha0, joinFs_bot (okF_len hb)]; exact .inr ⟨hb0, fun r _ => .inr rfl⟩
      · refine .inr ⟨joinFs_ne ha hb ha0 hb0, fun r hr => ?_⟩
        rw [joinFs_at ha hb ha0 hb0 hr]
        split
        · exact .inr ‹_›
        · exact .inl rfl
  join_le := by
    intro a b c ha hb hc h h'
    by_cases ha0 : a = botF
    · rw [ha0, joinFs_bot (okF_len hb)]; exact h'
    · by_cases hb0 : b = botF
      · rw [hb0, joinFs_bot' ha]; exact h
      · obtain ⟨hc0, h⟩ := h.resolve_left ha0
        obtain ⟨_, h'⟩ := h'.resolve_left hb0
        refine .inr ⟨hc0, fun r hr => ?_⟩
        rw [joinFs_at ha hb ha0 hb0 hr]
        rcases h r hr with h1 | h1
        · exact .inl h1
        · rcases h' r hr with h2 | h2
          · exact .inl h2
          · rw [if_pos (by rw [← h1, ← h2])]; exact .inr h1
  mono_tr := by
    intro i a b ha hb h
    show leF (match qs[i]? with | some q => behindF q a | none => botF) (match qs[i]? with | some q => behindF q b | none => botF)
    split
    · exact behindF_mono ha hb h
    · exact .inl rfl
  mono_ed := by
    intro i j a b ha hb h hj
    rcases h with rfl | ⟨hb0, h⟩
    · simp at hj
    · by_cases ha0 : a = botF
      · subst ha0; simp at hj
      · rw [if_neg ha0] at hj; rw [if_neg hb0]
        unfold edgesF at hj ⊢
        cases hq : qs[i]? with
        | none => rw [hq] at hj; simpa using hj
        | some q =>
          rw [hq] at hj
          simp only at hj ⊢
          have h' : fAt b q.a.toNat = anyF ∨ fAt b q.a.toNat = fAt a q.a.toNat := by
            by_cases hr : q.a.toNat < 12
            · exact h _ hr
            · exact .inl (fAt_ge (okF_len hb) hr)
          rcases h' with h' | h'
          · rw [if_neg (c := q.op = 5 ∧ (fAt b q.a.toNat).kind = 1) (fun e => by rw [h'] at e; exact absurd e.2 (by decide))]
            by_cases hc : q.op = 5 ∧ (fAt a q.a.toNat).kind = 1
            · rw [if_pos hc] at hj
              have h5 := hc.1
              simp only [nextL, h5, Int.reduceEq, if_false, true_and]
              split at hj
              · simp only [List.map_cons, List.map_nil, List.mem_singleton] at hj
                subst hj
                split
                · simp
                · split
                  · simp
                  · have : q.n = (i : Int) + 1 := by omega
                    simp [this]
              · simp only [List.map_cons, List.map_nil, List.mem_singleton] at hj
                subst hj
                split
                · simp
                · split <;> simp
            · rw [if_neg hc] at hj; exact hj
          · rw [h']; exact hj
  ht_lt := by
    intro a b ha hb h
    by_cases ha0 : a = botF
    · rw [ha0, joinFs_bot (okF_len hb)] at h ⊢
      simp only [htF, if_true, if_neg h]
      have : ((List.range 12).filter fun r => decide (fAt b r ≠ anyF)).length ≤ 12 := Nat.le_trans (List.length_filter_le _ _) (by simp)
      omega
    · by_cases hb0 : b = botF
      · rw [hb0, joinFs_bot' ha] at h; exact absurd rfl h
      · simp only [htF, if_neg ha0, if_neg (joinFs_ne ha hb ha0 hb0)]
        refine filter_lt (fun r hr hp => ?_) ?_
        · have hr' := List.mem_range.1 hr
          rw [joinFs_at ha hb ha0 hb0 hr'] at hp
          split at hp
          · exact hp
          · simp at hp
        · have : ∃ r, r < 12 ∧ fAt (joinFs a b) r ≠ fAt a r := by
            refine Classical.byContradiction fun hno => h (extF (mkF_len _) (okF_len ha) fun r hr => ?_)
            exact Classical.byContradiction fun hne => hno ⟨r, hr, hne⟩
          obtain ⟨r, hr, hne⟩ := this
          rw [joinFs_at ha hb ha0 hb0 hr] at hne
          refine ⟨r, List.mem_range.2 hr, ?_, ?_⟩
          · split at hne
            · exact absurd rfl hne
            · simpa using fun e => hne e.symm
          · rw [joinFs_at ha hb ha0 hb0 hr]
            split at hne
            · exact absurd rfl hne
            · rename_i hc; rw [if_neg hc]; simp
def zeroF : List Fc := mkF fun _ => ⟨1, 0⟩
theorem zeroF_ok : okF zeroF := .inr ⟨mkF_len _, fun r hr => by rw [zeroF, mkF_at _ hr]; exact .inl ⟨rfl, by constructor <;> decide⟩⟩
def facts0 (n : Nat) : List (List Fc) := zeroF :: List.replicate (n - 1) botF
theorem facts0_len {n : Nat} (h : 1 ≤ n) : (facts0 n).length = n := by simp [facts0]; omega
theorem facts0_ok (qs : List Qd) (n : Nat) : (factF qs).Oks (facts0 n) := fun i v h => by
  cases i with
  | zero => simp [facts0] at h; subst h; exact zeroF_ok
  | succ i =>
    simp only [facts0, List.getElem?_cons_succ, List.getElem?_replicate] at h
    split at h
    · obtain rfl := Option.some.inj h; exact .inl rfl
    · cases h
noncomputable def factsL (qs : List Qd) : List (List Fc) := (factF qs).sol (facts0 qs.length)
noncomputable def factsOf (qs : List Qd) : List (List Fc) := if codeValid qs then factsL qs else []
end Go.Proofs.YtodhkodhndbpmaaGreat
namespace Go.Proofs.YtodhkodhndbpmaaGreat
set_option linter.all false
open Go Go.RowKit
section
variable {P : Program} {w : World}
end
section
variable {α : Type} {f : α → List Value} {w : Nat}
theorem flat_len : ∀ {L : List α}, (∀ a ∈ L, (f a).length = w) → (L.flatMap f).length = L.length * w
  | [], _ => by simp
  | a :: L, h => by
    have := flat_len (L := L) fun b hb => h b (by simp [hb])
    rw [List.flatMap_cons, List.length_append, this, h a (by simp), List.length_cons, Nat.add_mul]; omega
theorem flat_at : ∀ {L : List α}, (∀ a ∈ L, (f a).length = w) → ∀ {i : Nat} (hi : i < L.length) (j : Nat), j < w → (L.flatMap f)[i * w + j]? = (f L[i])[j]?
  | [], _, i, hi, _, _ => by cases hi
  | a :: L, h, i, hi, j, hj => by
    rw [List.flatMap_cons, List.getElem?_append, h a (by simp)]
    cases i with
    | zero => rw [Nat.zero_mul, Nat.zero_add, if_pos hj]; rfl
    | succ i =>
      rw [if_neg (by rw [Nat.add_mul]; omega), show (i + 1) * w + j - w = i * w + j by rw [Nat.add_mul]; omega]
      exact flat_at (fun b hb => h b (by simp [hb])) (by simpa using hi) j hj
theorem flat_setR {L : List α} (h : ∀ a ∈ L, (f a).length = w) {i : Nat} (hi : i < L.length) {v : α} (hv : (f v).length = w) : setR (L.flatMap f) (i * w) (f v) = (L.set i v).flatMap f := by
  have hL : ∀ a ∈ L.set i v, (f a).length = w := fun a ha => (List.mem_or_eq_of_mem_set ha).elim (h a) fun e => e ▸ hv
  have hb : i * w + w ≤ L.length * w := by
    have := Nat.mul_le_mul_right w (show i + 1 ≤ L.length from hi)
    rwa [Nat.add_mul, Nat.one_mul] at this
  apply List.ext_getElem?
  intro j
  rw [getElem?_setR _ _ _ _ (by rw [hv, flat_len h]; exact hb), hv]
  by_cases hw : w = 0
  · subst hw
    rw [if_neg (by omega)]
    rw [List.getElem?_eq_none (by rw [flat_len h]; omega), List.getElem?_eq_none (by rw [flat_len hL]; omega)]
  by_cases hj : j < L.length * w
  · have hdm : j / w * w + j % w = j := by rw [Nat.mul_comm]; exact Nat.div_add_mod j w
    have hm : j % w < w := Nat.mod_lt _ (by omega)
    have hd : j / w < L.length := (Nat.div_lt_iff_lt_mul (by omega)).2 hj
    have e1 := flat_at hL (i := j / w) (by rw [List.length_set]; exact hd) (j % w) hm
    rw [hdm] at e1
    rw [e1, List.getElem_set]
    by_cases hji : i = j / w
    · rw [if_pos hji, if_pos (by rw [hji]; omega)]
      congr 1; rw [hji]; omega
    · rw [if_neg hji]
      have e2 := flat_at h (i := j / w) hd (j % w) hm
      rw [hdm] at e2
      rw [if_neg ?_, e2]
      intro hc
      exact hji ((Nat.div_eq_of_lt_le (by omega) (by rw [Nat.add_mul]; omega)).symm)
  · rw [if_neg (by omega), List.getElem?_eq_none (by rw [flat_len h]; omega), List.getElem?_eq_none (by rw [flat_len hL, List.length_set]; omega)]
end
section
variable {H : AHeap} {b n : Nat} {k : Blk} {A : Option Addr}
theorem rdn_same (hl : n ≤ k.cells.length) : (H.set b k).rdn (some ⟨b, 0, none⟩) n = some (k.cells.take n) := by
  refine rdn_of (by rw [List.length_take]; omega) fun j v hj => ?_
  rw [List.getElem?_take] at hj
  split at hj
  · rw [adr_lit, Nat.zero_add, cell_same]; exact hj
  · cases hj
theorem rdn_old (hb : H b = none) (h : (H.rdn A n).isSome = true) : (H.set b k).rdn A n = H.rdn A n := by
  obtain ⟨l, hl⟩ := Option.isSome_iff_exists.1 h
  rw [hl]
  exact ((AHeap.le.refl H).fresh hb k).rdn hl
theorem Kn.rdn {C : AHeap} {l : List Value} (h : Kn C b k) {o : Nat} (hl : ∀ j, j < l.length → k.cells[o + j]? = l[j]?) : C.rdn (some ⟨b, o, none⟩) l.length = some l := by
  refine rdn_of rfl fun j v hj => ?_
  have := (List.getElem?_eq_some_iff.1 hj).1
  rw [adr_lit]
  exact h.cell (by rw [hl j this]; exact hj)
theorem Fl.rdn {C : AHeap} {vs l : List Value} (h : Fl C A vs) {o : Nat} (hl : ∀ j, j < l.length → vs[o + j]? = l[j]?) : C.rdn (adr A o) l.length = some l := by
  refine rdn_of rfl fun j v hj => ?_
  have := (List.getElem?_eq_some_iff.1 hj).1
  rw [adr_adr]
  exact h (o + j) v (by rw [hl j this]; exact hj)
theorem Fl.rdq {C : AHeap} {qs : List Qd} (h : Fl C A (qcells qs)) {i : Nat} (hi : i < qs.length) : C.rdn (adr A (i * 5)) 5 = some qs[i].cells :=
  h.rdn (l := qs[i].cells) fun j hj => qcells_at hi j hj
end
theorem zGp : (type_of% @st_known) ∧ (type_of% @cell_old) ∧ (type_of% @set_mid) ∧ (type_of% @rdn_same) ∧ (type_of% @rdn_old) ∧ (type_of% @List.take_succ_cons.{0}) ∧ (type_of% @List.take_zero.{0}) := ⟨@st_known, @cell_old, @set_mid, @rdn_same, @rdn_old, @List.take_succ_cons.{0}, @List.take_zero.{0}⟩
end Go.Proofs.YtodhkodhndbpmaaGreat
namespace Go.Proofs.YtodhkodhndbpmaaGreat
set_option linter.all false
open Go Go.RowKit
set_option maxRecDepth 100000
variable (w0 : World) (H : AHeap) (K : Value → AHeap → Prop)
theorem fcells_at {fs : List Fc} {k : Nat} (h : k < fs.length) (j : Nat) (hj : j < 2) : (fcells fs)[k * 2 + j]? = fs[k].cells[j]? := flat_at (w := 2) (f := fun f : Fc => f.cells) (fun _ _ => rfl) h j hj
theorem fcells_set {fs : List Fc} {k : Nat} (h : k < fs.length) (f : Fc) : setR (fcells fs) (k * 2) f.cells = fcells (fs.set k f) := flat_setR (w := 2) (f := fun f : Fc => f.cells) (fun _ _ => rfl) h rfl
theorem f_val (f : Fc) : f.val = .agg #[.int .i64 f.kind, .int .i64 f.n] := rfl
theorem Fl.fact {H : AHeap} {A : Option Addr} {fs : List Fc} (h : Fl H A (fcells fs)) {k : Nat} (hk : k < fs.length) : A.isSome = true ∧ H.cell (adr A (k * 2)) = some (.int .i64 fs[k].kind) ∧ H.cell (adr A (k * 2 + 1)) = some (.int .i64 fs[k].n) := by
  have e0 : (fcells fs)[k * 2]? = some (.int .i64 fs[k].kind) := fcells_at hk 0 (by omega)
  have e1 : (fcells fs)[k * 2 + 1]? = some (.int .i64 fs[k].n) := fcells_at hk 1 (by omega)
  exact ⟨h.is (i := k * 2) (by rw [fcells_len]; omega), h _ _ e0, h _ _ e1⟩
theorem Fl.rdf {C : AHeap} {A : Option Addr} {fs : List Fc} (h : Fl C A (fcells fs)) {i : Nat} (hi : i < fs.length) : C.rdn (adr A (i * 2)) 2 = some fs[i].cells :=
  h.rdn (l := fs[i].cells) fun j hj => fcells_at hi j hj
theorem Kn.fact {C : AHeap} {b : Nat} {fs : List Fc} {o : Bool} {t : TypeId} {c : Nat} (h : Kn C b ⟨fcells fs, o, t, c⟩) {i : Nat} (hi : i < fs.length) :
    C.rdn (some ⟨b, i * 2, none⟩) 2 = some fs[i].cells ∧ C.cell (some ⟨b, i * 2, none⟩) = some (.int .i64 fs[i].kind) ∧ C.cell (some ⟨b, i * 2 + 1, none⟩) = some (.int .i64 fs[i].n) :=
  ⟨h.rdn (l := fs[i].cells) fun j hj => fcells_at hi j hj, h.cell (fcells_at hi 0 (by omega)), h.cell (fcells_at hi 1 (by omega))⟩
theorem fcells_oc (l : List Fc) : ∀ v ∈ fcells l, v.oneCell' = true := by
  intro v hv
  obtain ⟨f, _, hf⟩ := List.mem_flatMap.1 hv
  simp at hf
  rcases hf with rfl | rfl <;> rfl
end Go.Proofs.YtodhkodhndbpmaaGreat
namespace Go.Proofs.YtodhkodhndbpmaaGreat
set_option linter.all false
open Go Go.RowKit
set_option maxRecDepth 100000
variable (w0 : World) (H : AHeap) (K : Value → AHeap → Prop)
def usesN (q : Qd) : Nat := if q.op = 2 ∨ q.op = 5 ∨ q.op = 6 ∨ q.op = 9 then 2 ^ q.a.toNat else if q.op = 3 then 2 ^ q.a.toNat ||| 2 ^ q.b.toNat else 0
theorem pow12 {r : Int} (h : 0 ≤ r ∧ r < 12) : 2 ^ r.toNat < 4096 := by
  have h2 : r.toNat < 12 := by omega
  exact Nat.pow_lt_pow_right (by omega) (show r.toNat < 12 from h2)
def usesL (q : Qd) : List Int := if q.op = 2 ∨ q.op = 5 ∨ q.op = 6 ∨ q.op = 9 then [q.a] else if q.op = 3 then (if q.a = q.b then [q.a] else [if q.b < q.a then q.b else q.a, if q.b > q.a then q.b else q.a]) else []
def quadUses (q : Qd) : List Int := if quadValid q 600 then usesL q else []
theorem valid_regs {q : Qd} {m : Int} (h : quadValid q m = true) : (0 ≤ q.a ∧ q.a < 12) ∧ (0 ≤ q.b ∧ q.b < 12) := by
  simp only [quadValid, isReg, wordValid, opValid] at h
  repeat' split at h
  all_goals (try simp only [Bool.and_eq_true, decide_eq_true_eq, beq_iff_eq] at h)
  all_goals first | omega | (cases h)
theorem quadUsesS_ok (q : Qd) (h : ∀ v H', Own H 3 1 v (quadUses q).length (ints (quadUses q)) H' → K v H') : ACalls Tryz.prog w0 119 [q.val] H K := by
  refine acalls_of_sx mix Tryz.func119 of119 (by simp [ir119]) ?_; rw [ir119]; (try delta qT qI qC qO qM qG)
  repeat' (first | simp -implicitDefEqProofs only [zG1,zG2,zG3,zG4,zG5,zG6,zG7,eq_self,resV,rval,X.val,binv,fillL,setR,↓reduceIte,Nat.reduceEqDiff,Nat.reduceAdd,Nat.reduceMul,Nat.reduceLeDiff,Nat.reduceLT,Nat.reduceSub,reduceCtorEq,zGr, q_val] | ((with_reducible refine rows_intro (fun _ hb => ?_)); try simp only [set_none, ne_eq] at hb) | ((with_reducible refine new_intro (fun _ hb => ?_)); try simp only [set_none, ne_eq] at hb) | (with_reducible refine draw_same ?_) | ((with_reducible refine gd_split ?_ (fun _ => ?_) (fun _ => ?_)); exact rfl) | ((with_reducible refine td_split ?_ (fun _ => ?_) (fun _ => ?_)); exact rfl) | (with_reducible refine c_split (fun _ => ?_) (fun _ => ?_)) | (with_reducible refine quadValidS_ok _ _ _ _ _ ?_))
  all_goals (try simp only [beq_iff_eq, beq_eq_false_iff_ne, bne_iff_ne, bne_eq_false_iff_eq, decide_eq_true_eq, decide_eq_false_iff_not, ne_eq, Bool.not_eq_true, Bool.not_eq_false, Bool.not_eq_eq_eq_not, Bool.not_true, Bool.not_false, Int.not_lt, Int.not_le, ge_iff_le, gt_iff_lt] at *)
  all_goals (refine ret_own h ((AHeap.le.refl H).fresh ‹H _ = none› _) (by exact hb.2) ?_ ?_ ?_ ?_ ?_ ?_)
  all_goals (try simp only [maxLen])
  all_goals ((try simp only [quadUses, usesL]); grind [ints])
end Go.Proofs.YtodhkodhndbpmaaGreat
namespace Go.Proofs.YtodhkodhndbpmaaGreat
set_option linter.all false
open Go Go.RowKit
set_option maxRecDepth 100000
variable (w0 : World) (H : AHeap) (K : Value → AHeap → Prop)
theorem flatFact : flatInts Tryz.prog 102 2 = true := by kernel_rfl
theorem eqsK_fc {ng : Bool} {p q : Fc} {C : Value → Prop} (hC : C (.bool (ng != decide (p = q)))) :
    eqsK Tryz.prog ng 102 (.agg #[.int .i64 p.kind, .int .i64 p.n]) (.agg #[.int .i64 q.kind, .int .i64 q.n]) C := by
  refine eqsK_ints (xs := [.int .i64 p.kind, .int .i64 p.n]) (ys := [.int .i64 q.kind, .int .i64 q.n]) flatFact (fun i hi => ?_) ?_
  · match i, hi with
    | 0, _ => exact ⟨_, _, _, rfl, rfl⟩
    | 1, _ => exact ⟨_, _, _, rfl, rfl⟩
  · have e : ((List.range 2).all fun i => intAt [.int .i64 p.kind, .int .i64 p.n] i == intAt [.int .i64 q.kind, .int .i64 q.n] i) = decide (p = q) := by
      rw [Bool.eq_iff_iff]
      cases p; cases q
      simp [List.range_succ, intAt]
    rw [e]; exact hC
theorem rdf1 {C : AHeap} {b : Nat} {f : Fc} {o : Bool} {t : TypeId} {c : Nat} (h : Kn C b ⟨f.cells, o, t, c⟩) : C.rdn (some ⟨b, 0, none⟩) 2 = some f.cells := h.rdn (l := f.cells) (o := 0) fun j _ => by rw [Nat.zero_add]
theorem stf1 {C : AHeap} {b c : Nat} {f g : Fc} {t : TypeId} {D : Value → AHeap → Prop} (h : Kn C b ⟨f.cells, true, t, c⟩) (hD : ∀ C', Chg C C' [b] → Kn C' b ⟨g.cells, true, t, c⟩ → D undef C') :
    stK 2 (.pointer (some ⟨b, 0, none⟩)) (.agg #[.int .i64 g.kind, .int .i64 g.n]) D C :=
  st_kn h rfl rfl (by simp) (by simp [vcA, Value.oneCell']) fun C' hc ho k => hD C' hc k
theorem sets_lt2 {q : Qd} {m : Int} (h : quadValid q m = true) : setsOf q < 12 := by
  simp only [setsOf]
  split
  · rename_i ho
    rcases ho with ho | ho | ho | ho <;> simp only [quadValid, ho] at h <;> simp [isReg] at h <;> omega
  · omega
end Go.Proofs.YtodhkodhndbpmaaGreat
namespace Go.Proofs.YtodhkodhndbpmaaGreat
set_option linter.all false
open Go Go.RowKit
set_option maxRecDepth 100000
variable (w0 : World) (H : AHeap) (K : Value → AHeap → Prop)
def edgesQ (q : Qd) (i : Int) (v : List Fc) : List Int := if q.op = 5 ∧ (fAt v q.a.toNat).kind = 1 then (if (fAt v q.a.toNat).n = 0 then [q.n] else [i + 1]) else nextL q i
theorem edgesF_eq {qs : List Qd} {i : Nat} (h : i < qs.length) (v : List Fc) : edgesF qs i v = edgesQ qs[i] i v := by simp [edgesF, edgesQ, h]
theorem edgesQ_le (q : Qd) (i : Int) (v : List Fc) : (edgesQ q i v).length ≤ 2 := by
  unfold edgesQ
  split
  · split <;> simp
  · exact nextL_le q i
end Go.Proofs.YtodhkodhndbpmaaGreat
namespace Go.Proofs.YtodhkodhndbpmaaGreat
set_option linter.all false
open Go Go.RowKit
set_option maxRecDepth 100000
variable (w0 : World) (H : AHeap) (K : Value → AHeap → Prop)
theorem l33Join_ok (p q : Fc) (h : K (joinR p q).val H) : ACalls Tryz.prog w0 116 [p.val, q.val] H K := by
  refine acalls_of_sx mix Tryz.func116 of116 (by simp [ir116]) ?_; rw [ir116]; (try delta qT qI qC qO qM qG)
  repeat' (first | simp -implicitDefEqProofs only [zG1,zG2,zG3,zG4,zG5,zG6,zG7,eq_self,resV,rval,X.val,binv,fillL,setR,↓reduceIte,Nat.reduceEqDiff,Nat.reduceAdd,Nat.reduceMul,Nat.reduceLeDiff,Nat.reduceLT,Nat.reduceSub,reduceCtorEq,zGp, f_val] | ((with_reducible refine rows_intro (fun _ hb => ?_)); try simp only [set_none, ne_eq] at hb) | ((with_reducible refine new_intro (fun _ hb => ?_)); try simp only [set_none, ne_eq] at hb) | (with_reducible refine draw_same ?_) | ((with_reducible refine gd_split ?_ (fun _ => ?_) (fun _ => ?_)); exact rfl) | ((with_reducible refine td_split ?_ (fun _ => ?_) (fun _ => ?_)); exact rfl) | (with_reducible refine c_split (fun _ => ?_) (fun _ => ?_)))
  rename_i b2 hb2 b3 hb3 b4
  have h4 : H b4 = none := hb.2.2
  have l4 := le_fresh0 (le_fresh0 ((AHeap.le.refl H).fresh hb2 ⟨p.cells, true, 102, 2⟩) hb3.2 ⟨q.cells, true, 102, 2⟩) h4 ⟨noneF.cells, true, 102, 2⟩
  have k2 : Kn (((H.set b2 ⟨p.cells, true, 102, 2⟩).set b3 ⟨q.cells, true, 102, 2⟩).set b4 ⟨noneF.cells, true, 102, 2⟩) b2 ⟨p.cells, true, 102, 2⟩ := ((Kn.same _ _ _).set (fun e => hb3.1 e.symm) _).set (fun e => hb.2.1 e.symm) _
  have k3 : Kn (((H.set b2 ⟨p.cells, true, 102, 2⟩).set b3 ⟨q.cells, true, 102, 2⟩).set b4 ⟨noneF.cells, true, 102, 2⟩) b3 ⟨q.cells, true, 102, 2⟩ := (Kn.same _ _ _).set (fun e => hb.1 e.symm) _
  have k4 : Kn (((H.set b2 ⟨p.cells, true, 102, 2⟩).set b3 ⟨q.cells, true, 102, 2⟩).set b4 ⟨noneF.cells, true, 102, 2⟩) b4 ⟨noneF.cells, true, 102, 2⟩ := Kn.same _ _ _
  have e4 : (((H.set b2 ⟨p.cells, true, 102, 2⟩).set b3 ⟨q.cells, true, 102, 2⟩).set b4 ⟨noneF.cells, true, 102, 2⟩) = (((H.set b2 ⟨[.int .i64 p.kind, .int .i64 p.n], true, 102, 2⟩).set b3 ⟨[.int .i64 q.kind, .int .i64 q.n], true, 102, 2⟩).set b4 ⟨[.int .i64 0, .int .i64 0], true, 102, 2⟩) := rfl
  rw [← e4]
  clear e4
  generalize (((H.set b2 ⟨p.cells, true, 102, 2⟩).set b3 ⟨q.cells, true, 102, 2⟩).set b4 ⟨noneF.cells, true, 102, 2⟩) = C at k2 k3 k4 l4
  have r2 := rdf1 k2
  have r3 := rdf1 k3
  have c20 := k2.cell (j := 0) rfl
  have c21 := k2.cell (j := 1) rfl
  have c30 := k3.cell (j := 0) rfl
  have c31 := k3.cell (j := 1) rfl
  by_cases h1 : p.kind = 0
  · have d1 : (p.kind == 0) = true := by simpa using h1
    have ej : joinR p q = q := by unfold joinR; simp [h1]
    rw [ej] at h
    repeat' (first | simp -implicitDefEqProofs only [zG1,zG2,zG3,zG4,zG5,zG6,zG7,eq_self,resV,rval,X.val,binv,fillL,setR,↓reduceIte,Nat.reduceEqDiff,Nat.reduceAdd,Nat.reduceMul,Nat.reduceLeDiff,Nat.reduceLT,Nat.reduceSub,reduceCtorEq,zGp, c20, c21, c30, c31, r2, r3, d1, adr_lit, Nat.zero_add] | ((with_reducible refine rows_intro (fun _ hb => ?_)); try simp only [set_none, ne_eq] at hb) | ((with_reducible refine new_intro (fun _ hb => ?_)); try simp only [set_none, ne_eq] at hb) | (with_reducible refine draw_same ?_) | ((with_reducible refine gd_split ?_ (fun _ => ?_) (fun _ => ?_)); exact rfl) | ((with_reducible refine td_split ?_ (fun _ => ?_) (fun _ => ?_)); exact rfl) | (with_reducible refine c_split (fun _ => ?_) (fun _ => ?_)) | (with_reducible refine eqsK_fc ?_))
    refine stf1 (g := q) k4 (fun C6 hc6 k6 => ?_)
    have r6 := rdf1 k6
    repeat' (first | simp -implicitDefEqProofs only [zG1,zG2,zG3,zG4,zG5,zG6,zG7,eq_self,resV,rval,X.val,binv,fillL,setR,↓reduceIte,Nat.reduceEqDiff,Nat.reduceAdd,Nat.reduceMul,Nat.reduceLeDiff,Nat.reduceLT,Nat.reduceSub,reduceCtorEq,zGp, r6] | ((with_reducible refine rows_intro (fun _ hb => ?_)); try simp only [set_none, ne_eq] at hb) | ((with_reducible refine new_intro (fun _ hb => ?_)); try simp only [set_none, ne_eq] at hb) | (with_reducible refine draw_same ?_) | ((with_reducible refine gd_split ?_ (fun _ => ?_) (fun _ => ?_)); exact rfl) | ((with_reducible refine td_split ?_ (fun _ => ?_) (fun _ => ?_)); exact rfl) | (with_reducible refine c_split (fun _ => ?_) (fun _ => ?_)))
    exact ⟨H, hc6.keep l4 (New.one h4), h⟩
  · have d1 : (p.kind == 0) = false := by simpa using h1
    by_cases h3 : q.kind = 0
    · have d3 : (q.kind == 0) = true := by simpa using h3
      have h2 : p ≠ q := fun e => h1 (by rw [e]; exact h3)
      have ej : joinR p q = p := by unfold joinR; simp [h1, h2, h3]
      rw [ej] at h
      repeat' (first | simp -implicitDefEqProofs only [zG1,zG2,zG3,zG4,zG5,zG6,zG7,eq_self,resV,rval,X.val,binv,fillL,setR,↓reduceIte,Nat.reduceEqDiff,Nat.reduceAdd,Nat.reduceMul,Nat.reduceLeDiff,Nat.reduceLT,Nat.reduceSub,reduceCtorEq,zGp, c20, c21, c30, c31, r2, r3, d1, d3, adr_lit, Nat.zero_add] | ((with_reducible refine rows_intro (fun _ hb => ?_)); try simp only [set_none, ne_eq] at hb) | ((with_reducible refine new_intro (fun _ hb => ?_)); try simp only [set_none, ne_eq] at hb) | (with_reducible refine draw_same ?_) | ((with_reducible refine gd_split ?_ (fun _ => ?_) (fun _ => ?_)); exact rfl) | ((with_reducible refine td_split ?_ (fun _ => ?_) (fun _ => ?_)); exact rfl) | (with_reducible refine c_split (fun _ => ?_) (fun _ => ?_)) | (with_reducible refine eqsK_fc ?_))
      refine stf1 (g := p) k4 (fun C6 hc6 k6 => ?_)
      have r6 := rdf1 k6
      repeat' (first | simp -implicitDefEqProofs only [zG1,zG2,zG3,zG4,zG5,zG6,zG7,eq_self,resV,rval,X.val,binv,fillL,setR,↓reduceIte,Nat.reduceEqDiff,Nat.reduceAdd,Nat.reduceMul,Nat.reduceLeDiff,Nat.reduceLT,Nat.reduceSub,reduceCtorEq,zGp, r6] | ((with_reducible refine rows_intro (fun _ hb => ?_)); try simp only [set_none, ne_eq] at hb) | ((with_reducible refine new_intro (fun _ hb => ?_)); try simp only [set_none, ne_eq] at hb) | (with_reducible refine draw_same ?_) | ((with_reducible refine gd_split ?_ (fun _ => ?_) (fun _ => ?_)); exact rfl) | ((with_reducible refine td_split ?_ (fun _ => ?_) (fun _ => ?_)); exact rfl) | (with_reducible refine c_split (fun _ => ?_) (fun _ => ?_)))
      exact ⟨H, hc6.keep l4 (New.one h4), h⟩
    · have d3 : (q.kind == 0) = false := by simpa using h3
      by_cases h2 : p = q
      · have d2 : (false != decide (p = q)) = true := by simpa using h2
        have ej : joinR p q = p := by unfold joinR; rw [h2]; simp
        rw [ej] at h
        repeat' (first | simp -implicitDefEqProofs only [zG1,zG2,zG3,zG4,zG5,zG6,zG7,eq_self,resV,rval,X.val,binv,fillL,setR,↓reduceIte,Nat.reduceEqDiff,Nat.reduceAdd,Nat.reduceMul,Nat.reduceLeDiff,Nat.reduceLT,Nat.reduceSub,reduceCtorEq,zGp, c20, c21, c30, c31, r2, r3, d1, d2, d3, adr_lit, Nat.zero_add] | ((with_reducible refine rows_intro (fun _ hb => ?_)); try simp only [set_none, ne_eq] at hb) | ((with_reducible refine new_intro (fun _ hb => ?_)); try simp only [set_none, ne_eq] at hb) | (with_reducible refine draw_same ?_) | ((with_reducible refine gd_split ?_ (fun _ => ?_) (fun _ => ?_)); exact rfl) | ((with_reducible refine td_split ?_ (fun _ => ?_) (fun _ => ?_)); exact rfl) | (with_reducible refine c_split (fun _ => ?_) (fun _ => ?_)) | (with_reducible refine eqsK_fc ?_))
        refine stf1 (g := p) k4 (fun C6 hc6 k6 => ?_)
        have r6 := rdf1 k6
        repeat' (first | simp -implicitDefEqProofs only [zG1,zG2,zG3,zG4,zG5,zG6,zG7,eq_self,resV,rval,X.val,binv,fillL,setR,↓reduceIte,Nat.reduceEqDiff,Nat.reduceAdd,Nat.reduceMul,Nat.reduceLeDiff,Nat.reduceLT,Nat.reduceSub,reduceCtorEq,zGp, r6] | ((with_reducible refine rows_intro (fun _ hb => ?_)); try simp only [set_none, ne_eq] at hb) | ((with_reducible refine new_intro (fun _ hb => ?_)); try simp only [set_none, ne_eq] at hb) | (with_reducible refine draw_same ?_) | ((with_reducible refine gd_split ?_ (fun _ => ?_) (fun _ => ?_)); exact rfl) | ((with_reducible refine td_split ?_ (fun _ => ?_) (fun _ => ?_)); exact rfl) | (with_reducible refine c_split (fun _ => ?_) (fun _ => ?_)))
        exact ⟨H, hc6.keep l4 (New.one h4), h⟩
      · have d2 : (false != decide (p = q)) = false := by simpa using h2
        have ej : joinR p q = anyF := by unfold joinR; simp [h1, h2, h3]
        rw [ej] at h
        repeat' (first | simp -implicitDefEqProofs only [zG1,zG2,zG3,zG4,zG5,zG6,zG7,eq_self,resV,rval,X.val,binv,fillL,setR,↓reduceIte,Nat.reduceEqDiff,Nat.reduceAdd,Nat.reduceMul,Nat.reduceLeDiff,Nat.reduceLT,Nat.reduceSub,reduceCtorEq,zGp, c20, c21, c30, c31, r2, r3, d1, d2, d3, adr_lit, Nat.zero_add] | ((with_reducible refine rows_intro (fun _ hb => ?_)); try simp only [set_none, ne_eq] at hb) | ((with_reducible refine new_intro (fun _ hb => ?_)); try simp only [set_none, ne_eq] at hb) | (with_reducible refine draw_same ?_) | ((with_reducible refine gd_split ?_ (fun _ => ?_) (fun _ => ?_)); exact rfl) | ((with_reducible refine td_split ?_ (fun _ => ?_) (fun _ => ?_)); exact rfl) | (with_reducible refine c_split (fun _ => ?_) (fun _ => ?_)) | (with_reducible refine eqsK_fc ?_))
        refine stf1 (g := anyF) k4 (fun C6 hc6 k6 => ?_)
        have r6 := rdf1 k6
        repeat' (first | simp -implicitDefEqProofs only [zG1,zG2,zG3,zG4,zG5,zG6,zG7,eq_self,resV,rval,X.val,binv,fillL,setR,↓reduceIte,Nat.reduceEqDiff,Nat.reduceAdd,Nat.reduceMul,Nat.reduceLeDiff,Nat.reduceLT,Nat.reduceSub,reduceCtorEq,zGp, r6] | ((with_reducible refine rows_intro (fun _ hb => ?_)); try simp only [set_none, ne_eq] at hb) | ((with_reducible refine new_intro (fun _ hb => ?_)); try simp only [set_none, ne_eq] at hb) | (with_reducible refine draw_same ?_) | ((with_reducible refine gd_split ?_ (fun _ => ?_) (fun _ => ?_)); exact rfl) | ((with_reducible refine td_split ?_ (fun _ => ?_) (fun _ => ?_)); exact rfl) | (with_reducible refine c_split (fun _ => ?_) (fun _ => ?_)))
        exact ⟨H, hc6.keep l4 (New.one h4), h⟩
def resF (q : Qd) (f g : Fc) : Fc := if f.kind = 1 ∧ g.kind = 1 then ⟨1, applyN q.n f.n g.n⟩ else anyF
theorem l33Result_ok (q : Qd) (ho : 1 ≤ q.n ∧ q.n ≤ 12) (f g : Fc) (hf : goodF f) (hg : goodF g) (h : K (resF q f g).val H) : ACalls Tryz.prog w0 110 [q.val, f.val, g.val] H K := by
  refine acalls_of_sx mix Tryz.func110 of110 (by simp [ir110]) ?_; rw [ir110]; (try delta qT qI qC qO qM qG)
  repeat' (first | simp -implicitDefEqProofs only [zG1,zG2,zG3,zG4,zG5,zG6,zG7,eq_self,resV,rval,X.val,binv,fillL,setR,↓reduceIte,Nat.reduceEqDiff,Nat.reduceAdd,Nat.reduceMul,Nat.reduceLeDiff,Nat.reduceLT,Nat.reduceSub,reduceCtorEq,zGp, f_val, q_val] | ((with_reducible refine rows_intro (fun _ hb => ?_)); try simp only [set_none, ne_eq] at hb) | ((with_reducible refine new_intro (fun _ hb => ?_)); try simp only [set_none, ne_eq] at hb) | (with_reducible refine draw_same ?_) | ((with_reducible refine gd_split ?_ (fun _ => ?_) (fun _ => ?_)); exact rfl) | ((with_reducible refine td_split ?_ (fun _ => ?_) (fun _ => ?_)); exact rfl) | (with_reducible refine c_split (fun _ => ?_) (fun _ => ?_)))
  rename_i b3 hb3 b4 hb4 b5 hb5 b6
  have k3 : Kn ((((H.set b3 ⟨q.cells, true, 36, 5⟩).set b4 ⟨f.cells, true, 102, 2⟩).set b5 ⟨g.cells, true, 102, 2⟩).set b6 ⟨noneF.cells, true, 102, 2⟩) b3 ⟨q.cells, true, 36, 5⟩ := (((Kn.same _ _ _).set (fun e => hb4.1 e.symm) _).set (fun e => hb5.2.1 e.symm) _).set (fun e => hb.2.2.1 e.symm) _
  have k4 : Kn ((((H.set b3 ⟨q.cells, true, 36, 5⟩).set b4 ⟨f.cells, true, 102, 2⟩).set b5 ⟨g.cells, true, 102, 2⟩).set b6 ⟨noneF.cells, true, 102, 2⟩) b4 ⟨f.cells, true, 102, 2⟩ := ((Kn.same _ _ _).set (fun e => hb5.1 e.symm) _).set (fun e => hb.2.1 e.symm) _
  have k5 : Kn ((((H.set b3 ⟨q.cells, true, 36, 5⟩).set b4 ⟨f.cells, true, 102, 2⟩).set b5 ⟨g.cells, true, 102, 2⟩).set b6 ⟨noneF.cells, true, 102, 2⟩) b5 ⟨g.cells, true, 102, 2⟩ := (Kn.same _ _ _).set (fun e => hb.1 e.symm) _
  have k6 : Kn ((((H.set b3 ⟨q.cells, true, 36, 5⟩).set b4 ⟨f.cells, true, 102, 2⟩).set b5 ⟨g.cells, true, 102, 2⟩).set b6 ⟨noneF.cells, true, 102, 2⟩) b6 ⟨noneF.cells, true, 102, 2⟩ := Kn.same _ _ _
  have h6 : H b6 = none := hb.2.2.2
  have l4 : AHeap.le H ((((H.set b3 ⟨q.cells, true, 36, 5⟩).set b4 ⟨f.cells, true, 102, 2⟩).set b5 ⟨g.cells, true, 102, 2⟩).set b6 ⟨noneF.cells, true, 102, 2⟩) := le_fresh0 (le_fresh0 (le_fresh0 ((AHeap.le.refl H).fresh hb3 _) hb4.2 _) hb5.2.2 _) h6 _
  have e4 : ((((H.set b3 ⟨q.cells, true, 36, 5⟩).set b4 ⟨f.cells, true, 102, 2⟩).set b5 ⟨g.cells, true, 102, 2⟩).set b6 ⟨noneF.cells, true, 102, 2⟩) = ((((H.set b3 ⟨[.int .i64 q.op, .int .i64 q.dst, .int .i64 q.a, .int .i64 q.b, .int .i64 q.n], true, 36, 5⟩).set b4 ⟨[.int .i64 f.kind, .int .i64 f.n], true, 102, 2⟩).set b5 ⟨[.int .i64 g.kind, .int .i64 g.n], true, 102, 2⟩).set b6 ⟨[.int .i64 0, .int .i64 0], true, 102, 2⟩) := rfl
  rw [← e4]
  clear e4
  generalize ((((H.set b3 ⟨q.cells, true, 36, 5⟩).set b4 ⟨f.cells, true, 102, 2⟩).set b5 ⟨g.cells, true, 102, 2⟩).set b6 ⟨noneF.cells, true, 102, 2⟩) = C at k3 k4 k5 k6 l4
  have c34 := k3.cell (j := 4) rfl
  have c40 := k4.cell (j := 0) rfl
  have c41 := k4.cell (j := 1) rfl
  have c50 := k5.cell (j := 0) rfl
  have c51 := k5.cell (j := 1) rfl
  have fin : ∀ (z : Fc) (D : Value → AHeap → Prop), z = resF q f g → (∀ C6, AHeap.le H C6 → C6.rdn (some ⟨b6, 0, none⟩) 2 = some (resF q f g).cells → D undef C6) → stK 2 (.pointer (some ⟨b6, 0, none⟩)) (.agg #[.int .i64 z.kind, .int .i64 z.n]) D C := by
    rintro z D rfl hD
    exact stf1 (g := resF q f g) k6 (fun C6 hc6 kk => hD C6 (hc6.keep l4 (New.one h6)) (rdf1 kk))
  by_cases h1 : f.kind = 1
  · have d1 : (f.kind != 1) = false := by simpa using h1
    by_cases h2 : g.kind = 1
    · have d2 : (g.kind != 1) = false := by simpa using h2
      have er : (⟨1, applyN q.n f.n g.n⟩ : Fc) = resF q f g := by rw [resF, if_pos ⟨h1, h2⟩]
      have wf : wordI f.n := hf.elim (fun e => e.2) fun e => by rw [e] at h1; exact absurd h1 (by decide)
      have wg : wordI g.n := hg.elim (fun e => e.2) fun e => by rw [e] at h2; exact absurd h2 (by decide)
      repeat' (first | simp -implicitDefEqProofs only [zG1,zG2,zG3,zG4,zG5,zG6,zG7,eq_self,resV,rval,X.val,binv,fillL,setR,↓reduceIte,Nat.reduceEqDiff,Nat.reduceAdd,Nat.reduceMul,Nat.reduceLeDiff,Nat.reduceLT,Nat.reduceSub,reduceCtorEq,zGp, c34, c40, c41, c50, c51, d1, d2, adr_lit, Nat.zero_add] | ((with_reducible refine rows_intro (fun _ hb => ?_)); try simp only [set_none, ne_eq] at hb) | ((with_reducible refine new_intro (fun _ hb => ?_)); try simp only [set_none, ne_eq] at hb) | (with_reducible refine draw_same ?_) | ((with_reducible refine gd_split ?_ (fun _ => ?_) (fun _ => ?_)); exact rfl) | ((with_reducible refine td_split ?_ (fun _ => ?_) (fun _ => ?_)); exact rfl) | (with_reducible refine c_split (fun _ => ?_) (fun _ => ?_)) | (with_reducible refine applyS_ok _ _ _ _ _ _ ho wf wg ?_))
      refine fin ⟨1, applyN q.n f.n g.n⟩ _ er (fun C6 l6 r6 => ?_)
      repeat' (first | simp -implicitDefEqProofs only [zG1,zG2,zG3,zG4,zG5,zG6,zG7,eq_self,resV,rval,X.val,binv,fillL,setR,↓reduceIte,Nat.reduceEqDiff,Nat.reduceAdd,Nat.reduceMul,Nat.reduceLeDiff,Nat.reduceLT,Nat.reduceSub,reduceCtorEq,zGp, r6] | ((with_reducible refine rows_intro (fun _ hb => ?_)); try simp only [set_none, ne_eq] at hb) | ((with_reducible refine new_intro (fun _ hb => ?_)); try simp only [set_none, ne_eq] at hb) | (with_reducible refine draw_same ?_) | ((with_reducible refine gd_split ?_ (fun _ => ?_) (fun _ => ?_)); exact rfl) | ((with_reducible refine td_split ?_ (fun _ => ?_) (fun _ => ?_)); exact rfl) | (with_reducible refine c_split (fun _ => ?_) (fun _ => ?_)))
      exact ⟨H, l6, h⟩
    · have d2 : (g.kind != 1) = true := by simpa using h2
      have er : anyF = resF q f g := by rw [resF, if_neg (fun e => h2 e.2)]
      repeat' (first | simp -implicitDefEqProofs only [zG1,zG2,zG3,zG4,zG5,zG6,zG7,eq_self,resV,rval,X.val,binv,fillL,setR,↓reduceIte,Nat.reduceEqDiff,Nat.reduceAdd,Nat.reduceMul,Nat.reduceLeDiff,Nat.reduceLT,Nat.reduceSub,reduceCtorEq,zGp, c34, c40, c41, c50, c51, d1, d2, adr_lit, Nat.zero_add] | ((with_reducible refine rows_intro (fun _ hb => ?_)); try simp only [set_none, ne_eq] at hb) | ((with_reducible refine new_intro (fun _ hb => ?_)); try simp only [set_none, ne_eq] at hb) | (with_reducible refine draw_same ?_) | ((with_reducible refine gd_split ?_ (fun _ => ?_) (fun _ => ?_)); exact rfl) | ((with_reducible refine td_split ?_ (fun _ => ?_) (fun _ => ?_)); exact rfl) | (with_reducible refine c_split (fun _ => ?_) (fun _ => ?_)))
      refine fin anyF _ er (fun C6 l6 r6 => ?_)
      repeat' (first | simp -implicitDefEqProofs only [zG1,zG2,zG3,zG4,zG5,zG6,zG7,eq_self,resV,rval,X.val,binv,fillL,setR,↓reduceIte,Nat.reduceEqDiff,Nat.reduceAdd,Nat.reduceMul,Nat.reduceLeDiff,Nat.reduceLT,Nat.reduceSub,reduceCtorEq,zGp, r6] | ((with_reducible refine rows_intro (fun _ hb => ?_)); try simp only [set_none, ne_eq] at hb) | ((with_reducible refine new_intro (fun _ hb => ?_)); try simp only [set_none, ne_eq] at hb) | (with_reducible refine draw_same ?_) | ((with_reducible refine gd_split ?_ (fun _ => ?_) (fun _ => ?_)); exact rfl) | ((with_reducible refine td_split ?_ (fun _ => ?_) (fun _ => ?_)); exact rfl) | (with_reducible refine c_split (fun _ => ?_) (fun _ => ?_)))
      exact ⟨H, l6, h⟩
  · have d1 : (f.kind != 1) = true := by simpa using h1
    have er : anyF = resF q f g := by rw [resF, if_neg (fun e => h1 e.1)]
    repeat' (first | simp -implicitDefEqProofs only [zG1,zG2,zG3,zG4,zG5,zG6,zG7,eq_self,resV,rval,X.val,binv,fillL,setR,↓reduceIte,Nat.reduceEqDiff,Nat.reduceAdd,Nat.reduceMul,Nat.reduceLeDiff,Nat.reduceLT,Nat.reduceSub,reduceCtorEq,zGp, c34, c40, c41, c50, c51, d1, adr_lit, Nat.zero_add] | ((with_reducible refine rows_intro (fun _ hb => ?_)); try simp only [set_none, ne_eq] at hb) | ((with_reducible refine new_intro (fun _ hb => ?_)); try simp only [set_none, ne_eq] at hb) | (with_reducible refine draw_same ?_) | ((with_reducible refine gd_split ?_ (fun _ => ?_) (fun _ => ?_)); exact rfl) | ((with_reducible refine td_split ?_ (fun _ => ?_) (fun _ => ?_)); exact rfl) | (with_reducible refine c_split (fun _ => ?_) (fun _ => ?_)))
    refine fin anyF _ er (fun C6 l6 r6 => ?_)
    repeat' (first | simp -implicitDefEqProofs only [zG1,zG2,zG3,zG4,zG5,zG6,zG7,eq_self,resV,rval,X.val,binv,fillL,setR,↓reduceIte,Nat.reduceEqDiff,Nat.reduceAdd,Nat.reduceMul,Nat.reduceLeDiff,Nat.reduceLT,Nat.reduceSub,reduceCtorEq,zGp, r6] | ((with_reducible refine rows_intro (fun _ hb => ?_)); try simp only [set_none, ne_eq] at hb) | ((with_reducible refine new_intro (fun _ hb => ?_)); try simp only [set_none, ne_eq] at hb) | (with_reducible refine draw_same ?_) | ((with_reducible refine gd_split ?_ (fun _ => ?_) (fun _ => ?_)); exact rfl) | ((with_reducible refine td_split ?_ (fun _ => ?_) (fun _ => ?_)); exact rfl) | (with_reducible refine c_split (fun _ => ?_) (fun _ => ?_)))
    exact ⟨H, l6, h⟩
theorem l33After_ok (q : Qd) (hq : quadValid q 600 = true) (A : Option Addr) (c : Nat) (v : List Fc) (hv : okF v) (hv0 : v ≠ botF) (hx : Fl H A (fcells v)) (h : ∀ y C ib, AHeap.le H C → New H ib → Rw C 102 2 y 12 (fcells (behindF q v)) ib → K y C) :
    ACalls Tryz.prog w0 108 [q.val, .slice A 12 c] H K := by
  have hl := okF_len hv
  have hg := okF_ne hv hv0
  obtain ⟨ga, gb⟩ := valid_regs hq
  refine acalls_of_sx mix Tryz.func108 of108 (by simp [ir108]) ?_; rw [ir108]; (try delta qT qI qC qO qM qG)
  repeat' (first | simp -implicitDefEqProofs only [zG1,zG2,zG3,zG4,zG5,zG6,zG7,eq_self,resV,rval,X.val,binv,fillL,setR,↓reduceIte,Nat.reduceEqDiff,Nat.reduceAdd,Nat.reduceMul,Nat.reduceLeDiff,Nat.reduceLT,Nat.reduceSub,reduceCtorEq,zGp] | ((with_reducible refine rows_intro (fun _ hb => ?_)); try simp only [set_none, ne_eq] at hb) | ((with_reducible refine new_intro (fun _ hb => ?_)); try simp only [set_none, ne_eq] at hb) | (with_reducible refine draw_same ?_) | ((with_reducible refine gd_split ?_ (fun _ => ?_) (fun _ => ?_)); exact rfl) | ((with_reducible refine td_split ?_ (fun _ => ?_) (fun _ => ?_)); exact rfl) | (with_reducible refine c_split (fun _ => ?_) (fun _ => ?_)))
  rename_i x1 hb1 x2
  have l1 := (AHeap.le.refl H).fresh hb1 ⟨q.cells, true, 36, 5⟩
  have l2 := le_fresh0 l1 hb.2 ⟨[], true, 102, 0⟩
  have kq := (Kn.same H x1 ⟨q.cells, true, 36, 5⟩).set (fun e => hb.1 e.symm) ⟨[], true, 102, 0⟩
  refine app_rw (n := 0) (xs := []) (bs := [x2]) (news := fcells v) (Rw.mk (Kn.same _ _ _) rfl (Nat.le_refl _) (Nat.zero_le _)) (hx.le l2) (by rw [fcells_len, hl]; rfl) (fcells_oc _) (by simp [maxLen]) (by omega) (fun v3 C3 bs3 hc3 hn3 w3 => ?_)
  rw [Nat.zero_add, List.nil_append] at w3
  have l3 : AHeap.le H C3 := hc3.keep l2 (New.one hb.2)
  have kq3 := kq.chg hc3 (by simpa using fun e => hb.1 e.symm)
  obtain ⟨b, cb, rfl, rfl, hl3, hm3, -, k3⟩ := w3.open_ (by omega)
  have hbn : H b = none := by
    rcases hn3 b (by simp) with h1 | h1
    · simp at h1; rw [h1]; exact hb.2
    · exact l2.none h1
  have hbq : ¬ b = x1 := by
    rcases hn3 b (by simp) with h1 | h1
    · simp at h1; rw [h1]; exact hb.1
    · exact fun e => kq.ne (e ▸ h1)
  have rq : C3.rdn (some ⟨x1, 0, none⟩) 5 = some q.cells := kq3.rdn (l := q.cells) (o := 0) fun j _ => by rw [Nat.zero_add]
  obtain ⟨ra, hra⟩ : ∃ r : Nat, q.a = (r : Int) := ⟨q.a.toNat, by omega⟩
  obtain ⟨rb, hrb⟩ : ∃ r : Nat, q.b = (r : Int) := ⟨q.b.toNat, by omega⟩
  have gra : (0 ≤ (ra : Int) ∧ (ra : Int) < ((12 : Nat) : Int)) = True := by simp; omega
  have grb : (0 ≤ (rb : Int) ∧ (rb : Int) < ((12 : Nat) : Int)) = True := by simp; omega
  have c0 := kq3.cell (j := 0) rfl
  have c1 := kq3.cell (j := 1) rfl
  have c2 := kq3.cell (j := 2) rfl
  have c3 := kq3.cell (j := 3) rfl
  have c4 := kq3.cell (j := 4) rfl
  rw [hra] at c2
  rw [hrb] at c3
  have hx3 := hx.le l3
  have fis := hx3.is (i := ra * 2) (by rw [fcells_len]; omega)
  have fa := hx3.rdf (i := ra) (by omega)
  have fb := hx3.rdf (i := rb) (by omega)
  have ea : fAt v q.a.toNat = v[ra]'(by omega) := by rw [hra, Int.toNat_natCast]; exact fAt_eq (by omega)
  have eb' : fAt v q.b.toNat = v[rb]'(by omega) := by rw [hrb, Int.toNat_natCast]; exact fAt_eq (by omega)
  have goa : goodF (v[ra]'(by omega)) := by rw [← fAt_eq]; exact hg.2 ra (by omega)
  have gob : goodF (v[rb]'(by omega)) := by rw [← fAt_eq]; exact hg.2 rb (by omega)
  by_cases hs : setsOf q < 0
  · have eb : v = behindF q v := by unfold behindF; rw [if_neg hv0, if_pos hs]
    have ho : ¬ (q.op = 1 ∨ q.op = 2 ∨ q.op = 3 ∨ q.op = 7) := fun e => by
      have hs' := hs
      rw [setsOf, if_pos e] at hs'
      rcases e with ho | ho | ho | ho <;> simp only [quadValid, ho] at hq <;> simp [isReg] at hq <;> omega
    have d1 : (q.op == 1) = false := by simp; omega
    have d2 : (q.op == 2) = false := by simp; omega
    have d3 : (q.op == 3) = false := by simp; omega
    have d7 : (q.op == 7) = false := by simp; omega
    rw [← eb] at h
    repeat' (first | simp -implicitDefEqProofs only [zG1,zG2,zG3,zG4,zG5,zG6,zG7,eq_self,resV,rval,X.val,binv,fillL,setR,↓reduceIte,Nat.reduceEqDiff,Nat.reduceAdd,Nat.reduceMul,Nat.reduceLeDiff,Nat.reduceLT,Nat.reduceSub,reduceCtorEq,zGp, rq, c0, d1, d2, d3, d7] | ((with_reducible refine rows_intro (fun _ hb => ?_)); try simp only [set_none, ne_eq] at hb) | ((with_reducible refine new_intro (fun _ hb => ?_)); try simp only [set_none, ne_eq] at hb) | (with_reducible refine draw_same ?_) | ((with_reducible refine gd_split ?_ (fun _ => ?_) (fun _ => ?_)); exact rfl) | ((with_reducible refine td_split ?_ (fun _ => ?_) (fun _ => ?_)); exact rfl) | (with_reducible refine c_split (fun _ => ?_) (fun _ => ?_)))
    exact ret_same (h _ _ [b] l3 (New.one hbn) (Rw.mk k3 (by rw [fcells_len, hl]) hl3 hm3))
  · have ho : q.op = 1 ∨ q.op = 2 ∨ q.op = 3 ∨ q.op = 7 := Classical.byContradiction fun e => hs (by rw [setsOf, if_neg e]; omega)
    have hsd : setsOf q = q.dst := by rw [setsOf, if_pos ho]
    obtain ⟨r, hr⟩ : ∃ r : Nat, q.dst = (r : Int) := ⟨q.dst.toNat, by omega⟩
    have hr12 : r < 12 := by have := sets_lt2 hq; omega
    rw [hr] at c1
    have g1 : (0 ≤ (r : Int) ∧ (r : Int) < ((12 : Nat) : Int)) = True := by simp; omega
    have eb : v.set r (valueF q v) = behindF q v := by unfold behindF; rw [if_neg hv0, if_neg hs, hsd, hr, Int.toNat_natCast]
    have fin : ∀ (z : Fc) (D : Value → AHeap → Prop), z = valueF q v → (∀ C6, Chg C3 C6 [b] → AHeap.le H C6 → Rw C6 102 2 (.slice (some ⟨b, 0, none⟩) 12 cb) 12 (fcells (behindF q v)) [b] → D undef C6) → stK 2 (.pointer (some ⟨b, r * 2, none⟩)) (.agg #[.int .i64 z.kind, .int .i64 z.n]) D C3 := by
      rintro z D rfl hD
      refine st_kn k3 rfl rfl (by simp [fcells_len]; omega) (by simp [vcA, Value.oneCell']) (fun C8 hc8 ho8 k8 => hD C8 hc8 (hc8.keep l3 (New.one hbn)) ?_)
      have e9 := fcells_set (fs := v) (k := r) (by omega) (valueF q v)
      rw [eb] at e9
      refine Rw.mk ?_ (by rw [fcells_len, okF_len (behindF_ok hv)]) hl3 hm3
      rw [← e9]; exact k8
    have no3 := no_le C3 fun y => y ∈ [b]
    have kqn := kq3.chg (Chg.no (bs := [b])) (by simpa using fun e => hbq e.symm)
    have lHn : AHeap.le H (C3.no fun y => y ∈ [b]) := Chg.no.keep l3 (New.one hbn)
    have n1 := kqn.cell (j := 1) rfl
    have n2 := kqn.cell (j := 2) rfl
    have n3 := kqn.cell (j := 3) rfl
    have nq : (C3.no fun y => y ∈ [b]).rdn (some ⟨x1, 0, none⟩) 5 = some q.cells := kqn.rdn (l := q.cells) (o := 0) fun j _ => by rw [Nat.zero_add]
    rw [hr] at n1
    rw [hra] at n2
    rw [hrb] at n3
    have na := (hx.le lHn).rdf (i := ra) (by omega)
    have nb := (hx.le lHn).rdf (i := rb) (by omega)
    rcases ho with o1 | o2 | o3 | o7
    · have d1 : (q.op == 1) = true := by simpa using o1
      have hw : wordValid q.n = true := by simp only [quadValid, if_pos o1, Bool.and_eq_true] at hq; exact hq.2
      repeat' (first | simp -implicitDefEqProofs only [zG1,zG2,zG3,zG4,zG5,zG6,zG7,eq_self,resV,rval,X.val,binv,fillL,setR,↓reduceIte,Nat.reduceEqDiff,Nat.reduceAdd,Nat.reduceMul,Nat.reduceLeDiff,Nat.reduceLT,Nat.reduceSub,reduceCtorEq,zGp, c0, c1, c4, d1, g1, adr_lit, Nat.zero_add] | ((with_reducible refine rows_intro (fun _ hb => ?_)); try simp only [set_none, ne_eq] at hb) | ((with_reducible refine new_intro (fun _ hb => ?_)); try simp only [set_none, ne_eq] at hb) | (with_reducible refine draw_same ?_) | ((with_reducible refine gd_split ?_ (fun _ => ?_) (fun _ => ?_)); exact rfl) | ((with_reducible refine td_split ?_ (fun _ => ?_) (fun _ => ?_)); exact rfl) | (with_reducible refine c_split (fun _ => ?_) (fun _ => ?_)))
      refine fin ⟨1, q.n⟩ _ (by rw [valueF, if_pos o1, constF, if_pos hw]) (fun C6 hc6 l6 w6 => ?_)
      repeat' (first | simp -implicitDefEqProofs only [zG1,zG2,zG3,zG4,zG5,zG6,zG7,eq_self,resV,rval,X.val,binv,fillL,setR,↓reduceIte,Nat.reduceEqDiff,Nat.reduceAdd,Nat.reduceMul,Nat.reduceLeDiff,Nat.reduceLT,Nat.reduceSub,reduceCtorEq,zGp] | ((with_reducible refine rows_intro (fun _ hb => ?_)); try simp only [set_none, ne_eq] at hb) | ((with_reducible refine new_intro (fun _ hb => ?_)); try simp only [set_none, ne_eq] at hb) | (with_reducible refine draw_same ?_) | ((with_reducible refine gd_split ?_ (fun _ => ?_) (fun _ => ?_)); exact rfl) | ((with_reducible refine td_split ?_ (fun _ => ?_) (fun _ => ?_)); exact rfl) | (with_reducible refine c_split (fun _ => ?_) (fun _ => ?_)))
      exact ret_same (h _ _ [b] l6 (New.one hbn) w6)
    · have d1 : (q.op == 1) = false := by simp; omega
      have d2 : (q.op == 2) = true := by simpa using o2
      repeat' (first | simp -implicitDefEqProofs only [zG1,zG2,zG3,zG4,zG5,zG6,zG7,eq_self,resV,rval,X.val,binv,fillL,setR,↓reduceIte,Nat.reduceEqDiff,Nat.reduceAdd,Nat.reduceMul,Nat.reduceLeDiff,Nat.reduceLT,Nat.reduceSub,reduceCtorEq,zGp, c0, c1, c4, d1, d2, g1, adr_lit, Nat.zero_add] | ((with_reducible refine rows_intro (fun _ hb => ?_)); try simp only [set_none, ne_eq] at hb) | ((with_reducible refine new_intro (fun _ hb => ?_)); try simp only [set_none, ne_eq] at hb) | ((with_reducible refine gd_split ?_ (fun _ => ?_) (fun _ => ?_)); exact rfl) | ((with_reducible refine td_split ?_ (fun _ => ?_) (fun _ => ?_)); exact rfl) | (with_reducible refine c_split (fun _ => ?_) (fun _ => ?_)))
      refine draw_at (C3.no fun y => y ∈ [b]) no3 ?_
      repeat' (first | simp -implicitDefEqProofs only [zG1,zG2,zG3,zG4,zG5,zG6,zG7,eq_self,resV,rval,X.val,binv,fillL,setR,↓reduceIte,Nat.reduceEqDiff,Nat.reduceAdd,Nat.reduceMul,Nat.reduceLeDiff,Nat.reduceLT,Nat.reduceSub,reduceCtorEq,zGp, n1, n2, na, fis, g1, gra, adr_lit, Nat.zero_add] | ((with_reducible refine rows_intro (fun _ hb => ?_)); try simp only [set_none, ne_eq] at hb) | ((with_reducible refine new_intro (fun _ hb => ?_)); try simp only [set_none, ne_eq] at hb) | ((with_reducible refine gd_split ?_ (fun _ => ?_) (fun _ => ?_)); exact rfl) | ((with_reducible refine td_split ?_ (fun _ => ?_) (fun _ => ?_)); exact rfl) | (with_reducible refine c_split (fun _ => ?_) (fun _ => ?_)))
      refine fin (v[ra]'(by omega)) _ (by rw [valueF, if_neg (by omega), if_pos o2, ea]) (fun C6 hc6 l6 w6 => ?_)
      have ln6 := hc6.le_no
      repeat' (first | simp -implicitDefEqProofs only [zG1,zG2,zG3,zG4,zG5,zG6,zG7,eq_self,resV,rval,X.val,binv,fillL,setR,↓reduceIte,Nat.reduceEqDiff,Nat.reduceAdd,Nat.reduceMul,Nat.reduceLeDiff,Nat.reduceLT,Nat.reduceSub,reduceCtorEq,zGp, ln6] | ((with_reducible refine rows_intro (fun _ hb => ?_)); try simp only [set_none, ne_eq] at hb) | ((with_reducible refine new_intro (fun _ hb => ?_)); try simp only [set_none, ne_eq] at hb) | (with_reducible refine draw_same ?_) | ((with_reducible refine gd_split ?_ (fun _ => ?_) (fun _ => ?_)); exact rfl) | ((with_reducible refine td_split ?_ (fun _ => ?_) (fun _ => ?_)); exact rfl) | (with_reducible refine c_split (fun _ => ?_) (fun _ => ?_)))
      exact ret_same (h _ _ [b] l6 (New.one hbn) w6)
    · have d1 : (q.op == 1) = false := by simp; omega
      have d2 : (q.op == 2) = false := by simp; omega
      have d7 : (q.op == 7) = false := by simp; omega
      have d3 : (q.op == 3) = true := by simpa using o3
      have hop : 1 ≤ q.n ∧ q.n ≤ 12 := by
        simp only [quadValid, o3, Bool.and_eq_true, opValid] at hq
        simp at hq
        exact hq.2
      have er : resF q (v[ra]'(by omega)) (v[rb]'(by omega)) = valueF q v := by
        rw [valueF, if_neg (by omega), if_neg (by omega), if_pos o3, ea, eb', resF]
        split
        · rename_i hk
          have wa : wordI (v[ra]'(by omega)).n := goa.elim (fun e => e.2) fun e => by rw [e] at hk; exact absurd hk.1 (by decide)
          have wb : wordI (v[rb]'(by omega)).n := gob.elim (fun e => e.2) fun e => by rw [e] at hk; exact absurd hk.2 (by decide)
          rw [constF, if_pos ((wordI_iff _).2 (applyN_word wa wb))]
        · rfl
      repeat' (first | simp -implicitDefEqProofs only [zG1,zG2,zG3,zG4,zG5,zG6,zG7,eq_self,resV,rval,X.val,binv,fillL,setR,↓reduceIte,Nat.reduceEqDiff,Nat.reduceAdd,Nat.reduceMul,Nat.reduceLeDiff,Nat.reduceLT,Nat.reduceSub,reduceCtorEq,zGp, c0, c1, c4, d1, d2, d3, d7, g1, adr_lit, Nat.zero_add] | ((with_reducible refine rows_intro (fun _ hb => ?_)); try simp only [set_none, ne_eq] at hb) | ((with_reducible refine new_intro (fun _ hb => ?_)); try simp only [set_none, ne_eq] at hb) | ((with_reducible refine gd_split ?_ (fun _ => ?_) (fun _ => ?_)); exact rfl) | ((with_reducible refine td_split ?_ (fun _ => ?_) (fun _ => ?_)); exact rfl) | (with_reducible refine c_split (fun _ => ?_) (fun _ => ?_)))
      refine draw_at (C3.no fun y => y ∈ [b]) no3 ?_
      repeat' (first | simp -implicitDefEqProofs only [zG1,zG2,zG3,zG4,zG5,zG6,zG7,eq_self,resV,rval,X.val,binv,fillL,setR,↓reduceIte,Nat.reduceEqDiff,Nat.reduceAdd,Nat.reduceMul,Nat.reduceLeDiff,Nat.reduceLT,Nat.reduceSub,reduceCtorEq,zGp, n1, n2, n3, nq, na, nb, no3, fis, g1, gra, grb, adr_lit, Nat.zero_add] | ((with_reducible refine rows_intro (fun _ hb => ?_)); try simp only [set_none, ne_eq] at hb) | ((with_reducible refine new_intro (fun _ hb => ?_)); try simp only [set_none, ne_eq] at hb) | ((with_reducible refine gd_split ?_ (fun _ => ?_) (fun _ => ?_)); exact rfl) | ((with_reducible refine td_split ?_ (fun _ => ?_) (fun _ => ?_)); exact rfl) | (with_reducible refine c_split (fun _ => ?_) (fun _ => ?_)) | (with_reducible refine l33Result_ok _ _ _ q hop (v[ra]'(by omega)) (v[rb]'(by omega)) goa gob ?_))
      refine fin (resF q (v[ra]'(by omega)) (v[rb]'(by omega))) _ er (fun C6 hc6 l6 w6 => ?_)
      have ln6 := hc6.le_no
      repeat' (first | simp -implicitDefEqProofs only [zG1,zG2,zG3,zG4,zG5,zG6,zG7,eq_self,resV,rval,X.val,binv,fillL,setR,↓reduceIte,Nat.reduceEqDiff,Nat.reduceAdd,Nat.reduceMul,Nat.reduceLeDiff,Nat.reduceLT,Nat.reduceSub,reduceCtorEq,zGp, ln6] | ((with_reducible refine rows_intro (fun _ hb => ?_)); try simp only [set_none, ne_eq] at hb) | ((with_reducible refine new_intro (fun _ hb => ?_)); try simp only [set_none, ne_eq] at hb) | (with_reducible refine draw_same ?_) | ((with_reducible refine gd_split ?_ (fun _ => ?_) (fun _ => ?_)); exact rfl) | ((with_reducible refine td_split ?_ (fun _ => ?_) (fun _ => ?_)); exact rfl) | (with_reducible refine c_split (fun _ => ?_) (fun _ => ?_)))
      exact ret_same (h _ _ [b] l6 (New.one hbn) w6)
    · have d1 : (q.op == 1) = false := by simp; omega
      have d2 : (q.op == 2) = false := by simp; omega
      have d7 : (q.op == 7) = true := by simpa using o7
      repeat' (first | simp -implicitDefEqProofs only [zG1,zG2,zG3,zG4,zG5,zG6,zG7,eq_self,resV,rval,X.val,binv,fillL,setR,↓reduceIte,Nat.reduceEqDiff,Nat.reduceAdd,Nat.reduceMul,Nat.reduceLeDiff,Nat.reduceLT,Nat.reduceSub,reduceCtorEq,zGp, c0, c1, c4, d1, d2, d7, g1, adr_lit, Nat.zero_add] | ((with_reducible refine rows_intro (fun _ hb => ?_)); try simp only [set_none, ne_eq] at hb) | ((with_reducible refine new_intro (fun _ hb => ?_)); try simp only [set_none, ne_eq] at hb) | (with_reducible refine draw_same ?_) | ((with_reducible refine gd_split ?_ (fun _ => ?_) (fun _ => ?_)); exact rfl) | ((with_reducible refine td_split ?_ (fun _ => ?_) (fun _ => ?_)); exact rfl) | (with_reducible refine c_split (fun _ => ?_) (fun _ => ?_)))
      refine fin anyF _ (by rw [valueF, if_neg (by omega), if_neg (by omega), if_neg (by omega)]) (fun C6 hc6 l6 w6 => ?_)
      repeat' (first | simp -implicitDefEqProofs only [zG1,zG2,zG3,zG4,zG5,zG6,zG7,eq_self,resV,rval,X.val,binv,fillL,setR,↓reduceIte,Nat.reduceEqDiff,Nat.reduceAdd,Nat.reduceMul,Nat.reduceLeDiff,Nat.reduceLT,Nat.reduceSub,reduceCtorEq,zGp] | ((with_reducible refine rows_intro (fun _ hb => ?_)); try simp only [set_none, ne_eq] at hb) | ((with_reducible refine new_intro (fun _ hb => ?_)); try simp only [set_none, ne_eq] at hb) | (with_reducible refine draw_same ?_) | ((with_reducible refine gd_split ?_ (fun _ => ?_) (fun _ => ?_)); exact rfl) | ((with_reducible refine td_split ?_ (fun _ => ?_) (fun _ => ?_)); exact rfl) | (with_reducible refine c_split (fun _ => ?_) (fun _ => ?_)))
      exact ret_same (h _ _ [b] l6 (New.one hbn) w6)
end Go.Proofs.YtodhkodhndbpmaaGreat
namespace Go.Proofs.YtodhkodhndbpmaaGreat
set_option linter.all false
open Go Go.RowKit
def idle (q : Qd) (i : Int) : Bool := if q.op = 4 ∨ q.op = 5 then q.n == i + 1 else if q.op = 2 then q.dst == q.a else false
def qd0 : Qd := ⟨0, 0, 0, 0, 0⟩
def qAt (qs : List Qd) (i : Nat) : Qd := (qs[i]?).getD qd0
theorem qAt_eq {qs : List Qd} {i : Nat} (h : i < qs.length) : qAt qs i = qs[i] := by simp [qAt, h]
def idx (ks : List Bool) (k : Nat) : List Nat := (List.range k).filter fun i => (ks[i]?).getD false
theorem idx_step (ks : List Bool) {k : Nat} {b : Bool} (h : ks[k]? = some b) : idx ks (k + 1) = if b then idx ks k ++ [k] else idx ks k := by
  simp only [idx, List.range_succ, List.filter_append]
  cases b <;> simp [h]
theorem idx_le (ks : List Bool) (k : Nat) : (idx ks k).length ≤ k := Nat.le_trans (List.length_filter_le _ _) (by simp)
theorem idx_mem {ks : List Bool} {k i : Nat} (h : i ∈ idx ks k) : i < k ∧ ks[i]? = some true := by
  simp only [idx, List.mem_filter, List.mem_range] at h
  refine ⟨h.1, ?_⟩
  cases hk : ks[i]? with
  | none => rw [hk] at h; simp at h
  | some b => rw [hk] at h; simpa using h.2
def place (ks : List Bool) (k : Nat) : Nat := (idx ks k).length
noncomputable def keep (qs : List Qd) : List Bool := (List.range qs.length).map fun i => ((reachL qs)[i]?).getD false && !idle (qAt qs i) i
def moved (ks : List Bool) (q : Qd) : Qd := if q.op = 4 ∨ q.op = 5 then ⟨q.op, q.dst, q.a, q.b, (place ks q.n.toNat : Int)⟩ else q
noncomputable def squeeze (qs : List Qd) : List Qd := if codeValid qs then (idx (keep qs) qs.length).map fun i => moved (keep qs) (qAt qs i) else []
end Go.Proofs.YtodhkodhndbpmaaGreat
namespace Go.Proofs.YtodhkodhndbpmaaGreat
set_option linter.all false
open Go Go.RowKit
set_option maxRecDepth 100000
variable (w0 : World) (H : AHeap) (K : Value → AHeap → Prop)
theorem has_step {xs : List Int} {n : Int} {k : Nat} (h : k < xs.length) (hne : xs[k] ≠ n) (hb : ∀ i, i < k → xs[i]? ≠ some n) : ∀ i, i < k + 1 → xs[i]? ≠ some n := by
  intro i hi
  rcases Nat.lt_succ_iff_lt_or_eq.1 hi with hi | rfl
  · exact hb i hi
  · rw [List.getElem?_eq_getElem h]; intro e; exact hne (Option.some.inj e)
theorem has_none {xs : List Int} {n : Int} (hb : ∀ i, i < xs.length → xs[i]? ≠ some n) : ¬ n ∈ xs := by
  intro hm
  obtain ⟨i, hi, rfl⟩ := List.getElem_of_mem hm
  exact hb i hi (List.getElem?_eq_getElem hi)
theorem l31Has_ok (A : Option Addr) (c : Nat) (xs : List Int) (n : Int) (hx : Fl H A (ints xs)) (hn : xs.length ≤ 4611686018427387904) (h : K (.bool (decide (n ∈ xs))) H) : ACalls Tryz.prog w0 32 [.slice A xs.length c, .int .i64 n] H K := by
  refine acalls_of_sx mix Tryz.func32 of32 (by simp [ir32]) ?_; rw [ir32]; (try delta qT qI qC qO qM qG)
  repeat' (first | simp -implicitDefEqProofs only [zG1,zG2,zG3,zG4,zG5,zG6,zG7,eq_self,resV,rval,X.val,binv,fillL,setR,↓reduceIte,Nat.reduceEqDiff,Nat.reduceAdd,Nat.reduceMul,Nat.reduceLeDiff,Nat.reduceLT,Nat.reduceSub,reduceCtorEq,zGr] | ((with_reducible refine rows_intro (fun _ hb => ?_)); try simp only [set_none, ne_eq] at hb) | ((with_reducible refine new_intro (fun _ hb => ?_)); try simp only [set_none, ne_eq] at hb) | (with_reducible refine draw_same ?_) | ((with_reducible refine gd_split ?_ (fun _ => ?_) (fun _ => ?_)); exact rfl) | ((with_reducible refine td_split ?_ (fun _ => ?_) (fun _ => ?_)); exact rfl) | (with_reducible refine c_split (fun _ => ?_) (fun _ => ?_)))
  refine loop_rule (fun m fr H' => ∃ k : Nat, m = xs.length - k ∧ k ≤ xs.length ∧ H' = H ∧ (∀ i, i < k → xs[i]? ≠ some n) ∧ fr 0 = .slice A xs.length c ∧ fr 1 = .int .i64 n ∧ fr 5 = .int .i64 k) xs.length
    ⟨0, rfl, Nat.zero_le _, rfl, fun i hi => by omega, rfl, rfl, rfl⟩ ?_
  rintro m fr _ ⟨k, rfl, hk, rfl, he, f0, f1, f2⟩
  by_cases hlt : k < xs.length
  · have g0 := lt_dec hlt
    have g1 := rng hlt
    have g2 := up1 hlt hn
    have g3 := hx.ints_is hlt
    have g4 := hx.int hlt
    repeat' (first | simp -implicitDefEqProofs only [zG1,zG2,zG3,zG4,zG5,zG6,zG7,eq_self,resV,rval,X.val,binv,fillL,setR,↓reduceIte,Nat.reduceEqDiff,Nat.reduceAdd,Nat.reduceMul,Nat.reduceLeDiff,Nat.reduceLT,Nat.reduceSub,reduceCtorEq,zGr, f0, f1, f2, g0, g1, g2, g3, g4, Nat.mul_one] | ((with_reducible refine rows_intro (fun _ hb => ?_)); try simp only [set_none, ne_eq] at hb) | ((with_reducible refine new_intro (fun _ hb => ?_)); try simp only [set_none, ne_eq] at hb) | (with_reducible refine draw_same ?_) | ((with_reducible refine gd_split ?_ (fun _ => ?_) (fun _ => ?_)); exact rfl) | ((with_reducible refine td_split ?_ (fun _ => ?_) (fun _ => ?_)); exact rfl) | (with_reducible refine c_split (fun _ => ?_) (fun _ => ?_)))
    · refine ret_same (kb h ?_)
      (try simp only [beq_iff_eq, beq_eq_false_iff_ne, bne_iff_ne, bne_eq_false_iff_eq, decide_eq_true_eq, decide_eq_false_iff_not, ne_eq, Bool.not_eq_true, Bool.not_eq_false, Bool.not_eq_eq_eq_not, Bool.not_true, Bool.not_false, Int.not_lt, Int.not_le, ge_iff_le, gt_iff_lt] at *)
      exact (decide_eq_true (by rw [← ‹xs[k] = n›]; exact List.getElem_mem hlt)).symm
    · (try simp only [beq_iff_eq, beq_eq_false_iff_ne, bne_iff_ne, bne_eq_false_iff_eq, decide_eq_true_eq, decide_eq_false_iff_not, ne_eq, Bool.not_eq_true, Bool.not_eq_false, Bool.not_eq_eq_eq_not, Bool.not_true, Bool.not_false, Int.not_lt, Int.not_le, ge_iff_le, gt_iff_lt] at *)
      refine ⟨_, _, ?_, AHeap.le.refl _, k + 1, rfl, by omega, rfl, has_step hlt ‹_› he, by simp [put_at, f0], by simp [put_at, f1], by simp [put_at]⟩
      omega
  · have g0 := ge_dec hlt
    obtain rfl : k = xs.length := by omega
    repeat' (first | simp -implicitDefEqProofs only [zG1,zG2,zG3,zG4,zG5,zG6,zG7,eq_self,resV,rval,X.val,binv,fillL,setR,↓reduceIte,Nat.reduceEqDiff,Nat.reduceAdd,Nat.reduceMul,Nat.reduceLeDiff,Nat.reduceLT,Nat.reduceSub,reduceCtorEq,zGr, f0, f1, f2, g0] | ((with_reducible refine rows_intro (fun _ hb => ?_)); try simp only [set_none, ne_eq] at hb) | ((with_reducible refine new_intro (fun _ hb => ?_)); try simp only [set_none, ne_eq] at hb) | (with_reducible refine draw_same ?_) | ((with_reducible refine gd_split ?_ (fun _ => ?_) (fun _ => ?_)); exact rfl) | ((with_reducible refine td_split ?_ (fun _ => ?_) (fun _ => ?_)); exact rfl) | (with_reducible refine c_split (fun _ => ?_) (fun _ => ?_)))
    refine ret_same (kb h ?_)
    exact (decide_eq_false (has_none he)).symm
end Go.Proofs.YtodhkodhndbpmaaGreat
namespace Go.Proofs.YtodhkodhndbpmaaGreat
set_option linter.all false
open Go Go.RowKit
set_option maxRecDepth 100000
variable (w0 : World) (H : AHeap) (K : Value → AHeap → Prop)
def isF (f : Fc) (n : Int) : Bool := (f.kind == 1) && (f.n == n)
def foldBin (q : Qd) (f g : Fc) : Qd :=
  if f.kind = 1 ∧ g.kind = 1 then ⟨1, q.dst, 0, 0, applyN q.n f.n g.n⟩
  else if isF g 0 = true ∧ (q.n = 1 ∨ q.n = 2 ∨ q.n = 6 ∨ q.n = 7 ∨ q.n = 8 ∨ q.n = 9) then ⟨2, q.dst, q.a, 0, 0⟩
  else if isF g 1 = true ∧ (q.n = 10 ∨ q.n = 11) then ⟨2, q.dst, q.a, 0, 0⟩
  else if isF f 0 = true ∧ (q.n = 1 ∨ q.n = 2 ∨ q.n = 8) then ⟨2, q.dst, q.b, 0, 0⟩
  else if isF f 1 = true ∧ q.n = 10 then ⟨2, q.dst, q.b, 0, 0⟩
  else if (isF f 0 = true ∨ isF g 0 = true) ∧ (q.n = 3 ∨ q.n = 10) then ⟨1, q.dst, 0, 0, 0⟩
  else q
theorem l33Is_ok (f : Fc) (n : Int) (h : K (.bool (isF f n)) H) : ACalls Tryz.prog w0 101 [f.val, .int .i64 n] H K := by
  refine acalls_of_sx mix Tryz.func101 of101 (by simp [ir101]) ?_; rw [ir101]; (try delta qT qI qC qO qM qG)
  repeat' (first | simp -implicitDefEqProofs only [zG1,zG2,zG3,zG4,zG5,zG6,zG7,eq_self,resV,rval,X.val,binv,fillL,setR,↓reduceIte,Nat.reduceEqDiff,Nat.reduceAdd,Nat.reduceMul,Nat.reduceLeDiff,Nat.reduceLT,Nat.reduceSub,reduceCtorEq,zGp, f_val] | ((with_reducible refine rows_intro (fun _ hb => ?_)); try simp only [set_none, ne_eq] at hb) | ((with_reducible refine new_intro (fun _ hb => ?_)); try simp only [set_none, ne_eq] at hb) | (with_reducible refine draw_same ?_) | ((with_reducible refine gd_split ?_ (fun _ => ?_) (fun _ => ?_)); exact rfl) | ((with_reducible refine td_split ?_ (fun _ => ?_) (fun _ => ?_)); exact rfl) | (with_reducible refine c_split (fun _ => ?_) (fun _ => ?_)))
  all_goals exact ⟨H, (AHeap.le.refl H).fresh (by assumption) _, by simp only [isF, *, Bool.false_and, Bool.true_and] at h ⊢; exact h⟩
theorem stq1 {C : AHeap} {b c : Nat} {f : Qd} {t : TypeId} {D : Value → AHeap → Prop} {x0 x1 x2 x3 x4 : Int} (h : Kn C b ⟨f.cells, true, t, c⟩) (hD : ∀ C', Chg C C' [b] → C'.rdn (some ⟨b, 0, none⟩) 5 = some (⟨x0, x1, x2, x3, x4⟩ : Qd).cells → D undef C') :
    stK 5 (.pointer (some ⟨b, 0, none⟩)) (.agg #[.int .i64 x0, .int .i64 x1, .int .i64 x2, .int .i64 x3, .int .i64 x4]) D C :=
  st_kn h rfl rfl (by simp) (by simp [vcA, Value.oneCell']) fun C' hc ho k => hD C' hc (k.rdn (l := (⟨x0, x1, x2, x3, x4⟩ : Qd).cells) (o := 0) fun j _ => by rw [Nat.zero_add]; rfl)
end Go.Proofs.YtodhkodhndbpmaaGreat
namespace Go.Proofs.YtodhkodhndbpmaaGreat
set_option linter.all false
open Go Go.RowKit
set_option maxRecDepth 100000
variable (w0 : World) (H : AHeap) (K : Value → AHeap → Prop)
def zeroTo (k : Nat) : List Fc := mkF fun r => if r < k then ⟨1, 0⟩ else noneF
theorem zeroTo_zero : zeroTo 0 = botF := extF (mkF_len _) (mkF_len _) fun r hr => by rw [zeroTo, botF, mkF_at _ hr, mkF_at _ hr]; simp
theorem zeroTo_end : zeroTo 12 = zeroF := extF (mkF_len _) (mkF_len _) fun r hr => by rw [zeroTo, zeroF, mkF_at _ hr, mkF_at _ hr, if_pos hr]
def joinTo (a b : List Fc) (k : Nat) : List Fc := mkF fun r => if r < k then joinR (fAt a r) (fAt b r) else fAt a r
theorem joinTo_zero {a b : List Fc} (h : a.length = 12) : joinTo a b 0 = a := extF (mkF_len _) h fun r hr => by rw [joinTo, mkF_at _ hr]; simp
theorem joinTo_end (a b : List Fc) : joinTo a b 12 = joinFs a b := extF (mkF_len _) (mkF_len _) fun r hr => by rw [joinTo, joinFs, mkF_at _ hr, mkF_at _ hr, if_pos hr]
theorem joinTo_at {a b : List Fc} {k : Nat} (hk : k < 12) : fAt (joinTo a b k) k = fAt a k := by rw [joinTo, mkF_at _ hk]; simp
theorem joinTo_set {a b : List Fc} {k : Nat} (hk : k < 12) : (joinTo a b k).set k (joinR (fAt a k) (fAt b k)) = joinTo a b (k + 1) := by
  have hl : (joinTo a b k).length = 12 := mkF_len _
  refine extF (by rw [List.length_set]; exact hl) (mkF_len _) fun r hr => ?_
  rw [fAt_set (by omega), joinTo, joinTo, mkF_at _ hr, mkF_at _ hr]
  by_cases e : k = r
  · subst e; rw [if_pos rfl, if_pos (by omega)]
  · have : (r < k) = (r < k + 1) := by simp; omega
    rw [if_neg e]; simp only [this]
theorem nextL_five {q : Qd} (h : q.op = 5) (i : Int) : q.n ∈ nextL q i ∧ i + 1 ∈ nextL q i := by
  simp only [nextL, h, Int.reduceEq, if_false, true_and]
  refine ⟨?_, ?_⟩
  all_goals (repeat' split)
  all_goals first | (simp; done) | (simp; omega)
theorem edgesQ_in {qs : List Qd} (hv : codeValid qs = true) {i : Nat} (hi : i < qs.length) {v : List Fc} {x : Int} (hx : x ∈ edgesQ qs[i] i v) : 0 ≤ x ∧ x < qs.length := by
  unfold edgesQ at hx
  split at hx
  · rename_i h
    have h5 := nextL_five h.1 i
    split at hx
    · simp at hx; exact next_in hv hi (hx ▸ h5.1)
    · simp at hx; exact next_in hv hi (hx ▸ h5.2)
  · exact next_in hv hi hx
end Go.Proofs.YtodhkodhndbpmaaGreat
namespace Go.Proofs.YtodhkodhndbpmaaGreat
set_option linter.all false
open Go Go.RowKit
set_option maxRecDepth 100000
variable (w0 : World) (H : AHeap) (K : Value → AHeap → Prop)
def foldQ (q : Qd) (i : Int) (v : List Fc) : Qd :=
  if q.op = 2 ∧ (fAt v q.a.toNat).kind = 1 then ⟨1, q.dst, 0, 0, (fAt v q.a.toNat).n⟩
  else if q.op = 3 then foldBin q (fAt v q.a.toNat) (fAt v q.b.toNat)
  else if q.op = 5 ∧ isF (fAt v q.a.toNat) 0 = true then ⟨4, 0, 0, 0, q.n⟩
  else if q.op = 5 ∧ (fAt v q.a.toNat).kind = 1 then ⟨4, 0, 0, 0, i + 1⟩
  else q
theorem valid_op {q : Qd} {m : Int} (hq : quadValid q m = true) (o3 : q.op = 3) : 1 ≤ q.n ∧ q.n ≤ 12 := by
  simp only [quadValid, o3, Bool.and_eq_true, opValid] at hq
  simp at hq
  exact hq.2
end Go.Proofs.YtodhkodhndbpmaaGreat
namespace Go.Proofs.YtodhkodhndbpmaaGreat
set_option linter.all false
open Go Go.RowKit
set_option maxRecDepth 100000
variable (w0 : World) (H : AHeap) (K : Value → AHeap → Prop)
theorem l33Any_ok (A : Option Addr) (c : Nat) (xs : List Int) (n : Int) (hx : Fl H A (ints xs)) (hn : xs.length ≤ 1048576) (h : K (.bool (decide (n ∈ xs))) H) : ACalls Tryz.prog w0 111 [.int .i64 n, .slice A xs.length c] H K := by
  refine acalls_of_sx mix Tryz.func111 of111 (by simp [ir111]) ?_; rw [ir111]; (try delta qT qI qC qO qM qG)
  repeat' (first | simp -implicitDefEqProofs only [zG1,zG2,zG3,zG4,zG5,zG6,zG7,eq_self,resV,rval,X.val,binv,fillL,setR,↓reduceIte,Nat.reduceEqDiff,Nat.reduceAdd,Nat.reduceMul,Nat.reduceLeDiff,Nat.reduceLT,Nat.reduceSub,reduceCtorEq,zGp] | ((with_reducible refine rows_intro (fun _ hb => ?_)); try simp only [set_none, ne_eq] at hb) | ((with_reducible refine new_intro (fun _ hb => ?_)); try simp only [set_none, ne_eq] at hb) | (with_reducible refine draw_same ?_) | ((with_reducible refine gd_split ?_ (fun _ => ?_) (fun _ => ?_)); exact rfl) | ((with_reducible refine td_split ?_ (fun _ => ?_) (fun _ => ?_)); exact rfl) | (with_reducible refine c_split (fun _ => ?_) (fun _ => ?_)) | (with_reducible refine l31Has_ok _ _ _ A c xs n hx (by omega) ?_))
  exact ret_same h
theorem l33Bin_ok (q : Qd) (ho : 1 ≤ q.n ∧ q.n ≤ 12) (f g : Fc) (gf : goodF f) (gg : goodF g) (h : K (foldBin q f g).val H) : ACalls Tryz.prog w0 100 [q.val, f.val, g.val] H K := by
  refine acalls_of_sx mix Tryz.func100 of100 (by simp [ir100]) ?_; rw [ir100]; (try delta qT qI qC qO qM qG)
  repeat' (first | simp -implicitDefEqProofs only [zG1,zG2,zG3,zG4,zG5,zG6,zG7,eq_self,resV,rval,X.val,binv,fillL,setR,↓reduceIte,Nat.reduceEqDiff,Nat.reduceAdd,Nat.reduceMul,Nat.reduceLeDiff,Nat.reduceLT,Nat.reduceSub,reduceCtorEq,zGp, f_val, q_val] | ((with_reducible refine new_intro (fun _ hb => ?_)); try simp only [set_none, ne_eq] at hb))
  rename_i b3 hb3 b4 hb4 b5 hb5 b6
  have k3 : Kn ((((H.set b3 ⟨q.cells, true, 36, 5⟩).set b4 ⟨f.cells, true, 102, 2⟩).set b5 ⟨g.cells, true, 102, 2⟩).set b6 ⟨qd0.cells, true, 36, 5⟩) b3 ⟨q.cells, true, 36, 5⟩ := (((Kn.same _ _ _).set (fun e => hb4.1 e.symm) _).set (fun e => hb5.2.1 e.symm) _).set (fun e => hb.2.2.1 e.symm) _
  have k4 : Kn ((((H.set b3 ⟨q.cells, true, 36, 5⟩).set b4 ⟨f.cells, true, 102, 2⟩).set b5 ⟨g.cells, true, 102, 2⟩).set b6 ⟨qd0.cells, true, 36, 5⟩) b4 ⟨f.cells, true, 102, 2⟩ := ((Kn.same _ _ _).set (fun e => hb5.1 e.symm) _).set (fun e => hb.2.1 e.symm) _
  have k5 : Kn ((((H.set b3 ⟨q.cells, true, 36, 5⟩).set b4 ⟨f.cells, true, 102, 2⟩).set b5 ⟨g.cells, true, 102, 2⟩).set b6 ⟨qd0.cells, true, 36, 5⟩) b5 ⟨g.cells, true, 102, 2⟩ := (Kn.same _ _ _).set (fun e => hb.1 e.symm) _
  have k6 : Kn ((((H.set b3 ⟨q.cells, true, 36, 5⟩).set b4 ⟨f.cells, true, 102, 2⟩).set b5 ⟨g.cells, true, 102, 2⟩).set b6 ⟨qd0.cells, true, 36, 5⟩) b6 ⟨qd0.cells, true, 36, 5⟩ := Kn.same _ _ _
  have h6 : H b6 = none := hb.2.2.2
  have h36 : ¬ b3 = b6 := fun e => hb.2.2.1 e.symm
  have h46 : ¬ b4 = b6 := fun e => hb.2.1 e.symm
  have h56 : ¬ b5 = b6 := fun e => hb.1 e.symm
  have l4 : AHeap.le H ((((H.set b3 ⟨q.cells, true, 36, 5⟩).set b4 ⟨f.cells, true, 102, 2⟩).set b5 ⟨g.cells, true, 102, 2⟩).set b6 ⟨qd0.cells, true, 36, 5⟩) := le_fresh0 (le_fresh0 (le_fresh0 ((AHeap.le.refl H).fresh hb3 _) hb4.2 _) hb5.2.2 _) h6 _
  have e4 : ((((H.set b3 ⟨q.cells, true, 36, 5⟩).set b4 ⟨f.cells, true, 102, 2⟩).set b5 ⟨g.cells, true, 102, 2⟩).set b6 ⟨qd0.cells, true, 36, 5⟩) = ((((H.set b3 ⟨[.int .i64 q.op, .int .i64 q.dst, .int .i64 q.a, .int .i64 q.b, .int .i64 q.n], true, 36, 5⟩).set b4 ⟨[.int .i64 f.kind, .int .i64 f.n], true, 102, 2⟩).set b5 ⟨[.int .i64 g.kind, .int .i64 g.n], true, 102, 2⟩).set b6 ⟨[.int .i64 0, .int .i64 0, .int .i64 0, .int .i64 0, .int .i64 0], true, 36, 5⟩) := rfl
  rw [← e4]
  clear e4
  generalize ((((H.set b3 ⟨q.cells, true, 36, 5⟩).set b4 ⟨f.cells, true, 102, 2⟩).set b5 ⟨g.cells, true, 102, 2⟩).set b6 ⟨qd0.cells, true, 36, 5⟩) = C at k3 k4 k5 k6 l4
  have lH := l4
  have c31 := k3.cell (j := 1) rfl
  have c32 := k3.cell (j := 2) rfl
  have c33 := k3.cell (j := 3) rfl
  have c34 := k3.cell (j := 4) rfl
  have r3 : C.rdn (some ⟨b3, 0, none⟩) 5 = some q.cells := k3.rdn (l := q.cells) (o := 0) fun j _ => by rw [Nat.zero_add]
  have c40 := k4.cell (j := 0) rfl
  have c41 := k4.cell (j := 1) rfl
  have c50 := k5.cell (j := 0) rfl
  have c51 := k5.cell (j := 1) rfl
  have r4 := rdf1 k4
  have r5 := rdf1 k5
  repeat' (first | simp -implicitDefEqProofs only [zG1,zG2,zG3,zG4,zG5,zG6,zG7,eq_self,resV,rval,X.val,binv,fillL,setR,↓reduceIte,Nat.reduceEqDiff,Nat.reduceAdd,Nat.reduceMul,Nat.reduceLeDiff,Nat.reduceLT,Nat.reduceSub,reduceCtorEq,zGp, c31, c32, c33, c34, r3, r4, r5, Int.reduceBEq, adr_lit, Nat.zero_add, Nat.mul_one] | ((with_reducible refine new_intro (fun _ hb => ?_)); try simp only [set_none, ne_eq] at hb) | (with_reducible refine l33Result_ok _ _ _ q ho f g gf gg ?_))
  rename_i b7
  have h7 : C b7 = none := by assumption
  have l7 := (AHeap.le.refl C).fresh h7 ⟨(resF q f g).cells, true, 102, 2⟩
  have k7 := Kn.same C b7 ⟨(resF q f g).cells, true, 102, 2⟩
  have e7 : C.set b7 ⟨(resF q f g).cells, true, 102, 2⟩ = C.set b7 ⟨[.int .i64 (resF q f g).kind, .int .i64 (resF q f g).n], true, 102, 2⟩ := rfl
  rw [← e7]
  clear e7
  have k37 := k3.trans l7
  have k47 := k4.trans l7
  have k57 := k5.trans l7
  have k67 := k6.trans l7
  have lH7 := lH.trans l7
  generalize C.set b7 ⟨(resF q f g).cells, true, 102, 2⟩ = C7 at *
  have c317 := k37.cell (j := 1) rfl
  have c327 := k37.cell (j := 2) rfl
  have c337 := k37.cell (j := 3) rfl
  have c347 := k37.cell (j := 4) rfl
  have r37 : C7.rdn (some ⟨b3, 0, none⟩) 5 = some q.cells := k37.rdn (l := q.cells) (o := 0) fun j _ => by rw [Nat.zero_add]
  have r47 := rdf1 k47
  have r57 := rdf1 k57
  have c70 := k7.cell (j := 0) rfl
  have c71 := k7.cell (j := 1) rfl
  by_cases h1 : f.kind = 1 ∧ g.kind = 1
  · have er : resF q f g = ⟨1, applyN q.n f.n g.n⟩ := by rw [resF, if_pos h1]
    rw [er] at c70 c71
    have d1 : ((resF q f g).kind == 1) = true := by rw [er]; rfl
    repeat' (first | simp -implicitDefEqProofs only [zG1,zG2,zG3,zG4,zG5,zG6,zG7,eq_self,resV,rval,X.val,binv,fillL,setR,↓reduceIte,Nat.reduceEqDiff,Nat.reduceAdd,Nat.reduceMul,Nat.reduceLeDiff,Nat.reduceLT,Nat.reduceSub,reduceCtorEq,zGp, c317, c327, c337, c347, r37, r47, r57, Int.reduceBEq, adr_lit, Nat.zero_add, Nat.mul_one, c70, c71, d1] | ((with_reducible refine rows_intro (fun _ hb => ?_)); try simp only [set_none, ne_eq] at hb) | ((with_reducible refine new_intro (fun _ hb => ?_)); try simp only [set_none, ne_eq] at hb) | (with_reducible refine draw_same ?_) | ((with_reducible refine gd_split ?_ (fun _ => ?_) (fun _ => ?_)); exact rfl) | ((with_reducible refine td_split ?_ (fun _ => ?_) (fun _ => ?_)); exact rfl) | (with_reducible refine c_split (fun _ => ?_) (fun _ => ?_)) | (with_reducible refine l33Is_ok _ _ _ f _ ?_) | (with_reducible refine l33Is_ok _ _ _ g _ ?_))
    refine stq1 k67 (fun C9 hc9 r9 => ?_)
    have l9 := hc9.keep lH7 (New.one h6)
    repeat' (first | simp -implicitDefEqProofs only [zG1,zG2,zG3,zG4,zG5,zG6,zG7,eq_self,resV,rval,X.val,binv,fillL,setR,↓reduceIte,Nat.reduceEqDiff,Nat.reduceAdd,Nat.reduceMul,Nat.reduceLeDiff,Nat.reduceLT,Nat.reduceSub,reduceCtorEq,zGp, r9] | ((with_reducible refine rows_intro (fun _ hb => ?_)); try simp only [set_none, ne_eq] at hb) | ((with_reducible refine new_intro (fun _ hb => ?_)); try simp only [set_none, ne_eq] at hb) | (with_reducible refine draw_same ?_) | ((with_reducible refine gd_split ?_ (fun _ => ?_) (fun _ => ?_)); exact rfl) | ((with_reducible refine td_split ?_ (fun _ => ?_) (fun _ => ?_)); exact rfl) | (with_reducible refine c_split (fun _ => ?_) (fun _ => ?_)))
    refine ⟨H, l9, ?_⟩
    have ez : (⟨1, q.dst, 0, 0, applyN q.n f.n g.n⟩ : Qd) = foldBin q f g := (by rw [foldBin, if_pos h1])
    rw [← ez] at h
    exact h
  · have er : resF q f g = anyF := by rw [resF, if_neg h1]
    rw [er] at c70 c71
    have d1 : ((resF q f g).kind == 1) = false := by rw [er]; rfl
    have z : ∀ (u : Fc) (x : Int), ¬ u.kind = 1 → isF u x = false := fun u x e => by simp [isF, e]
    have kk : ∀ (u : Fc) (x : Int), isF u x = true → u.kind = 1 ∧ u.n = x := fun u x e => by simpa [isF] using e
    cases g0 : isF g 0 with
    | true =>
      have fk : ¬ f.kind = 1 := fun e => h1 ⟨e, (kk g 0 g0).1⟩
      have f0 := z f 0 fk
      have f1 := z f 1 fk
      have g1 : isF g 1 = false := by cases e : isF g 1 with
        | false => rfl
        | true => have := (kk g 0 g0).2; have := (kk g 1 e).2; omega
      repeat' (first | simp -implicitDefEqProofs only [zG1,zG2,zG3,zG4,zG5,zG6,zG7,eq_self,resV,rval,X.val,binv,fillL,setR,↓reduceIte,Nat.reduceEqDiff,Nat.reduceAdd,Nat.reduceMul,Nat.reduceLeDiff,Nat.reduceLT,Nat.reduceSub,reduceCtorEq,zGp, c317, c327, c337, c347, r37, r47, r57, Int.reduceBEq, adr_lit, Nat.zero_add, Nat.mul_one, c70, c71, d1, g0] | ((with_reducible refine rows_intro (fun _ hb => ?_)); try simp only [set_none, ne_eq] at hb) | ((with_reducible refine new_intro (fun _ hb => ?_)); try simp only [set_none, ne_eq] at hb) | (with_reducible refine draw_same ?_) | ((with_reducible refine gd_split ?_ (fun _ => ?_) (fun _ => ?_)); exact rfl) | ((with_reducible refine td_split ?_ (fun _ => ?_) (fun _ => ?_)); exact rfl) | (with_reducible refine c_split (fun _ => ?_) (fun _ => ?_)) | (with_reducible refine l33Is_ok _ _ _ f _ ?_) | (with_reducible refine l33Is_ok _ _ _ g _ ?_))
      rename_i y8
      have hy8 : C7 y8 = none := by assumption
      have l8 := (AHeap.le.refl C7).fresh hy8 ⟨ints [1, 2, 6, 7, 8, 9], true, 3, 6⟩
      have ky8 := Kn.same C7 y8 ⟨ints [1, 2, 6, 7, 8, 9], true, 3, 6⟩
      have e8 : C7.set y8 ⟨ints [1, 2, 6, 7, 8, 9], true, 3, 6⟩ = C7.set y8 ⟨[.int .i64 1, .int .i64 2, .int .i64 6, .int .i64 7, .int .i64 8, .int .i64 9], true, 3, 6⟩ := rfl
      rw [← e8]
      clear e8
      have k38 := k37.trans l8
      have k48 := k47.trans l8
      have k58 := k57.trans l8
      have k68 := k67.trans l8
      have lH8 := lH7.trans l8
      generalize C7.set y8 ⟨ints [1, 2, 6, 7, 8, 9], true, 3, 6⟩ = C8 at *
      have c318 := k38.cell (j := 1) rfl
      have c328 := k38.cell (j := 2) rfl
      have c338 := k38.cell (j := 3) rfl
      have c348 := k38.cell (j := 4) rfl
      have r38 : C8.rdn (some ⟨b3, 0, none⟩) 5 = some q.cells := k38.rdn (l := q.cells) (o := 0) fun j _ => by rw [Nat.zero_add]
      have r48 := rdf1 k48
      have r58 := rdf1 k58
      refine l33Any_ok _ _ _ (some ⟨y8, 0, none⟩) 6 [1, 2, 6, 7, 8, 9] q.n (ky8.fl fun _ _ h => h) (by simp) ?_
      by_cases m1 : q.n ∈ [(1 : Int), 2, 6, 7, 8, 9]
      · have e1 : decide (q.n ∈ [(1 : Int), 2, 6, 7, 8, 9]) = true := decide_eq_true m1
        rw [e1]
        simp only [List.mem_cons, List.not_mem_nil, or_false] at m1
        repeat' (first | simp -implicitDefEqProofs only [zG1,zG2,zG3,zG4,zG5,zG6,zG7,eq_self,resV,rval,X.val,binv,fillL,setR,↓reduceIte,Nat.reduceEqDiff,Nat.reduceAdd,Nat.reduceMul,Nat.reduceLeDiff,Nat.reduceLT,Nat.reduceSub,reduceCtorEq,zGp, c318, c328, c338, c348, r38, r48, r58, Int.reduceBEq, adr_lit, Nat.zero_add, Nat.mul_one, c70, c71, d1] | ((with_reducible refine rows_intro (fun _ hb => ?_)); try simp only [set_none, ne_eq] at hb) | ((with_reducible refine new_intro (fun _ hb => ?_)); try simp only [set_none, ne_eq] at hb) | (with_reducible refine draw_same ?_) | ((with_reducible refine gd_split ?_ (fun _ => ?_) (fun _ => ?_)); exact rfl) | ((with_reducible refine td_split ?_ (fun _ => ?_) (fun _ => ?_)); exact rfl) | (with_reducible refine c_split (fun _ => ?_) (fun _ => ?_)) | (with_reducible refine l33Is_ok _ _ _ f _ ?_) | (with_reducible refine l33Is_ok _ _ _ g _ ?_))
        refine stq1 k68 (fun C9 hc9 r9 => ?_)
        have l9 := hc9.keep lH8 (New.one h6)
        repeat' (first | simp -implicitDefEqProofs only [zG1,zG2,zG3,zG4,zG5,zG6,zG7,eq_self,resV,rval,X.val,binv,fillL,setR,↓reduceIte,Nat.reduceEqDiff,Nat.reduceAdd,Nat.reduceMul,Nat.reduceLeDiff,Nat.reduceLT,Nat.reduceSub,reduceCtorEq,zGp, r9] | ((with_reducible refine rows_intro (fun _ hb => ?_)); try simp only [set_none, ne_eq] at hb) | ((with_reducible refine new_intro (fun _ hb => ?_)); try simp only [set_none, ne_eq] at hb) | (with_reducible refine draw_same ?_) | ((with_reducible refine gd_split ?_ (fun _ => ?_) (fun _ => ?_)); exact rfl) | ((with_reducible refine td_split ?_ (fun _ => ?_) (fun _ => ?_)); exact rfl) | (with_reducible refine c_split (fun _ => ?_) (fun _ => ?_)))
        refine ⟨H, l9, ?_⟩
        have ez : (⟨2, q.dst, q.a, 0, 0⟩ : Qd) = foldBin q f g := (by rw [foldBin, if_neg h1]; simp [g0, m1])
        rw [← ez] at h
        exact h
      · have e1 : decide (q.n ∈ [(1 : Int), 2, 6, 7, 8, 9]) = false := decide_eq_false m1
        rw [e1]
        simp only [List.mem_cons, List.not_mem_nil, or_false] at m1
        repeat' (first | simp -implicitDefEqProofs only [zG1,zG2,zG3,zG4,zG5,zG6,zG7,eq_self,resV,rval,X.val,binv,fillL,setR,↓reduceIte,Nat.reduceEqDiff,Nat.reduceAdd,Nat.reduceMul,Nat.reduceLeDiff,Nat.reduceLT,Nat.reduceSub,reduceCtorEq,zGp, c318, c328, c338, c348, r38, r48, r58, Int.reduceBEq, adr_lit, Nat.zero_add, Nat.mul_one, c70, c71, d1, f0, f1, g0, g1] | ((with_reducible refine rows_intro (fun _ hb => ?_)); try simp only [set_none, ne_eq] at hb) | ((with_reducible refine new_intro (fun _ hb => ?_)); try simp only [set_none, ne_eq] at hb) | (with_reducible refine draw_same ?_) | ((with_reducible refine gd_split ?_ (fun _ => ?_) (fun _ => ?_)); exact rfl) | ((with_reducible refine td_split ?_ (fun _ => ?_) (fun _ => ?_)); exact rfl) | (with_reducible refine c_split (fun _ => ?_) (fun _ => ?_)) | (with_reducible refine l33Is_ok _ _ _ f _ ?_) | (with_reducible refine l33Is_ok _ _ _ g _ ?_))
        rename_i y9
        have hy9 : C8 y9 = none := by assumption
        have l9 := (AHeap.le.refl C8).fresh hy9 ⟨ints [3, 10], true, 3, 2⟩
        have ky9 := Kn.same C8 y9 ⟨ints [3, 10], true, 3, 2⟩
        have e9 : C8.set y9 ⟨ints [3, 10], true, 3, 2⟩ = C8.set y9 ⟨[.int .i64 3, .int .i64 10], true, 3, 2⟩ := rfl
        rw [← e9]
        clear e9
        have k39 := k38.trans l9
        have k49 := k48.trans l9
        have k59 := k58.trans l9
        have k69 := k68.trans l9
        have lH9 := lH8.trans l9
        generalize C8.set y9 ⟨ints [3, 10], true, 3, 2⟩ = C9 at *
        have c319 := k39.cell (j := 1) rfl
        have c329 := k39.cell (j := 2) rfl
        have c339 := k39.cell (j := 3) rfl
        have c349 := k39.cell (j := 4) rfl
        have r39 : C9.rdn (some ⟨b3, 0, none⟩) 5 = some q.cells := k39.rdn (l := q.cells) (o := 0) fun j _ => by rw [Nat.zero_add]
        have r49 := rdf1 k49
        have r59 := rdf1 k59
        refine l33Any_ok _ _ _ (some ⟨y9, 0, none⟩) 2 [3, 10] q.n (ky9.fl fun _ _ h => h) (by simp) ?_
        by_cases m2 : q.n ∈ [(3 : Int), 10]
        · have e2 : decide (q.n ∈ [(3 : Int), 10]) = true := decide_eq_true m2
          rw [e2]
          simp only [List.mem_cons, List.not_mem_nil, or_false] at m2
          repeat' (first | simp -implicitDefEqProofs only [zG1,zG2,zG3,zG4,zG5,zG6,zG7,eq_self,resV,rval,X.val,binv,fillL,setR,↓reduceIte,Nat.reduceEqDiff,Nat.reduceAdd,Nat.reduceMul,Nat.reduceLeDiff,Nat.reduceLT,Nat.reduceSub,reduceCtorEq,zGp, c319, c329, c339, c349, r39, r49, r59, Int.reduceBEq, adr_lit, Nat.zero_add, Nat.mul_one, c70, c71, d1] | ((with_reducible refine rows_intro (fun _ hb => ?_)); try simp only [set_none, ne_eq] at hb) | ((with_reducible refine new_intro (fun _ hb => ?_)); try simp only [set_none, ne_eq] at hb) | (with_reducible refine draw_same ?_) | ((with_reducible refine gd_split ?_ (fun _ => ?_) (fun _ => ?_)); exact rfl) | ((with_reducible refine td_split ?_ (fun _ => ?_) (fun _ => ?_)); exact rfl) | (with_reducible refine c_split (fun _ => ?_) (fun _ => ?_)) | (with_reducible refine l33Is_ok _ _ _ f _ ?_) | (with_reducible refine l33Is_ok _ _ _ g _ ?_))
          refine stq1 k69 (fun C9 hc9 r9 => ?_)
          have l9 := hc9.keep lH9 (New.one h6)
          repeat' (first | simp -implicitDefEqProofs only [zG1,zG2,zG3,zG4,zG5,zG6,zG7,eq_self,resV,rval,X.val,binv,fillL,setR,↓reduceIte,Nat.reduceEqDiff,Nat.reduceAdd,Nat.reduceMul,Nat.reduceLeDiff,Nat.reduceLT,Nat.reduceSub,reduceCtorEq,zGp, r9] | ((with_reducible refine rows_intro (fun _ hb => ?_)); try simp only [set_none, ne_eq] at hb) | ((with_reducible refine new_intro (fun _ hb => ?_)); try simp only [set_none, ne_eq] at hb) | (with_reducible refine draw_same ?_) | ((with_reducible refine gd_split ?_ (fun _ => ?_) (fun _ => ?_)); exact rfl) | ((with_reducible refine td_split ?_ (fun _ => ?_) (fun _ => ?_)); exact rfl) | (with_reducible refine c_split (fun _ => ?_) (fun _ => ?_)))
          refine ⟨H, l9, ?_⟩
          have ez : (⟨1, q.dst, 0, 0, 0⟩ : Qd) = foldBin q f g := (by rw [foldBin, if_neg h1]; simp [g0, g1, f0, f1, m1, m2])
          rw [← ez] at h
          exact h
        · have e2 : decide (q.n ∈ [(3 : Int), 10]) = false := decide_eq_false m2
          rw [e2]
          simp only [List.mem_cons, List.not_mem_nil, or_false] at m2
          repeat' (first | simp -implicitDefEqProofs only [zG1,zG2,zG3,zG4,zG5,zG6,zG7,eq_self,resV,rval,X.val,binv,fillL,setR,↓reduceIte,Nat.reduceEqDiff,Nat.reduceAdd,Nat.reduceMul,Nat.reduceLeDiff,Nat.reduceLT,Nat.reduceSub,reduceCtorEq,zGp, c319, c329, c339, c349, r39, r49, r59, Int.reduceBEq, adr_lit, Nat.zero_add, Nat.mul_one, c70, c71, d1] | ((with_reducible refine rows_intro (fun _ hb => ?_)); try simp only [set_none, ne_eq] at hb) | ((with_reducible refine new_intro (fun _ hb => ?_)); try simp only [set_none, ne_eq] at hb) | (with_reducible refine draw_same ?_) | ((with_reducible refine gd_split ?_ (fun _ => ?_) (fun _ => ?_)); exact rfl) | ((with_reducible refine td_split ?_ (fun _ => ?_) (fun _ => ?_)); exact rfl) | (with_reducible refine c_split (fun _ => ?_) (fun _ => ?_)) | (with_reducible refine l33Is_ok _ _ _ f _ ?_) | (with_reducible refine l33Is_ok _ _ _ g _ ?_))
          refine stq1 k69 (fun C9 hc9 r9 => ?_)
          have l9 := hc9.keep lH9 (New.one h6)
          repeat' (first | simp -implicitDefEqProofs only [zG1,zG2,zG3,zG4,zG5,zG6,zG7,eq_self,resV,rval,X.val,binv,fillL,setR,↓reduceIte,Nat.reduceEqDiff,Nat.reduceAdd,Nat.reduceMul,Nat.reduceLeDiff,Nat.reduceLT,Nat.reduceSub,reduceCtorEq,zGp, r9] | ((with_reducible refine rows_intro (fun _ hb => ?_)); try simp only [set_none, ne_eq] at hb) | ((with_reducible refine new_intro (fun _ hb => ?_)); try simp only [set_none, ne_eq] at hb) | (with_reducible refine draw_same ?_) | ((with_reducible refine gd_split ?_ (fun _ => ?_) (fun _ => ?_)); exact rfl) | ((with_reducible refine td_split ?_ (fun _ => ?_) (fun _ => ?_)); exact rfl) | (with_reducible refine c_split (fun _ => ?_) (fun _ => ?_)))
          refine ⟨H, l9, ?_⟩
          have ez : q = foldBin q f g := (by rw [foldBin, if_neg h1]; simp [g0, g1, f0, f1, m1, m2])
          rw [← ez] at h
          exact h
    | false =>
      cases g1 : isF g 1 with
      | true =>
        have fk : ¬ f.kind = 1 := fun e => h1 ⟨e, (kk g 1 g1).1⟩
        have f0 := z f 0 fk
        have f1 := z f 1 fk
        repeat' (first | simp -implicitDefEqProofs only [zG1,zG2,zG3,zG4,zG5,zG6,zG7,eq_self,resV,rval,X.val,binv,fillL,setR,↓reduceIte,Nat.reduceEqDiff,Nat.reduceAdd,Nat.reduceMul,Nat.reduceLeDiff,Nat.reduceLT,Nat.reduceSub,reduceCtorEq,zGp, c317, c327, c337, c347, r37, r47, r57, Int.reduceBEq, adr_lit, Nat.zero_add, Nat.mul_one, c70, c71, d1, g0, g1] | ((with_reducible refine rows_intro (fun _ hb => ?_)); try simp only [set_none, ne_eq] at hb) | ((with_reducible refine new_intro (fun _ hb => ?_)); try simp only [set_none, ne_eq] at hb) | (with_reducible refine draw_same ?_) | ((with_reducible refine gd_split ?_ (fun _ => ?_) (fun _ => ?_)); exact rfl) | ((with_reducible refine td_split ?_ (fun _ => ?_) (fun _ => ?_)); exact rfl) | (with_reducible refine c_split (fun _ => ?_) (fun _ => ?_)) | (with_reducible refine l33Is_ok _ _ _ f _ ?_) | (with_reducible refine l33Is_ok _ _ _ g _ ?_))
        rename_i y8
        have hy8 : C7 y8 = none := by assumption
        have l8 := (AHeap.le.refl C7).fresh hy8 ⟨ints [10, 11], true, 3, 2⟩
        have ky8 := Kn.same C7 y8 ⟨ints [10, 11], true, 3, 2⟩
        have e8 : C7.set y8 ⟨ints [10, 11], true, 3, 2⟩ = C7.set y8 ⟨[.int .i64 10, .int .i64 11], true, 3, 2⟩ := rfl
        rw [← e8]
        clear e8
        have k38 := k37.trans l8
        have k48 := k47.trans l8
        have k58 := k57.trans l8
        have k68 := k67.trans l8
        have lH8 := lH7.trans l8
        generalize C7.set y8 ⟨ints [10, 11], true, 3, 2⟩ = C8 at *
        have c318 := k38.cell (j := 1) rfl
        have c328 := k38.cell (j := 2) rfl
        have c338 := k38.cell (j := 3) rfl
        have c348 := k38.cell (j := 4) rfl
        have r38 : C8.rdn (some ⟨b3, 0, none⟩) 5 = some q.cells := k38.rdn (l := q.cells) (o := 0) fun j _ => by rw [Nat.zero_add]
        have r48 := rdf1 k48
        have r58 := rdf1 k58
        refine l33Any_ok _ _ _ (some ⟨y8, 0, none⟩) 2 [10, 11] q.n (ky8.fl fun _ _ h => h) (by simp) ?_
        by_cases m1 : q.n ∈ [(10 : Int), 11]
        · have e1 : decide (q.n ∈ [(10 : Int), 11]) = true := decide_eq_true m1
          rw [e1]
          simp only [List.mem_cons, List.not_mem_nil, or_false] at m1
          repeat' (first | simp -implicitDefEqProofs only [zG1,zG2,zG3,zG4,zG5,zG6,zG7,eq_self,resV,rval,X.val,binv,fillL,setR,↓reduceIte,Nat.reduceEqDiff,Nat.reduceAdd,Nat.reduceMul,Nat.reduceLeDiff,Nat.reduceLT,Nat.reduceSub,reduceCtorEq,zGp, c318, c328, c338, c348, r38, r48, r58, Int.reduceBEq, adr_lit, Nat.zero_add, Nat.mul_one, c70, c71, d1] | ((with_reducible refine rows_intro (fun _ hb => ?_)); try simp only [set_none, ne_eq] at hb) | ((with_reducible refine new_intro (fun _ hb => ?_)); try simp only [set_none, ne_eq] at hb) | (with_reducible refine draw_same ?_) | ((with_reducible refine gd_split ?_ (fun _ => ?_) (fun _ => ?_)); exact rfl) | ((with_reducible refine td_split ?_ (fun _ => ?_) (fun _ => ?_)); exact rfl) | (with_reducible refine c_split (fun _ => ?_) (fun _ => ?_)) | (with_reducible refine l33Is_ok _ _ _ f _ ?_) | (with_reducible refine l33Is_ok _ _ _ g _ ?_))
          refine stq1 k68 (fun C9 hc9 r9 => ?_)
          have l9 := hc9.keep lH8 (New.one h6)
          repeat' (first | simp -implicitDefEqProofs only [zG1,zG2,zG3,zG4,zG5,zG6,zG7,eq_self,resV,rval,X.val,binv,fillL,setR,↓reduceIte,Nat.reduceEqDiff,Nat.reduceAdd,Nat.reduceMul,Nat.reduceLeDiff,Nat.reduceLT,Nat.reduceSub,reduceCtorEq,zGp, r9] | ((with_reducible refine rows_intro (fun _ hb => ?_)); try simp only [set_none, ne_eq] at hb) | ((with_reducible refine new_intro (fun _ hb => ?_)); try simp only [set_none, ne_eq] at hb) | (with_reducible refine draw_same ?_) | ((with_reducible refine gd_split ?_ (fun _ => ?_) (fun _ => ?_)); exact rfl) | ((with_reducible refine td_split ?_ (fun _ => ?_) (fun _ => ?_)); exact rfl) | (with_reducible refine c_split (fun _ => ?_) (fun _ => ?_)))
          refine ⟨H, l9, ?_⟩
          have ez : (⟨2, q.dst, q.a, 0, 0⟩ : Qd) = foldBin q f g := (by rw [foldBin, if_neg h1]; simp [g0, g1, m1])
          rw [← ez] at h
          exact h
        · have e1 : decide (q.n ∈ [(10 : Int), 11]) = false := decide_eq_false m1
          rw [e1]
          simp only [List.mem_cons, List.not_mem_nil, or_false] at m1
          repeat' (first | simp -implicitDefEqProofs only [zG1,zG2,zG3,zG4,zG5,zG6,zG7,eq_self,resV,rval,X.val,binv,fillL,setR,↓reduceIte,Nat.reduceEqDiff,Nat.reduceAdd,Nat.reduceMul,Nat.reduceLeDiff,Nat.reduceLT,Nat.reduceSub,reduceCtorEq,zGp, c318, c328, c338, c348, r38, r48, r58, Int.reduceBEq, adr_lit, Nat.zero_add, Nat.mul_one, c70, c71, d1, f0, f1, g0, g1] | ((with_reducible refine rows_intro (fun _ hb => ?_)); try simp only [set_none, ne_eq] at hb) | ((with_reducible refine new_intro (fun _ hb => ?_)); try simp only [set_none, ne_eq] at hb) | (with_reducible refine draw_same ?_) | ((with_reducible refine gd_split ?_ (fun _ => ?_) (fun _ => ?_)); exact rfl) | ((with_reducible refine td_split ?_ (fun _ => ?_) (fun _ => ?_)); exact rfl) | (with_reducible refine c_split (fun _ => ?_) (fun _ => ?_)) | (with_reducible refine l33Is_ok _ _ _ f _ ?_) | (with_reducible refine l33Is_ok _ _ _ g _ ?_))
          refine stq1 k68 (fun C9 hc9 r9 => ?_)
          have l9 := hc9.keep lH8 (New.one h6)
          repeat' (first | simp -implicitDefEqProofs only [zG1,zG2,zG3,zG4,zG5,zG6,zG7,eq_self,resV,rval,X.val,binv,fillL,setR,↓reduceIte,Nat.reduceEqDiff,Nat.reduceAdd,Nat.reduceMul,Nat.reduceLeDiff,Nat.reduceLT,Nat.reduceSub,reduceCtorEq,zGp, r9] | ((with_reducible refine rows_intro (fun _ hb => ?_)); try simp only [set_none, ne_eq] at hb) | ((with_reducible refine new_intro (fun _ hb => ?_)); try simp only [set_none, ne_eq] at hb) | (with_reducible refine draw_same ?_) | ((with_reducible refine gd_split ?_ (fun _ => ?_) (fun _ => ?_)); exact rfl) | ((with_reducible refine td_split ?_ (fun _ => ?_) (fun _ => ?_)); exact rfl) | (with_reducible refine c_split (fun _ => ?_) (fun _ => ?_)))
          refine ⟨H, l9, ?_⟩
          have ez : q = foldBin q f g := (by rw [foldBin, if_neg h1]; simp [g0, g1, f0, f1, m1])
          rw [← ez] at h
          exact h
      | false =>
        cases f0 : isF f 0 with
        | true =>
          have f1 : isF f 1 = false := by cases e : isF f 1 with
            | false => rfl
            | true => have := (kk f 0 f0).2; have := (kk f 1 e).2; omega
          repeat' (first | simp -implicitDefEqProofs only [zG1,zG2,zG3,zG4,zG5,zG6,zG7,eq_self,resV,rval,X.val,binv,fillL,setR,↓reduceIte,Nat.reduceEqDiff,Nat.reduceAdd,Nat.reduceMul,Nat.reduceLeDiff,Nat.reduceLT,Nat.reduceSub,reduceCtorEq,zGp, c317, c327, c337, c347, r37, r47, r57, Int.reduceBEq, adr_lit, Nat.zero_add, Nat.mul_one, c70, c71, d1, g0, g1, f0] | ((with_reducible refine rows_intro (fun _ hb => ?_)); try simp only [set_none, ne_eq] at hb) | ((with_reducible refine new_intro (fun _ hb => ?_)); try simp only [set_none, ne_eq] at hb) | (with_reducible refine draw_same ?_) | ((with_reducible refine gd_split ?_ (fun _ => ?_) (fun _ => ?_)); exact rfl) | ((with_reducible refine td_split ?_ (fun _ => ?_) (fun _ => ?_)); exact rfl) | (with_reducible refine c_split (fun _ => ?_) (fun _ => ?_)) | (with_reducible refine l33Is_ok _ _ _ f _ ?_) | (with_reducible refine l33Is_ok _ _ _ g _ ?_))
          rename_i y8
          have hy8 : C7 y8 = none := by assumption
          have l8 := (AHeap.le.refl C7).fresh hy8 ⟨ints [1, 2, 8], true, 3, 3⟩
          have ky8 := Kn.same C7 y8 ⟨ints [1, 2, 8], true, 3, 3⟩
          have e8 : C7.set y8 ⟨ints [1, 2, 8], true, 3, 3⟩ = C7.set y8 ⟨[.int .i64 1, .int .i64 2, .int .i64 8], true, 3, 3⟩ := rfl
          rw [← e8]
          clear e8
          have k38 := k37.trans l8
          have k48 := k47.trans l8
          have k58 := k57.trans l8
          have k68 := k67.trans l8
          have lH8 := lH7.trans l8
          generalize C7.set y8 ⟨ints [1, 2, 8], true, 3, 3⟩ = C8 at *
          have c318 := k38.cell (j := 1) rfl
          have c328 := k38.cell (j := 2) rfl
          have c338 := k38.cell (j := 3) rfl
          have c348 := k38.cell (j := 4) rfl
          have r38 : C8.rdn (some ⟨b3, 0, none⟩) 5 = some q.cells := k38.rdn (l := q.cells) (o := 0) fun j _ => by rw [Nat.zero_add]
          have r48 := rdf1 k48
          have r58 := rdf1 k58
          refine l33Any_ok _ _ _ (some ⟨y8, 0, none⟩) 3 [1, 2, 8] q.n (ky8.fl fun _ _ h => h) (by simp) ?_
          by_cases m1 : q.n ∈ [(1 : Int), 2, 8]
          · have e1 : decide (q.n ∈ [(1 : Int), 2, 8]) = true := decide_eq_true m1
            rw [e1]
            simp only [List.mem_cons, List.not_mem_nil, or_false] at m1
            repeat' (first | simp -implicitDefEqProofs only [zG1,zG2,zG3,zG4,zG5,zG6,zG7,eq_self,resV,rval,X.val,binv,fillL,setR,↓reduceIte,Nat.reduceEqDiff,Nat.reduceAdd,Nat.reduceMul,Nat.reduceLeDiff,Nat.reduceLT,Nat.reduceSub,reduceCtorEq,zGp, c318, c328, c338, c348, r38, r48, r58, Int.reduceBEq, adr_lit, Nat.zero_add, Nat.mul_one, c70, c71, d1] | ((with_reducible refine rows_intro (fun _ hb => ?_)); try simp only [set_none, ne_eq] at hb) | ((with_reducible refine new_intro (fun _ hb => ?_)); try simp only [set_none, ne_eq] at hb) | (with_reducible refine draw_same ?_) | ((with_reducible refine gd_split ?_ (fun _ => ?_) (fun _ => ?_)); exact rfl) | ((with_reducible refine td_split ?_ (fun _ => ?_) (fun _ => ?_)); exact rfl) | (with_reducible refine c_split (fun _ => ?_) (fun _ => ?_)) | (with_reducible refine l33Is_ok _ _ _ f _ ?_) | (with_reducible refine l33Is_ok _ _ _ g _ ?_))
            refine stq1 k68 (fun C9 hc9 r9 => ?_)
            have l9 := hc9.keep lH8 (New.one h6)
            repeat' (first | simp -implicitDefEqProofs only [zG1,zG2,zG3,zG4,zG5,zG6,zG7,eq_self,resV,rval,X.val,binv,fillL,setR,↓reduceIte,Nat.reduceEqDiff,Nat.reduceAdd,Nat.reduceMul,Nat.reduceLeDiff,Nat.reduceLT,Nat.reduceSub,reduceCtorEq,zGp, r9] | ((with_reducible refine rows_intro (fun _ hb => ?_)); try simp only [set_none, ne_eq] at hb) | ((with_reducible refine new_intro (fun _ hb => ?_)); try simp only [set_none, ne_eq] at hb) | (with_reducible refine draw_same ?_) | ((with_reducible refine gd_split ?_ (fun _ => ?_) (fun _ => ?_)); exact rfl) | ((with_reducible refine td_split ?_ (fun _ => ?_) (fun _ => ?_)); exact rfl) | (with_reducible refine c_split (fun _ => ?_) (fun _ => ?_)))
            refine ⟨H, l9, ?_⟩
            have ez : (⟨2, q.dst, q.b, 0, 0⟩ : Qd) = foldBin q f g := (by rw [foldBin, if_neg h1]; simp [g0, g1, f0, m1])
            rw [← ez] at h
            exact h
          · have e1 : decide (q.n ∈ [(1 : Int), 2, 8]) = false := decide_eq_false m1
            rw [e1]
            simp only [List.mem_cons, List.not_mem_nil, or_false] at m1
            repeat' (first | simp -implicitDefEqProofs only [zG1,zG2,zG3,zG4,zG5,zG6,zG7,eq_self,resV,rval,X.val,binv,fillL,setR,↓reduceIte,Nat.reduceEqDiff,Nat.reduceAdd,Nat.reduceMul,Nat.reduceLeDiff,Nat.reduceLT,Nat.reduceSub,reduceCtorEq,zGp, c318, c328, c338, c348, r38, r48, r58, Int.reduceBEq, adr_lit, Nat.zero_add, Nat.mul_one, c70, c71, d1, f0, f1, g0, g1] | ((with_reducible refine rows_intro (fun _ hb => ?_)); try simp only [set_none, ne_eq] at hb) | ((with_reducible refine new_intro (fun _ hb => ?_)); try simp only [set_none, ne_eq] at hb) | (with_reducible refine draw_same ?_) | ((with_reducible refine gd_split ?_ (fun _ => ?_) (fun _ => ?_)); exact rfl) | ((with_reducible refine td_split ?_ (fun _ => ?_) (fun _ => ?_)); exact rfl) | (with_reducible refine c_split (fun _ => ?_) (fun _ => ?_)) | (with_reducible refine l33Is_ok _ _ _ f _ ?_) | (with_reducible refine l33Is_ok _ _ _ g _ ?_))
            rename_i y9
            have hy9 : C8 y9 = none := by assumption
            have l9 := (AHeap.le.refl C8).fresh hy9 ⟨ints [3, 10], true, 3, 2⟩
            have ky9 := Kn.same C8 y9 ⟨ints [3, 10], true, 3, 2⟩
            have e9 : C8.set y9 ⟨ints [3, 10], true, 3, 2⟩ = C8.set y9 ⟨[.int .i64 3, .int .i64 10], true, 3, 2⟩ := rfl
            rw [← e9]
            clear e9
            have k39 := k38.trans l9
            have k49 := k48.trans l9
            have k59 := k58.trans l9
            have k69 := k68.trans l9
            have lH9 := lH8.trans l9
            generalize C8.set y9 ⟨ints [3, 10], true, 3, 2⟩ = C9 at *
            have c319 := k39.cell (j := 1) rfl
            have c329 := k39.cell (j := 2) rfl
            have c339 := k39.cell (j := 3) rfl
            have c349 := k39.cell (j := 4) rfl
            have r39 : C9.rdn (some ⟨b3, 0, none⟩) 5 = some q.cells := k39.rdn (l := q.cells) (o := 0) fun j _ => by rw [Nat.zero_add]
            have r49 := rdf1 k49
            have r59 := rdf1 k59
            refine l33Any_ok _ _ _ (some ⟨y9, 0, none⟩) 2 [3, 10] q.n (ky9.fl fun _ _ h => h) (by simp) ?_
            by_cases m2 : q.n ∈ [(3 : Int), 10]
            · have e2 : decide (q.n ∈ [(3 : Int), 10]) = true := decide_eq_true m2
              rw [e2]
              simp only [List.mem_cons, List.not_mem_nil, or_false] at m2
              repeat' (first | simp -implicitDefEqProofs only [zG1,zG2,zG3,zG4,zG5,zG6,zG7,eq_self,resV,rval,X.val,binv,fillL,setR,↓reduceIte,Nat.reduceEqDiff,Nat.reduceAdd,Nat.reduceMul,Nat.reduceLeDiff,Nat.reduceLT,Nat.reduceSub,reduceCtorEq,zGp, c319, c329, c339, c349, r39, r49, r59, Int.reduceBEq, adr_lit, Nat.zero_add, Nat.mul_one, c70, c71, d1] | ((with_reducible refine rows_intro (fun _ hb => ?_)); try simp only [set_none, ne_eq] at hb) | ((with_reducible refine new_intro (fun _ hb => ?_)); try simp only [set_none, ne_eq] at hb) | (with_reducible refine draw_same ?_) | ((with_reducible refine gd_split ?_ (fun _ => ?_) (fun _ => ?_)); exact rfl) | ((with_reducible refine td_split ?_ (fun _ => ?_) (fun _ => ?_)); exact rfl) | (with_reducible refine c_split (fun _ => ?_) (fun _ => ?_)) | (with_reducible refine l33Is_ok _ _ _ f _ ?_) | (with_reducible refine l33Is_ok _ _ _ g _ ?_))
              refine stq1 k69 (fun C9 hc9 r9 => ?_)
              have l9 := hc9.keep lH9 (New.one h6)
              repeat' (first | simp -implicitDefEqProofs only [zG1,zG2,zG3,zG4,zG5,zG6,zG7,eq_self,resV,rval,X.val,binv,fillL,setR,↓reduceIte,Nat.reduceEqDiff,Nat.reduceAdd,Nat.reduceMul,Nat.reduceLeDiff,Nat.reduceLT,Nat.reduceSub,reduceCtorEq,zGp, r9] | ((with_reducible refine rows_intro (fun _ hb => ?_)); try simp only [set_none, ne_eq] at hb) | ((with_reducible refine new_intro (fun _ hb => ?_)); try simp only [set_none, ne_eq] at hb) | (with_reducible refine draw_same ?_) | ((with_reducible refine gd_split ?_ (fun _ => ?_) (fun _ => ?_)); exact rfl) | ((with_reducible refine td_split ?_ (fun _ => ?_) (fun _ => ?_)); exact rfl) | (with_reducible refine c_split (fun _ => ?_) (fun _ => ?_)))
              refine ⟨H, l9, ?_⟩
              have ez : (⟨1, q.dst, 0, 0, 0⟩ : Qd) = foldBin q f g := (by rw [foldBin, if_neg h1]; simp [g0, g1, f0, f1, m1, m2])
              rw [← ez] at h
              exact h
            · have e2 : decide (q.n ∈ [(3 : Int), 10]) = false := decide_eq_false m2
              rw [e2]
              simp only [List.mem_cons, List.not_mem_nil, or_false] at m2
              repeat' (first | simp -implicitDefEqProofs only [zG1,zG2,zG3,zG4,zG5,zG6,zG7,eq_self,resV,rval,X.val,binv,fillL,setR,↓reduceIte,Nat.reduceEqDiff,Nat.reduceAdd,Nat.reduceMul,Nat.reduceLeDiff,Nat.reduceLT,Nat.reduceSub,reduceCtorEq,zGp, c319, c329, c339, c349, r39, r49, r59, Int.reduceBEq, adr_lit, Nat.zero_add, Nat.mul_one, c70, c71, d1] | ((with_reducible refine rows_intro (fun _ hb => ?_)); try simp only [set_none, ne_eq] at hb) | ((with_reducible refine new_intro (fun _ hb => ?_)); try simp only [set_none, ne_eq] at hb) | (with_reducible refine draw_same ?_) | ((with_reducible refine gd_split ?_ (fun _ => ?_) (fun _ => ?_)); exact rfl) | ((with_reducible refine td_split ?_ (fun _ => ?_) (fun _ => ?_)); exact rfl) | (with_reducible refine c_split (fun _ => ?_) (fun _ => ?_)) | (with_reducible refine l33Is_ok _ _ _ f _ ?_) | (with_reducible refine l33Is_ok _ _ _ g _ ?_))
              refine stq1 k69 (fun C9 hc9 r9 => ?_)
              have l9 := hc9.keep lH9 (New.one h6)
              repeat' (first | simp -implicitDefEqProofs only [zG1,zG2,zG3,zG4,zG5,zG6,zG7,eq_self,resV,rval,X.val,binv,fillL,setR,↓reduceIte,Nat.reduceEqDiff,Nat.reduceAdd,Nat.reduceMul,Nat.reduceLeDiff,Nat.reduceLT,Nat.reduceSub,reduceCtorEq,zGp, r9] | ((with_reducible refine rows_intro (fun _ hb => ?_)); try simp only [set_none, ne_eq] at hb) | ((with_reducible refine new_intro (fun _ hb => ?_)); try simp only [set_none, ne_eq] at hb) | (with_reducible refine draw_same ?_) | ((with_reducible refine gd_split ?_ (fun _ => ?_) (fun _ => ?_)); exact rfl) | ((with_reducible refine td_split ?_ (fun _ => ?_) (fun _ => ?_)); exact rfl) | (with_reducible refine c_split (fun _ => ?_) (fun _ => ?_)))
              refine ⟨H, l9, ?_⟩
              have ez : q = foldBin q f g := (by rw [foldBin, if_neg h1]; simp [g0, g1, f0, f1, m1, m2])
              rw [← ez] at h
              exact h
        | false =>
          cases f1 : isF f 1 with
          | true =>
            by_cases m1 : q.n = 10
            · have e1 : (q.n == 10) = true := by simpa using m1
              repeat' (first | simp -implicitDefEqProofs only [zG1,zG2,zG3,zG4,zG5,zG6,zG7,eq_self,resV,rval,X.val,binv,fillL,setR,↓reduceIte,Nat.reduceEqDiff,Nat.reduceAdd,Nat.reduceMul,Nat.reduceLeDiff,Nat.reduceLT,Nat.reduceSub,reduceCtorEq,zGp, c317, c327, c337, c347, r37, r47, r57, Int.reduceBEq, adr_lit, Nat.zero_add, Nat.mul_one, c70, c71, d1, g0, g1, f0, f1, e1] | ((with_reducible refine rows_intro (fun _ hb => ?_)); try simp only [set_none, ne_eq] at hb) | ((with_reducible refine new_intro (fun _ hb => ?_)); try simp only [set_none, ne_eq] at hb) | (with_reducible refine draw_same ?_) | ((with_reducible refine gd_split ?_ (fun _ => ?_) (fun _ => ?_)); exact rfl) | ((with_reducible refine td_split ?_ (fun _ => ?_) (fun _ => ?_)); exact rfl) | (with_reducible refine c_split (fun _ => ?_) (fun _ => ?_)) | (with_reducible refine l33Is_ok _ _ _ f _ ?_) | (with_reducible refine l33Is_ok _ _ _ g _ ?_))
              refine stq1 k67 (fun C9 hc9 r9 => ?_)
              have l9 := hc9.keep lH7 (New.one h6)
              repeat' (first | simp -implicitDefEqProofs only [zG1,zG2,zG3,zG4,zG5,zG6,zG7,eq_self,resV,rval,X.val,binv,fillL,setR,↓reduceIte,Nat.reduceEqDiff,Nat.reduceAdd,Nat.reduceMul,Nat.reduceLeDiff,Nat.reduceLT,Nat.reduceSub,reduceCtorEq,zGp, r9] | ((with_reducible refine rows_intro (fun _ hb => ?_)); try simp only [set_none, ne_eq] at hb) | ((with_reducible refine new_intro (fun _ hb => ?_)); try simp only [set_none, ne_eq] at hb) | (with_reducible refine draw_same ?_) | ((with_reducible refine gd_split ?_ (fun _ => ?_) (fun _ => ?_)); exact rfl) | ((with_reducible refine td_split ?_ (fun _ => ?_) (fun _ => ?_)); exact rfl) | (with_reducible refine c_split (fun _ => ?_) (fun _ => ?_)))
              refine ⟨H, l9, ?_⟩
              have ez : (⟨2, q.dst, q.b, 0, 0⟩ : Qd) = foldBin q f g := (by rw [foldBin, if_neg h1]; simp [g0, g1, f0, f1, m1])
              rw [← ez] at h
              exact h
            · have e1 : (q.n == 10) = false := by simpa using m1
              repeat' (first | simp -implicitDefEqProofs only [zG1,zG2,zG3,zG4,zG5,zG6,zG7,eq_self,resV,rval,X.val,binv,fillL,setR,↓reduceIte,Nat.reduceEqDiff,Nat.reduceAdd,Nat.reduceMul,Nat.reduceLeDiff,Nat.reduceLT,Nat.reduceSub,reduceCtorEq,zGp, c317, c327, c337, c347, r37, r47, r57, Int.reduceBEq, adr_lit, Nat.zero_add, Nat.mul_one, c70, c71, d1, g0, g1, f0, f1, e1] | ((with_reducible refine rows_intro (fun _ hb => ?_)); try simp only [set_none, ne_eq] at hb) | ((with_reducible refine new_intro (fun _ hb => ?_)); try simp only [set_none, ne_eq] at hb) | (with_reducible refine draw_same ?_) | ((with_reducible refine gd_split ?_ (fun _ => ?_) (fun _ => ?_)); exact rfl) | ((with_reducible refine td_split ?_ (fun _ => ?_) (fun _ => ?_)); exact rfl) | (with_reducible refine c_split (fun _ => ?_) (fun _ => ?_)) | (with_reducible refine l33Is_ok _ _ _ f _ ?_) | (with_reducible refine l33Is_ok _ _ _ g _ ?_))
              refine stq1 k67 (fun C9 hc9 r9 => ?_)
              have l9 := hc9.keep lH7 (New.one h6)
              repeat' (first | simp -implicitDefEqProofs only [zG1,zG2,zG3,zG4,zG5,zG6,zG7,eq_self,resV,rval,X.val,binv,fillL,setR,↓reduceIte,Nat.reduceEqDiff,Nat.reduceAdd,Nat.reduceMul,Nat.reduceLeDiff,Nat.reduceLT,Nat.reduceSub,reduceCtorEq,zGp, r9] | ((with_reducible refine rows_intro (fun _ hb => ?_)); try simp only [set_none, ne_eq] at hb) | ((with_reducible refine new_intro (fun _ hb => ?_)); try simp only [set_none, ne_eq] at hb) | (with_reducible refine draw_same ?_) | ((with_reducible refine gd_split ?_ (fun _ => ?_) (fun _ => ?_)); exact rfl) | ((with_reducible refine td_split ?_ (fun _ => ?_) (fun _ => ?_)); exact rfl) | (with_reducible refine c_split (fun _ => ?_) (fun _ => ?_)))
              refine ⟨H, l9, ?_⟩
              have ez : q = foldBin q f g := (by rw [foldBin, if_neg h1]; simp [g0, g1, f0, f1, m1])
              rw [← ez] at h
              exact h
          | false =>
            repeat' (first | simp -implicitDefEqProofs only [zG1,zG2,zG3,zG4,zG5,zG6,zG7,eq_self,resV,rval,X.val,binv,fillL,setR,↓reduceIte,Nat.reduceEqDiff,Nat.reduceAdd,Nat.reduceMul,Nat.reduceLeDiff,Nat.reduceLT,Nat.reduceSub,reduceCtorEq,zGp, c317, c327, c337, c347, r37, r47, r57, Int.reduceBEq, adr_lit, Nat.zero_add, Nat.mul_one, c70, c71, d1, g0, g1, f0, f1] | ((with_reducible refine rows_intro (fun _ hb => ?_)); try simp only [set_none, ne_eq] at hb) | ((with_reducible refine new_intro (fun _ hb => ?_)); try simp only [set_none, ne_eq] at hb) | (with_reducible refine draw_same ?_) | ((with_reducible refine gd_split ?_ (fun _ => ?_) (fun _ => ?_)); exact rfl) | ((with_reducible refine td_split ?_ (fun _ => ?_) (fun _ => ?_)); exact rfl) | (with_reducible refine c_split (fun _ => ?_) (fun _ => ?_)) | (with_reducible refine l33Is_ok _ _ _ f _ ?_) | (with_reducible refine l33Is_ok _ _ _ g _ ?_))
            refine stq1 k67 (fun C9 hc9 r9 => ?_)
            have l9 := hc9.keep lH7 (New.one h6)
            repeat' (first | simp -implicitDefEqProofs only [zG1,zG2,zG3,zG4,zG5,zG6,zG7,eq_self,resV,rval,X.val,binv,fillL,setR,↓reduceIte,Nat.reduceEqDiff,Nat.reduceAdd,Nat.reduceMul,Nat.reduceLeDiff,Nat.reduceLT,Nat.reduceSub,reduceCtorEq,zGp, r9] | ((with_reducible refine rows_intro (fun _ hb => ?_)); try simp only [set_none, ne_eq] at hb) | ((with_reducible refine new_intro (fun _ hb => ?_)); try simp only [set_none, ne_eq] at hb) | (with_reducible refine draw_same ?_) | ((with_reducible refine gd_split ?_ (fun _ => ?_) (fun _ => ?_)); exact rfl) | ((with_reducible refine td_split ?_ (fun _ => ?_) (fun _ => ?_)); exact rfl) | (with_reducible refine c_split (fun _ => ?_) (fun _ => ?_)))
            refine ⟨H, l9, ?_⟩
            have ez : q = foldBin q f g := (by rw [foldBin, if_neg h1]; simp [g0, g1, f0, f1])
            rw [← ez] at h
            exact h
end Go.Proofs.YtodhkodhndbpmaaGreat
namespace Go.Proofs.YtodhkodhndbpmaaGreat
set_option linter.all false
open Go Go.RowKit
set_option maxRecDepth 100000
variable (w0 : World) (H : AHeap) (K : Value → AHeap → Prop)
def foldV (q : Qd) (i : Int) (v : List Fc) : Qd := if (fAt v 0).kind = 0 then q else foldQ q i v
theorem l33Fold_ok (q : Qd) (hq : quadValid q 600 = true) (A : Option Addr) (c : Nat) (v : List Fc) (hv : okF v) (i : Nat) (hi : i ≤ 1048576) (hx : Fl H A (fcells v)) (h : K (foldV q i v).val H) : ACalls Tryz.prog w0 86 [q.val, .slice A 12 c, .int .i64 i] H K := by
  have hl := okF_len hv
  obtain ⟨ga, gb⟩ := valid_regs hq
  have w1 : IntKind.i64.wrap ((i : Int) + 1) = (i : Int) + 1 := wrap_i64 (by omega) (by omega)
  have z0 : ((0 : Int) ≤ 0 ∧ (0 : Int) < ((12 : Nat) : Int)) = True := by simp
  have t00 : (0 : Int).toNat = 0 := rfl
  have e0 : fAt v 0 = v[0]'(by omega) := fAt_eq (by omega)
  refine acalls_of_sx mix Tryz.func86 of86 (by simp [ir86]) ?_; rw [ir86]; (try delta qT qI qC qO qM qG)
  repeat' (first | simp -implicitDefEqProofs only [zG1,zG2,zG3,zG4,zG5,zG6,zG7,eq_self,resV,rval,X.val,binv,fillL,setR,↓reduceIte,Nat.reduceEqDiff,Nat.reduceAdd,Nat.reduceMul,Nat.reduceLeDiff,Nat.reduceLT,Nat.reduceSub,reduceCtorEq,zGp, q_val] | ((with_reducible refine new_intro (fun _ hb => ?_)); try simp only [set_none, ne_eq] at hb))
  rename_i b3 hb3 b6
  have k3 : Kn ((H.set b3 ⟨q.cells, true, 36, 5⟩).set b6 ⟨qd0.cells, true, 36, 5⟩) b3 ⟨q.cells, true, 36, 5⟩ := (Kn.same _ _ _).set (fun e => hb.1 e.symm) _
  have k6 : Kn ((H.set b3 ⟨q.cells, true, 36, 5⟩).set b6 ⟨qd0.cells, true, 36, 5⟩) b6 ⟨qd0.cells, true, 36, 5⟩ := Kn.same _ _ _
  have h6 : H b6 = none := hb.2
  have h36 : ¬ b3 = b6 := fun e => hb.1 e.symm
  have l4 : AHeap.le H ((H.set b3 ⟨q.cells, true, 36, 5⟩).set b6 ⟨qd0.cells, true, 36, 5⟩) := le_fresh0 ((AHeap.le.refl H).fresh hb3 _) h6 _
  have e4 : ((H.set b3 ⟨q.cells, true, 36, 5⟩).set b6 ⟨qd0.cells, true, 36, 5⟩) = ((H.set b3 ⟨[.int .i64 q.op, .int .i64 q.dst, .int .i64 q.a, .int .i64 q.b, .int .i64 q.n], true, 36, 5⟩).set b6 ⟨[.int .i64 0, .int .i64 0, .int .i64 0, .int .i64 0, .int .i64 0], true, 36, 5⟩) := rfl
  rw [← e4]
  clear e4
  generalize ((H.set b3 ⟨q.cells, true, 36, 5⟩).set b6 ⟨qd0.cells, true, 36, 5⟩) = C at k3 k6 l4
  obtain ⟨ra, hra⟩ : ∃ r : Nat, q.a = (r : Int) := ⟨q.a.toNat, by omega⟩
  obtain ⟨rb, hrb⟩ : ∃ r : Nat, q.b = (r : Int) := ⟨q.b.toNat, by omega⟩
  have gra : (0 ≤ (ra : Int) ∧ (ra : Int) < ((12 : Nat) : Int)) = True := by simp; omega
  have grb : (0 ≤ (rb : Int) ∧ (rb : Int) < ((12 : Nat) : Int)) = True := by simp; omega
  have c30 := k3.cell (j := 0) rfl
  have c31 := k3.cell (j := 1) rfl
  have c32 := k3.cell (j := 2) rfl
  have c33 := k3.cell (j := 3) rfl
  have c34 := k3.cell (j := 4) rfl
  rw [hra] at c32
  rw [hrb] at c33
  have r3 : C.rdn (some ⟨b3, 0, none⟩) 5 = some q.cells := k3.rdn (l := q.cells) (o := 0) fun j _ => by rw [Nat.zero_add]
  have ea : fAt v q.a.toNat = v[ra]'(by omega) := by rw [hra, Int.toNat_natCast]; exact fAt_eq (by omega)
  have eb : fAt v q.b.toNat = v[rb]'(by omega) := by rw [hrb, Int.toNat_natCast]; exact fAt_eq (by omega)
  have hxC := hx.le l4
  obtain ⟨fis, f00, -⟩ := hxC.fact (k := 0) (by omega)
  have f00' : C.cell A = some (.int .i64 (v[0]'(by omega)).kind) := by rw [Nat.zero_mul] at f00; rwa [adr_zero] at f00
  obtain ⟨-, fa2, fa3⟩ := hxC.fact (k := ra) (by omega)
  obtain ⟨-, fb2, fb3⟩ := hxC.fact (k := rb) (by omega)
  have fa1 := hxC.rdf (i := ra) (by omega)
  have fb1 := hxC.rdf (i := rb) (by omega)
  have n3 := k3.chg (Chg.no (bs := [b6])) (by simpa using h36)
  have no6 := no_le C fun y => y ∈ [b6]
  have hxn := hx.le (Chg.no.keep l4 (New.one h6) : AHeap.le H (C.no fun y => y ∈ [b6]))
  have n31 := n3.cell (j := 1) rfl
  have n32 := n3.cell (j := 2) rfl
  have n33 := n3.cell (j := 3) rfl
  rw [hra] at n32
  rw [hrb] at n33
  have nr3 : (C.no fun y => y ∈ [b6]).rdn (some ⟨b3, 0, none⟩) 5 = some q.cells := n3.rdn (l := q.cells) (o := 0) fun j _ => by rw [Nat.zero_add]
  obtain ⟨-, na2, na3⟩ := hxn.fact (k := ra) (by omega)
  have na1 := hxn.rdf (i := ra) (by omega)
  have nb1 := hxn.rdf (i := rb) (by omega)
  have hgood : v ≠ botF → goodF (v[ra]'(by omega)) ∧ goodF (v[rb]'(by omega)) := fun h0 => by
    rw [← fAt_eq, ← fAt_eq]; exact ⟨fAt_good (okF_ne hv h0) _, fAt_good (okF_ne hv h0) _⟩
  generalize hf : v[ra]'(by omega) = f at *
  generalize hg : v[rb]'(by omega) = g at *
  have fin : ∀ (x0 x1 x2 x3 x4 : Int) (D : Value → AHeap → Prop), (⟨x0, x1, x2, x3, x4⟩ : Qd) = foldV q i v → (∀ C6, AHeap.le (C.no fun y => y ∈ [b6]) C6 → AHeap.le H C6 → C6.rdn (some ⟨b6, 0, none⟩) 5 = some (foldV q i v).cells → D undef C6) → stK 5 (.pointer (some ⟨b6, 0, none⟩)) (.agg #[.int .i64 x0, .int .i64 x1, .int .i64 x2, .int .i64 x3, .int .i64 x4]) D C := by
    intro x0 x1 x2 x3 x4 D e hD
    exact stq1 k6 (fun C6 hc6 r6 => hD C6 hc6.le_no (hc6.keep l4 (New.one h6)) (by rw [← e]; exact r6))
  by_cases hk0 : (v[0]'(by omega)).kind = 0
  · have d0 : ((v[0]'(by omega)).kind == 0) = true := by simpa using hk0
    repeat' (first | simp -implicitDefEqProofs only [zG1,zG2,zG3,zG4,zG5,zG6,zG7,eq_self,resV,rval,X.val,binv,fillL,setR,↓reduceIte,Nat.reduceEqDiff,Nat.reduceAdd,Nat.reduceMul,Nat.reduceLeDiff,Nat.reduceLT,Nat.reduceSub,reduceCtorEq,zGp, r3, fis, f00, f00', z0, t00, d0, adr_lit, Nat.zero_add, Nat.zero_mul] | ((with_reducible refine rows_intro (fun _ hb => ?_)); try simp only [set_none, ne_eq] at hb) | ((with_reducible refine new_intro (fun _ hb => ?_)); try simp only [set_none, ne_eq] at hb) | (with_reducible refine draw_same ?_) | ((with_reducible refine gd_split ?_ (fun _ => ?_) (fun _ => ?_)); exact rfl) | ((with_reducible refine td_split ?_ (fun _ => ?_) (fun _ => ?_)); exact rfl) | (with_reducible refine c_split (fun _ => ?_) (fun _ => ?_)))
    refine fin _ _ _ _ _ _ (by rw [foldV, e0, if_pos hk0]) (fun C6 ln6 l6 r6 => ?_)
    repeat' (first | simp -implicitDefEqProofs only [zG1,zG2,zG3,zG4,zG5,zG6,zG7,eq_self,resV,rval,X.val,binv,fillL,setR,↓reduceIte,Nat.reduceEqDiff,Nat.reduceAdd,Nat.reduceMul,Nat.reduceLeDiff,Nat.reduceLT,Nat.reduceSub,reduceCtorEq,zGp, ln6, r6] | ((with_reducible refine rows_intro (fun _ hb => ?_)); try simp only [set_none, ne_eq] at hb) | ((with_reducible refine new_intro (fun _ hb => ?_)); try simp only [set_none, ne_eq] at hb) | (with_reducible refine draw_same ?_) | ((with_reducible refine gd_split ?_ (fun _ => ?_) (fun _ => ?_)); exact rfl) | ((with_reducible refine td_split ?_ (fun _ => ?_) (fun _ => ?_)); exact rfl) | (with_reducible refine c_split (fun _ => ?_) (fun _ => ?_)))
    exact ⟨H, l6, h⟩
  have d0 : ((v[0]'(by omega)).kind == 0) = false := by simpa using hk0
  have hv0 : v ≠ botF := fun e => hk0 (by rw [← e0]; exact (bot_iff hv).1 e)
  obtain ⟨gf, gg⟩ := hgood hv0
  have fq : foldV q i v = if q.op = 2 ∧ f.kind = 1 then ⟨1, q.dst, 0, 0, f.n⟩ else if q.op = 3 then foldBin q f g else if q.op = 5 ∧ isF f 0 = true then ⟨4, 0, 0, 0, q.n⟩ else if q.op = 5 ∧ f.kind = 1 then ⟨4, 0, 0, 0, (i : Int) + 1⟩ else q := by rw [foldV, e0, if_neg hk0, foldQ, ea, eb]
  by_cases o2 : q.op = 2
  · have d2 : (q.op == 2) = true := by simpa using o2
    have d3 : (q.op == 3) = false := by simp; omega
    have d5 : (q.op == 5) = false := by simp; omega
    by_cases hk : f.kind = 1
    · have dk : (f.kind == 1) = true := by simpa using hk
      repeat' (first | simp -implicitDefEqProofs only [zG1,zG2,zG3,zG4,zG5,zG6,zG7,eq_self,resV,rval,X.val,binv,fillL,setR,↓reduceIte,Nat.reduceEqDiff,Nat.reduceAdd,Nat.reduceMul,Nat.reduceLeDiff,Nat.reduceLT,Nat.reduceSub,reduceCtorEq,zGp, d2, dk, c30, c31, c32, c33, c34, r3, fis, f00, f00', z0, t00, d0, fa1, fa2, fa3, fb1, fb2, fb3, gra, grb, w1, adr_lit, Nat.zero_add, Nat.mul_one, Nat.zero_mul] | ((with_reducible refine rows_intro (fun _ hb => ?_)); try simp only [set_none, ne_eq] at hb) | ((with_reducible refine new_intro (fun _ hb => ?_)); try simp only [set_none, ne_eq] at hb) | ((with_reducible refine gd_split ?_ (fun _ => ?_) (fun _ => ?_)); exact rfl) | ((with_reducible refine td_split ?_ (fun _ => ?_) (fun _ => ?_)); exact rfl) | (with_reducible refine c_split (fun _ => ?_) (fun _ => ?_)))
      refine draw_at (C.no fun y => y ∈ [b6]) no6 ?_
      repeat' (first | simp -implicitDefEqProofs only [zG1,zG2,zG3,zG4,zG5,zG6,zG7,eq_self,resV,rval,X.val,binv,fillL,setR,↓reduceIte,Nat.reduceEqDiff,Nat.reduceAdd,Nat.reduceMul,Nat.reduceLeDiff,Nat.reduceLT,Nat.reduceSub,reduceCtorEq,zGp, no6, n31, n32, n33, nr3, fis, na1, na2, na3, nb1, gra, grb, adr_lit, Nat.zero_add, Nat.mul_one] | ((with_reducible refine rows_intro (fun _ hb => ?_)); try simp only [set_none, ne_eq] at hb) | ((with_reducible refine new_intro (fun _ hb => ?_)); try simp only [set_none, ne_eq] at hb) | ((with_reducible refine gd_split ?_ (fun _ => ?_) (fun _ => ?_)); exact rfl) | ((with_reducible refine td_split ?_ (fun _ => ?_) (fun _ => ?_)); exact rfl) | (with_reducible refine c_split (fun _ => ?_) (fun _ => ?_)) )
      refine fin _ _ _ _ _ _ (by rw [fq]; rw [if_pos ⟨o2, hk⟩]) (fun C6 ln6 l6 r6 => ?_)
      repeat' (first | simp -implicitDefEqProofs only [zG1,zG2,zG3,zG4,zG5,zG6,zG7,eq_self,resV,rval,X.val,binv,fillL,setR,↓reduceIte,Nat.reduceEqDiff,Nat.reduceAdd,Nat.reduceMul,Nat.reduceLeDiff,Nat.reduceLT,Nat.reduceSub,reduceCtorEq,zGp, ln6, r6] | ((with_reducible refine rows_intro (fun _ hb => ?_)); try simp only [set_none, ne_eq] at hb) | ((with_reducible refine new_intro (fun _ hb => ?_)); try simp only [set_none, ne_eq] at hb) | (with_reducible refine draw_same ?_) | ((with_reducible refine gd_split ?_ (fun _ => ?_) (fun _ => ?_)); exact rfl) | ((with_reducible refine td_split ?_ (fun _ => ?_) (fun _ => ?_)); exact rfl) | (with_reducible refine c_split (fun _ => ?_) (fun _ => ?_)))
      exact ⟨H, l6, h⟩
    · have dk : (f.kind == 1) = false := by simpa using hk
      repeat' (first | simp -implicitDefEqProofs only [zG1,zG2,zG3,zG4,zG5,zG6,zG7,eq_self,resV,rval,X.val,binv,fillL,setR,↓reduceIte,Nat.reduceEqDiff,Nat.reduceAdd,Nat.reduceMul,Nat.reduceLeDiff,Nat.reduceLT,Nat.reduceSub,reduceCtorEq,zGp, d2, d3, d5, dk, c30, c31, c32, c33, c34, r3, fis, f00, f00', z0, t00, d0, fa1, fa2, fa3, fb1, fb2, fb3, gra, grb, w1, adr_lit, Nat.zero_add, Nat.mul_one, Nat.zero_mul] | ((with_reducible refine rows_intro (fun _ hb => ?_)); try simp only [set_none, ne_eq] at hb) | ((with_reducible refine new_intro (fun _ hb => ?_)); try simp only [set_none, ne_eq] at hb) | (with_reducible refine draw_same ?_) | ((with_reducible refine gd_split ?_ (fun _ => ?_) (fun _ => ?_)); exact rfl) | ((with_reducible refine td_split ?_ (fun _ => ?_) (fun _ => ?_)); exact rfl) | (with_reducible refine c_split (fun _ => ?_) (fun _ => ?_)))
      refine fin _ _ _ _ _ _ (by rw [fq]; rw [if_neg (fun e => hk e.2), if_neg (by omega), if_neg (by omega), if_neg (by omega)]) (fun C6 ln6 l6 r6 => ?_)
      repeat' (first | simp -implicitDefEqProofs only [zG1,zG2,zG3,zG4,zG5,zG6,zG7,eq_self,resV,rval,X.val,binv,fillL,setR,↓reduceIte,Nat.reduceEqDiff,Nat.reduceAdd,Nat.reduceMul,Nat.reduceLeDiff,Nat.reduceLT,Nat.reduceSub,reduceCtorEq,zGp, ln6, r6] | ((with_reducible refine rows_intro (fun _ hb => ?_)); try simp only [set_none, ne_eq] at hb) | ((with_reducible refine new_intro (fun _ hb => ?_)); try simp only [set_none, ne_eq] at hb) | (with_reducible refine draw_same ?_) | ((with_reducible refine gd_split ?_ (fun _ => ?_) (fun _ => ?_)); exact rfl) | ((with_reducible refine td_split ?_ (fun _ => ?_) (fun _ => ?_)); exact rfl) | (with_reducible refine c_split (fun _ => ?_) (fun _ => ?_)))
      exact ⟨H, l6, h⟩
  · have d2 : (q.op == 2) = false := by simpa using o2
    by_cases o3 : q.op = 3
    · have d3 : (q.op == 3) = true := by simpa using o3
      have ho := valid_op hq o3
      repeat' (first | simp -implicitDefEqProofs only [zG1,zG2,zG3,zG4,zG5,zG6,zG7,eq_self,resV,rval,X.val,binv,fillL,setR,↓reduceIte,Nat.reduceEqDiff,Nat.reduceAdd,Nat.reduceMul,Nat.reduceLeDiff,Nat.reduceLT,Nat.reduceSub,reduceCtorEq,zGp, d2, d3, c30, c31, c32, c33, c34, r3, fis, f00, f00', z0, t00, d0, fa1, fa2, fa3, fb1, fb2, fb3, gra, grb, w1, adr_lit, Nat.zero_add, Nat.mul_one, Nat.zero_mul] | ((with_reducible refine rows_intro (fun _ hb => ?_)); try simp only [set_none, ne_eq] at hb) | ((with_reducible refine new_intro (fun _ hb => ?_)); try simp only [set_none, ne_eq] at hb) | ((with_reducible refine gd_split ?_ (fun _ => ?_) (fun _ => ?_)); exact rfl) | ((with_reducible refine td_split ?_ (fun _ => ?_) (fun _ => ?_)); exact rfl) | (with_reducible refine c_split (fun _ => ?_) (fun _ => ?_)))
      refine draw_at (C.no fun y => y ∈ [b6]) no6 ?_
      repeat' (first | simp -implicitDefEqProofs only [zG1,zG2,zG3,zG4,zG5,zG6,zG7,eq_self,resV,rval,X.val,binv,fillL,setR,↓reduceIte,Nat.reduceEqDiff,Nat.reduceAdd,Nat.reduceMul,Nat.reduceLeDiff,Nat.reduceLT,Nat.reduceSub,reduceCtorEq,zGp, no6, n31, n32, n33, nr3, fis, na1, na2, na3, nb1, gra, grb, adr_lit, Nat.zero_add, Nat.mul_one] | ((with_reducible refine rows_intro (fun _ hb => ?_)); try simp only [set_none, ne_eq] at hb) | ((with_reducible refine new_intro (fun _ hb => ?_)); try simp only [set_none, ne_eq] at hb) | ((with_reducible refine gd_split ?_ (fun _ => ?_) (fun _ => ?_)); exact rfl) | ((with_reducible refine td_split ?_ (fun _ => ?_) (fun _ => ?_)); exact rfl) | (with_reducible refine c_split (fun _ => ?_) (fun _ => ?_)) | (with_reducible refine l33Bin_ok _ _ _ q ho f g gf gg ?_))
      refine fin _ _ _ _ _ _ (by rw [fq]; rw [if_neg (fun e => o2 e.1), if_pos o3]) (fun C6 ln6 l6 r6 => ?_)
      repeat' (first | simp -implicitDefEqProofs only [zG1,zG2,zG3,zG4,zG5,zG6,zG7,eq_self,resV,rval,X.val,binv,fillL,setR,↓reduceIte,Nat.reduceEqDiff,Nat.reduceAdd,Nat.reduceMul,Nat.reduceLeDiff,Nat.reduceLT,Nat.reduceSub,reduceCtorEq,zGp, ln6, r6] | ((with_reducible refine rows_intro (fun _ hb => ?_)); try simp only [set_none, ne_eq] at hb) | ((with_reducible refine new_intro (fun _ hb => ?_)); try simp only [set_none, ne_eq] at hb) | (with_reducible refine draw_same ?_) | ((with_reducible refine gd_split ?_ (fun _ => ?_) (fun _ => ?_)); exact rfl) | ((with_reducible refine td_split ?_ (fun _ => ?_) (fun _ => ?_)); exact rfl) | (with_reducible refine c_split (fun _ => ?_) (fun _ => ?_)))
      exact ⟨H, l6, h⟩
    · have d3 : (q.op == 3) = false := by simpa using o3
      by_cases o5 : q.op = 5
      · have d5 : (q.op == 5) = true := by simpa using o5
        cases h0 : isF f 0 with
        | true =>
          repeat' (first | simp -implicitDefEqProofs only [zG1,zG2,zG3,zG4,zG5,zG6,zG7,eq_self,resV,rval,X.val,binv,fillL,setR,↓reduceIte,Nat.reduceEqDiff,Nat.reduceAdd,Nat.reduceMul,Nat.reduceLeDiff,Nat.reduceLT,Nat.reduceSub,reduceCtorEq,zGp, d2, d3, d5, h0, c30, c31, c32, c33, c34, r3, fis, f00, f00', z0, t00, d0, fa1, fa2, fa3, fb1, fb2, fb3, gra, grb, w1, adr_lit, Nat.zero_add, Nat.mul_one, Nat.zero_mul] | ((with_reducible refine rows_intro (fun _ hb => ?_)); try simp only [set_none, ne_eq] at hb) | ((with_reducible refine new_intro (fun _ hb => ?_)); try simp only [set_none, ne_eq] at hb) | (with_reducible refine draw_same ?_) | ((with_reducible refine gd_split ?_ (fun _ => ?_) (fun _ => ?_)); exact rfl) | ((with_reducible refine td_split ?_ (fun _ => ?_) (fun _ => ?_)); exact rfl) | (with_reducible refine c_split (fun _ => ?_) (fun _ => ?_)) | (with_reducible refine l33Is_ok _ _ _ f _ ?_))
          refine fin _ _ _ _ _ _ (by rw [fq]; rw [if_neg (fun e => o2 e.1), if_neg o3, if_pos ⟨o5, h0⟩]) (fun C6 ln6 l6 r6 => ?_)
          repeat' (first | simp -implicitDefEqProofs only [zG1,zG2,zG3,zG4,zG5,zG6,zG7,eq_self,resV,rval,X.val,binv,fillL,setR,↓reduceIte,Nat.reduceEqDiff,Nat.reduceAdd,Nat.reduceMul,Nat.reduceLeDiff,Nat.reduceLT,Nat.reduceSub,reduceCtorEq,zGp, ln6, r6] | ((with_reducible refine rows_intro (fun _ hb => ?_)); try simp only [set_none, ne_eq] at hb) | ((with_reducible refine new_intro (fun _ hb => ?_)); try simp only [set_none, ne_eq] at hb) | (with_reducible refine draw_same ?_) | ((with_reducible refine gd_split ?_ (fun _ => ?_) (fun _ => ?_)); exact rfl) | ((with_reducible refine td_split ?_ (fun _ => ?_) (fun _ => ?_)); exact rfl) | (with_reducible refine c_split (fun _ => ?_) (fun _ => ?_)))
          exact ⟨H, l6, h⟩
        | false =>
          by_cases hk : f.kind = 1
          · have dk : (f.kind == 1) = true := by simpa using hk
            repeat' (first | simp -implicitDefEqProofs only [zG1,zG2,zG3,zG4,zG5,zG6,zG7,eq_self,resV,rval,X.val,binv,fillL,setR,↓reduceIte,Nat.reduceEqDiff,Nat.reduceAdd,Nat.reduceMul,Nat.reduceLeDiff,Nat.reduceLT,Nat.reduceSub,reduceCtorEq,zGp, d2, d3, d5, h0, dk, c30, c31, c32, c33, c34, r3, fis, f00, f00', z0, t00, d0, fa1, fa2, fa3, fb1, fb2, fb3, gra, grb, w1, adr_lit, Nat.zero_add, Nat.mul_one, Nat.zero_mul] | ((with_reducible refine rows_intro (fun _ hb => ?_)); try simp only [set_none, ne_eq] at hb) | ((with_reducible refine new_intro (fun _ hb => ?_)); try simp only [set_none, ne_eq] at hb) | (with_reducible refine draw_same ?_) | ((with_reducible refine gd_split ?_ (fun _ => ?_) (fun _ => ?_)); exact rfl) | ((with_reducible refine td_split ?_ (fun _ => ?_) (fun _ => ?_)); exact rfl) | (with_reducible refine c_split (fun _ => ?_) (fun _ => ?_)) | (with_reducible refine l33Is_ok _ _ _ f _ ?_))
            refine fin _ _ _ _ _ _ (by rw [fq]; rw [if_neg (fun e => o2 e.1), if_neg o3, if_neg (by rw [h0]; simp), if_pos ⟨o5, hk⟩]) (fun C6 ln6 l6 r6 => ?_)
            repeat' (first | simp -implicitDefEqProofs only [zG1,zG2,zG3,zG4,zG5,zG6,zG7,eq_self,resV,rval,X.val,binv,fillL,setR,↓reduceIte,Nat.reduceEqDiff,Nat.reduceAdd,Nat.reduceMul,Nat.reduceLeDiff,Nat.reduceLT,Nat.reduceSub,reduceCtorEq,zGp, ln6, r6] | ((with_reducible refine rows_intro (fun _ hb => ?_)); try simp only [set_none, ne_eq] at hb) | ((with_reducible refine new_intro (fun _ hb => ?_)); try simp only [set_none, ne_eq] at hb) | (with_reducible refine draw_same ?_) | ((with_reducible refine gd_split ?_ (fun _ => ?_) (fun _ => ?_)); exact rfl) | ((with_reducible refine td_split ?_ (fun _ => ?_) (fun _ => ?_)); exact rfl) | (with_reducible refine c_split (fun _ => ?_) (fun _ => ?_)))
            exact ⟨H, l6, h⟩
          · have dk : (f.kind == 1) = false := by simpa using hk
            repeat' (first | simp -implicitDefEqProofs only [zG1,zG2,zG3,zG4,zG5,zG6,zG7,eq_self,resV,rval,X.val,binv,fillL,setR,↓reduceIte,Nat.reduceEqDiff,Nat.reduceAdd,Nat.reduceMul,Nat.reduceLeDiff,Nat.reduceLT,Nat.reduceSub,reduceCtorEq,zGp, d2, d3, d5, h0, dk, c30, c31, c32, c33, c34, r3, fis, f00, f00', z0, t00, d0, fa1, fa2, fa3, fb1, fb2, fb3, gra, grb, w1, adr_lit, Nat.zero_add, Nat.mul_one, Nat.zero_mul] | ((with_reducible refine rows_intro (fun _ hb => ?_)); try simp only [set_none, ne_eq] at hb) | ((with_reducible refine new_intro (fun _ hb => ?_)); try simp only [set_none, ne_eq] at hb) | (with_reducible refine draw_same ?_) | ((with_reducible refine gd_split ?_ (fun _ => ?_) (fun _ => ?_)); exact rfl) | ((with_reducible refine td_split ?_ (fun _ => ?_) (fun _ => ?_)); exact rfl) | (with_reducible refine c_split (fun _ => ?_) (fun _ => ?_)) | (with_reducible refine l33Is_ok _ _ _ f _ ?_))
            refine fin _ _ _ _ _ _ (by rw [fq]; rw [if_neg (fun e => o2 e.1), if_neg o3, if_neg (by rw [h0]; simp), if_neg (fun e => hk e.2)]) (fun C6 ln6 l6 r6 => ?_)
            repeat' (first | simp -implicitDefEqProofs only [zG1,zG2,zG3,zG4,zG5,zG6,zG7,eq_self,resV,rval,X.val,binv,fillL,setR,↓reduceIte,Nat.reduceEqDiff,Nat.reduceAdd,Nat.reduceMul,Nat.reduceLeDiff,Nat.reduceLT,Nat.reduceSub,reduceCtorEq,zGp, ln6, r6] | ((with_reducible refine rows_intro (fun _ hb => ?_)); try simp only [set_none, ne_eq] at hb) | ((with_reducible refine new_intro (fun _ hb => ?_)); try simp only [set_none, ne_eq] at hb) | (with_reducible refine draw_same ?_) | ((with_reducible refine gd_split ?_ (fun _ => ?_) (fun _ => ?_)); exact rfl) | ((with_reducible refine td_split ?_ (fun _ => ?_) (fun _ => ?_)); exact rfl) | (with_reducible refine c_split (fun _ => ?_) (fun _ => ?_)))
            exact ⟨H, l6, h⟩
      · have d5 : (q.op == 5) = false := by simpa using o5
        repeat' (first | simp -implicitDefEqProofs only [zG1,zG2,zG3,zG4,zG5,zG6,zG7,eq_self,resV,rval,X.val,binv,fillL,setR,↓reduceIte,Nat.reduceEqDiff,Nat.reduceAdd,Nat.reduceMul,Nat.reduceLeDiff,Nat.reduceLT,Nat.reduceSub,reduceCtorEq,zGp, d2, d3, d5, c30, c31, c32, c33, c34, r3, fis, f00, f00', z0, t00, d0, fa1, fa2, fa3, fb1, fb2, fb3, gra, grb, w1, adr_lit, Nat.zero_add, Nat.mul_one, Nat.zero_mul] | ((with_reducible refine rows_intro (fun _ hb => ?_)); try simp only [set_none, ne_eq] at hb) | ((with_reducible refine new_intro (fun _ hb => ?_)); try simp only [set_none, ne_eq] at hb) | (with_reducible refine draw_same ?_) | ((with_reducible refine gd_split ?_ (fun _ => ?_) (fun _ => ?_)); exact rfl) | ((with_reducible refine td_split ?_ (fun _ => ?_) (fun _ => ?_)); exact rfl) | (with_reducible refine c_split (fun _ => ?_) (fun _ => ?_)))
        refine fin _ _ _ _ _ _ (by rw [fq]; rw [if_neg (fun e => o2 e.1), if_neg o3, if_neg (fun e => o5 e.1), if_neg (fun e => o5 e.1)]) (fun C6 ln6 l6 r6 => ?_)
        repeat' (first | simp -implicitDefEqProofs only [zG1,zG2,zG3,zG4,zG5,zG6,zG7,eq_self,resV,rval,X.val,binv,fillL,setR,↓reduceIte,Nat.reduceEqDiff,Nat.reduceAdd,Nat.reduceMul,Nat.reduceLeDiff,Nat.reduceLT,Nat.reduceSub,reduceCtorEq,zGp, ln6, r6] | ((with_reducible refine rows_intro (fun _ hb => ?_)); try simp only [set_none, ne_eq] at hb) | ((with_reducible refine new_intro (fun _ hb => ?_)); try simp only [set_none, ne_eq] at hb) | (with_reducible refine draw_same ?_) | ((with_reducible refine gd_split ?_ (fun _ => ?_) (fun _ => ?_)); exact rfl) | ((with_reducible refine td_split ?_ (fun _ => ?_) (fun _ => ?_)); exact rfl) | (with_reducible refine c_split (fun _ => ?_) (fun _ => ?_)))
        exact ⟨H, l6, h⟩
end Go.Proofs.YtodhkodhndbpmaaGreat
namespace Go.Proofs.YtodhkodhndbpmaaGreat
set_option linter.all false
open Go Go.RowKit
set_option maxRecDepth 100000
variable (w0 : World) (H : AHeap) (K : Value → AHeap → Prop)
theorem l33Edges_ok (A : Option Addr) (c : Nat) (qs : List Qd) (hx : Fl H A (qcells qs)) (i : Nat) (hi : i < qs.length) (hn : i ≤ 1048576) (hq : quadValid qs[i] 600 = true) (B : Option Addr) (d : Nat) (v : List Fc) (hl : v.length = 12) (hy : Fl H B (fcells v))
    (h : ∀ v' C bs, AHeap.le H C → New H bs → Rw C 3 1 v' (edgesQ qs[i] i v).length (ints (edgesQ qs[i] i v)) bs → K v' C) :
    ACalls Tryz.prog w0 107 [.slice A qs.length c, .slice B 12 d, .int .i64 i] H K := by
  obtain ⟨ga, gb⟩ := valid_regs hq
  have w1 : IntKind.i64.wrap ((i : Int) + 1) = (i : Int) + 1 := wrap_i64 (by omega) (by omega)
  have g1 := rng hi
  have p5 := hx.rdq hi
  have pA := hx.qd_is hi
  refine acalls_of_sx mix Tryz.func107 of107 (by simp [ir107]) ?_; rw [ir107]; (try delta qT qI qC qO qM qG)
  repeat' (first | simp -implicitDefEqProofs only [zG1,zG2,zG3,zG4,zG5,zG6,zG7,eq_self,resV,rval,X.val,binv,fillL,setR,↓reduceIte,Nat.reduceEqDiff,Nat.reduceAdd,Nat.reduceMul,Nat.reduceLeDiff,Nat.reduceLT,Nat.reduceSub,reduceCtorEq,zGp, g1, p5, pA] | ((with_reducible refine new_intro (fun _ hb => ?_)); try simp only [set_none, ne_eq] at hb))
  rename_i b7
  have h7 : H b7 = none := by assumption
  have l7 := (AHeap.le.refl H).fresh h7 ⟨qs[i].cells, true, 36, 5⟩
  have k7 := Kn.same H b7 ⟨qs[i].cells, true, 36, 5⟩
  generalize H.set b7 ⟨qs[i].cells, true, 36, 5⟩ = C at k7 l7
  generalize hqe : qs[i] = q at *
  obtain ⟨ra, hra⟩ : ∃ r : Nat, q.a = (r : Int) := ⟨q.a.toNat, by omega⟩
  have gra : (0 ≤ (ra : Int) ∧ (ra : Int) < ((12 : Nat) : Int)) = True := by simp; omega
  have c0 := k7.cell (j := 0) rfl
  have c2 := k7.cell (j := 2) rfl
  have c4 := k7.cell (j := 4) rfl
  rw [hra] at c2
  obtain ⟨fis, fa2, fa3⟩ := (hy.le l7).fact (k := ra) (by omega)
  have ea : fAt v q.a.toNat = v[ra]'(by omega) := by rw [hra, Int.toNat_natCast]; exact fAt_eq (by omega)
  have fin : ∀ (b : Nat) (n : Int), C b = none → edgesQ q i v = [n] → K (.slice (some ⟨b, 0, none⟩) 1 1) (C.set b ⟨[.int .i64 n], true, 3, 1⟩) := fun b n hb e => by
    rw [e] at h
    exact h _ _ [b] (l7.fresh hb _) (New.one (l7.none hb)) (Rw.mk (Kn.same _ _ _) rfl (Nat.le_refl _) (by simp [maxLen]))
  by_cases o5 : q.op = 5
  · have d5 : (q.op != 5) = false := by simpa using o5
    by_cases ka : (v[ra]'(by omega)).kind = 1
    · have d1 : ((v[ra]'(by omega)).kind != 1) = false := by simpa using ka
      by_cases kn : (v[ra]'(by omega)).n = 0
      · have d0 : ((v[ra]'(by omega)).n == 0) = true := by simpa using kn
        have ee : edgesQ q i v = [q.n] := by rw [edgesQ, ea, if_pos ⟨o5, ka⟩, if_pos kn]
        repeat' (first | simp -implicitDefEqProofs only [zG1,zG2,zG3,zG4,zG5,zG6,zG7,eq_self,resV,rval,X.val,binv,fillL,setR,↓reduceIte,Nat.reduceEqDiff,Nat.reduceAdd,Nat.reduceMul,Nat.reduceLeDiff,Nat.reduceLT,Nat.reduceSub,reduceCtorEq,zGp, d5, d1, d0, gra, c0, c2, c4, fis, fa2, fa3, adr_lit, Nat.zero_add, Nat.mul_one] | ((with_reducible refine rows_intro (fun _ hb => ?_)); try simp only [set_none, ne_eq] at hb) | ((with_reducible refine new_intro (fun _ hb => ?_)); try simp only [set_none, ne_eq] at hb) | (with_reducible refine draw_same ?_) | ((with_reducible refine gd_split ?_ (fun _ => ?_) (fun _ => ?_)); exact rfl) | ((with_reducible refine td_split ?_ (fun _ => ?_) (fun _ => ?_)); exact rfl) | (with_reducible refine c_split (fun _ => ?_) (fun _ => ?_)))
        exact ret_same (fin _ _ (by assumption) ee)
      · have d0 : ((v[ra]'(by omega)).n == 0) = false := by simpa using kn
        have ee : edgesQ q i v = [(i : Int) + 1] := by rw [edgesQ, ea, if_pos ⟨o5, ka⟩, if_neg kn]
        repeat' (first | simp -implicitDefEqProofs only [zG1,zG2,zG3,zG4,zG5,zG6,zG7,eq_self,resV,rval,X.val,binv,fillL,setR,↓reduceIte,Nat.reduceEqDiff,Nat.reduceAdd,Nat.reduceMul,Nat.reduceLeDiff,Nat.reduceLT,Nat.reduceSub,reduceCtorEq,zGp, d5, d1, d0, w1, gra, c0, c2, c4, fis, fa2, fa3, adr_lit, Nat.zero_add, Nat.mul_one] | ((with_reducible refine rows_intro (fun _ hb => ?_)); try simp only [set_none, ne_eq] at hb) | ((with_reducible refine new_intro (fun _ hb => ?_)); try simp only [set_none, ne_eq] at hb) | (with_reducible refine draw_same ?_) | ((with_reducible refine gd_split ?_ (fun _ => ?_) (fun _ => ?_)); exact rfl) | ((with_reducible refine td_split ?_ (fun _ => ?_) (fun _ => ?_)); exact rfl) | (with_reducible refine c_split (fun _ => ?_) (fun _ => ?_)))
        exact ret_same (fin _ _ (by assumption) ee)
    · have d1 : ((v[ra]'(by omega)).kind != 1) = true := by simpa using ka
      have ee : edgesQ q i v = nextL q i := by rw [edgesQ, ea, if_neg (fun e => ka e.2)]
      rw [ee] at h
      repeat' (first | simp -implicitDefEqProofs only [zG1,zG2,zG3,zG4,zG5,zG6,zG7,eq_self,resV,rval,X.val,binv,fillL,setR,↓reduceIte,Nat.reduceEqDiff,Nat.reduceAdd,Nat.reduceMul,Nat.reduceLeDiff,Nat.reduceLT,Nat.reduceSub,reduceCtorEq,zGp, d5, d1, gra, c0, c2, c4, fis, fa2, fa3, adr_lit, Nat.zero_add, Nat.mul_one] | ((with_reducible refine rows_intro (fun _ hb => ?_)); try simp only [set_none, ne_eq] at hb) | ((with_reducible refine new_intro (fun _ hb => ?_)); try simp only [set_none, ne_eq] at hb) | (with_reducible refine draw_same ?_) | ((with_reducible refine gd_split ?_ (fun _ => ?_) (fun _ => ?_)); exact rfl) | ((with_reducible refine td_split ?_ (fun _ => ?_) (fun _ => ?_)); exact rfl) | (with_reducible refine c_split (fun _ => ?_) (fun _ => ?_)) | (with_reducible refine l31Next_ok _ _ _ A c qs i (hx.le l7) hi hn (rw_of fun v2 C2 bs2 l2 n2 w2 => ?_)))
      rw [hqe] at w2
      obtain ⟨A2, e2, rfl, -⟩ := w2.fl
      repeat' (first | simp -implicitDefEqProofs only [zG1,zG2,zG3,zG4,zG5,zG6,zG7,eq_self,resV,rval,X.val,binv,fillL,setR,↓reduceIte,Nat.reduceEqDiff,Nat.reduceAdd,Nat.reduceMul,Nat.reduceLeDiff,Nat.reduceLT,Nat.reduceSub,reduceCtorEq,zGp] | ((with_reducible refine rows_intro (fun _ hb => ?_)); try simp only [set_none, ne_eq] at hb) | ((with_reducible refine new_intro (fun _ hb => ?_)); try simp only [set_none, ne_eq] at hb) | (with_reducible refine draw_same ?_) | ((with_reducible refine gd_split ?_ (fun _ => ?_) (fun _ => ?_)); exact rfl) | ((with_reducible refine td_split ?_ (fun _ => ?_) (fun _ => ?_)); exact rfl) | (with_reducible refine c_split (fun _ => ?_) (fun _ => ?_)))
      exact ret_same (h _ _ bs2 (l7.trans l2) (n2.le l7) w2)
  · have d5 : (q.op != 5) = true := by simpa using o5
    have ee : edgesQ q i v = nextL q i := by rw [edgesQ, if_neg (fun e => o5 e.1)]
    rw [ee] at h
    repeat' (first | simp -implicitDefEqProofs only [zG1,zG2,zG3,zG4,zG5,zG6,zG7,eq_self,resV,rval,X.val,binv,fillL,setR,↓reduceIte,Nat.reduceEqDiff,Nat.reduceAdd,Nat.reduceMul,Nat.reduceLeDiff,Nat.reduceLT,Nat.reduceSub,reduceCtorEq,zGp, d5, c0, adr_lit, Nat.zero_add, Nat.mul_one] | ((with_reducible refine rows_intro (fun _ hb => ?_)); try simp only [set_none, ne_eq] at hb) | ((with_reducible refine new_intro (fun _ hb => ?_)); try simp only [set_none, ne_eq] at hb) | (with_reducible refine draw_same ?_) | ((with_reducible refine gd_split ?_ (fun _ => ?_) (fun _ => ?_)); exact rfl) | ((with_reducible refine td_split ?_ (fun _ => ?_) (fun _ => ?_)); exact rfl) | (with_reducible refine c_split (fun _ => ?_) (fun _ => ?_)) | (with_reducible refine l31Next_ok _ _ _ A c qs i (hx.le l7) hi hn (rw_of fun v2 C2 bs2 l2 n2 w2 => ?_)))
    rw [hqe] at w2
    obtain ⟨A2, e2, rfl, -⟩ := w2.fl
    repeat' (first | simp -implicitDefEqProofs only [zG1,zG2,zG3,zG4,zG5,zG6,zG7,eq_self,resV,rval,X.val,binv,fillL,setR,↓reduceIte,Nat.reduceEqDiff,Nat.reduceAdd,Nat.reduceMul,Nat.reduceLeDiff,Nat.reduceLT,Nat.reduceSub,reduceCtorEq,zGp] | ((with_reducible refine rows_intro (fun _ hb => ?_)); try simp only [set_none, ne_eq] at hb) | ((with_reducible refine new_intro (fun _ hb => ?_)); try simp only [set_none, ne_eq] at hb) | (with_reducible refine draw_same ?_) | ((with_reducible refine gd_split ?_ (fun _ => ?_) (fun _ => ?_)); exact rfl) | ((with_reducible refine td_split ?_ (fun _ => ?_) (fun _ => ?_)); exact rfl) | (with_reducible refine c_split (fun _ => ?_) (fun _ => ?_)))
    exact ret_same (h _ _ bs2 (l7.trans l2) (n2.le l7) w2)
theorem joinTo_skip {a b : List Fc} {k : Nat} (hk : k < 12) (h : joinR (fAt a k) (fAt b k) = fAt a k) : joinTo a b k = joinTo a b (k + 1) := by
  rw [← joinTo_set hk, h]
  have hl : (joinTo a b k).length = 12 := mkF_len _
  refine extF hl (by rw [List.length_set]; exact hl) fun r hr => ?_
  rw [fAt_set (by omega)]
  split
  · rename_i e; subst e; exact joinTo_at hk
  · rfl
theorem joinTo_ne {a b : List Fc} {k : Nat} (hk : k < 12) (h : joinR (fAt a k) (fAt b k) ≠ fAt a k) : joinFs a b ≠ a := fun e => by
  have h1 : fAt (joinFs a b) k = joinR (fAt a k) (fAt b k) := by rw [joinFs, mkF_at _ hk]
  rw [e] at h1; exact h h1.symm
theorem l33Carry_ok (n : Nat) (B : Nat) (cb : Nat) (s : List (List Fc)) (hs : s.length = n) (bs : List Nat) (hR : Rs H 87 102 2 (.slice (some ⟨B, 0, none⟩) n cb) (s.map fcells) bs) (j : Nat) (hj : j < n) (u be : List Fc) (hu : s[j]? = some u) (hul : u.length = 12) (A : Option Addr) (c : Nat) (bsb : List Nat)
    (hx : Rw H 102 2 (.slice A 12 c) 12 (fcells be) bsb) (hd : ∀ y, y ∈ bsb → ¬ y ∈ bs) (hbl : be.length = 12)
    (h : ∀ C, Chg H C bs → Rs C 87 102 2 (.slice (some ⟨B, 0, none⟩) n cb) ((s.set j (joinFs u be)).map fcells) bs → K (.bool (decide (joinFs u be ≠ u))) C) :
    ACalls Tryz.prog w0 109 [.slice (some ⟨B, 0, none⟩) n cb, .int .i64 j, .slice A 12 c] H K := by
  have hjs : j < (s.map fcells).length := by rw [List.length_map]; omega
  have hge : (s.map fcells)[j] = fcells u := by
    rw [List.getElem_map]
    congr 1
    rw [List.getElem?_eq_getElem (by omega)] at hu
    exact Option.some.inj hu
  have g1 := rng hj
  obtain ⟨q1, x, ib, n', q2, wx, hib, hout, put⟩ := hR.inner hjs
  rw [hge] at wx
  have hn' : n' = 12 := by have := wx.len; rw [fcells_len, hul] at this; omega
  subst hn'
  obtain ⟨b, cx, rfl, rfl, hlx, hmx, -, kx⟩ := wx.open_ (by omega)
  rw [adr_lit, Nat.zero_add] at q2
  have hbb : ∀ y, y ∈ bsb → ¬ y = b := fun y hy e => hd y hy (by rw [e]; exact hib b (by simp))
  refine acalls_of_sx mix Tryz.func109 of109 (by simp [ir109]) ?_; rw [ir109]; (try delta qT qI qC qO qM qG)
  repeat' (first | simp -implicitDefEqProofs only [zG1,zG2,zG3,zG4,zG5,zG6,zG7,eq_self,resV,rval,X.val,binv,fillL,setR,↓reduceIte,Nat.reduceEqDiff,Nat.reduceAdd,Nat.reduceMul,Nat.reduceLeDiff,Nat.reduceLT,Nat.reduceSub,reduceCtorEq,zGp, g1, q1, q2, adr_lit, Nat.zero_add, Nat.mul_one] | ((with_reducible refine rows_intro (fun _ hb => ?_)); try simp only [set_none, ne_eq] at hb) | ((with_reducible refine new_intro (fun _ hb => ?_)); try simp only [set_none, ne_eq] at hb) | (with_reducible refine draw_same ?_) | ((with_reducible refine gd_split ?_ (fun _ => ?_) (fun _ => ?_)); exact rfl) | ((with_reducible refine td_split ?_ (fun _ => ?_) (fun _ => ?_)); exact rfl) | (with_reducible refine c_split (fun _ => ?_) (fun _ => ?_)))
  refine for_rule 12 (fun k fr C => ∃ fresh : Bool, Chg H C [b] ∧ Kn C b ⟨fcells (joinTo u be k), true, 102, cx * 2⟩ ∧ Rw C 102 2 (.slice A 12 c) 12 (fcells be) bsb ∧ (fresh = true → joinFs u be ≠ u) ∧ (fresh = false → joinTo u be k = u) ∧
    fr 0 = .slice (some ⟨B, 0, none⟩) n cb ∧ fr 1 = .int .i64 j ∧ fr 2 = .slice A 12 c ∧ fr 7 = .bool fresh ∧ fr 8 = .int .i64 k)
    ⟨false, Chg.refl _ _, by rw [joinTo_zero hul]; exact kx, hx, fun h => (by cases h), fun _ => joinTo_zero hul, (by first | rfl | (simp only [put_at, ↓reduceIte, Nat.reduceEqDiff]; first | done | rfl | assumption) | simp [put_at, *]), (by first | rfl | (simp only [put_at, ↓reduceIte, Nat.reduceEqDiff]; first | done | rfl | assumption) | simp [put_at, *]), (by first | rfl | (simp only [put_at, ↓reduceIte, Nat.reduceEqDiff]; first | done | rfl | assumption) | simp [put_at, *]), (by first | rfl | (simp only [put_at, ↓reduceIte, Nat.reduceEqDiff]; first | done | rfl | assumption) | simp [put_at, *]), (by first | rfl | (simp only [put_at, ↓reduceIte, Nat.reduceEqDiff]; first | done | rfl | assumption) | simp [put_at, *])⟩ ?_ ?_
  · rintro k fr C hk ⟨fresh, hc, kn, wb, ht, hf, f0, f1, f2, f7, f8⟩ N hN
    have qB := hout C hc
    rw [adr_lit, Nat.zero_add] at qB
    have g0 : decide ((k : Int) < 12) = true := by simp; omega
    have g3 : (0 ≤ (k : Int) ∧ (k : Int) < ((12 : Nat) : Int)) = True := by simp; omega
    have g2 := up1 hk (by omega)
    have hjl : (joinTo u be k).length = 12 := mkF_len _
    have m1 := (kn.fact (i := k) (by omega)).1
    have eu : (joinTo u be k)[k]'(by omega) = fAt u k := by rw [← fAt_eq, joinTo_at hk]
    rw [eu] at m1
    have q5 := (wb.fl'.1.fact (k := k) (by omega)).1
    have m2 := wb.fl'.1.rdf (i := k) (by omega)
    have eb : be[k]'(by omega) = fAt be k := (fAt_eq _).symm
    rw [eb] at m2
    have hset := joinTo_set (a := u) (b := be) hk
    have hfs := fcells_set (fs := joinTo u be k) (k := k) (by omega) (joinR (fAt u k) (fAt be k))
    rw [hset] at hfs
    generalize hp : joinR (fAt u k) (fAt be k) = p at *
    have hjoin : ∀ (C : AHeap) (D : Value → AHeap → Prop), D p.val C → ACalls Tryz.prog w0 116 [(fAt u k).val, (fAt be k).val] C D := fun C D hD => l33Join_ok _ _ _ (fAt u k) (fAt be k) (by rw [hp]; exact hD)
    repeat' (first | simp -implicitDefEqProofs only [zG1,zG2,zG3,zG4,zG5,zG6,zG7,eq_self,resV,rval,X.val,binv,fillL,setR,↓reduceIte,Nat.reduceEqDiff,Nat.reduceAdd,Nat.reduceMul,Nat.reduceLeDiff,Nat.reduceLT,Nat.reduceSub,reduceCtorEq,zGp, f0, f1, f2, f7, f8, g0, g1, g2, g3, qB, m1, m2, q5, adr_lit, Nat.zero_add, Nat.mul_one] | ((with_reducible refine rows_intro (fun _ hb => ?_)); try simp only [set_none, ne_eq] at hb) | ((with_reducible refine new_intro (fun _ hb => ?_)); try simp only [set_none, ne_eq] at hb) | (with_reducible refine draw_same ?_) | ((with_reducible refine gd_split ?_ (fun _ => ?_) (fun _ => ?_)); exact rfl) | ((with_reducible refine td_split ?_ (fun _ => ?_) (fun _ => ?_)); exact rfl) | (with_reducible refine c_split (fun _ => ?_) (fun _ => ?_)) | (with_reducible refine hjoin _ _ ?_) | (with_reducible refine And.intro ((AHeap.le.refl _).fresh (by assumption) _) ?_) | (with_reducible refine And.intro ?_ ?_))
    all_goals
      rename_i b9
      have h9 : C b9 = none := by assumption
      have l9 := (AHeap.le.refl C).fresh h9 ⟨p.cells, true, 102, 2⟩
      have k9 := Kn.same C b9 ⟨p.cells, true, 102, 2⟩
      have e9 : C.set b9 ⟨p.cells, true, 102, 2⟩ = C.set b9 ⟨[.int .i64 p.kind, .int .i64 p.n], true, 102, 2⟩ := rfl
      rw [← e9]
      clear e9
      have hb9 : ¬ b9 = b := fun e => kn.ne (e ▸ h9)
      have kn9 := kn.trans l9
      have wb9 := wb.trans l9
      have hc9 := hc.then_le l9
      have qB9 := l9.cell qB
      have m19 := l9.rdn m1
      generalize C.set b9 ⟨p.cells, true, 102, 2⟩ = C9 at *
      have r9 := rdf1 k9
      repeat' (first | simp -implicitDefEqProofs only [zG1,zG2,zG3,zG4,zG5,zG6,zG7,eq_self,resV,rval,X.val,binv,fillL,setR,↓reduceIte,Nat.reduceEqDiff,Nat.reduceAdd,Nat.reduceMul,Nat.reduceLeDiff,Nat.reduceLT,Nat.reduceSub,reduceCtorEq,zGp, f0, f1, f2, f7, f8, g1, g3, qB9, m19, r9, adr_lit, Nat.zero_add, Nat.mul_one] | ((with_reducible refine rows_intro (fun _ hb => ?_)); try simp only [set_none, ne_eq] at hb) | ((with_reducible refine new_intro (fun _ hb => ?_)); try simp only [set_none, ne_eq] at hb) | (with_reducible refine draw_same ?_) | ((with_reducible refine gd_split ?_ (fun _ => ?_) (fun _ => ?_)); exact rfl) | ((with_reducible refine td_split ?_ (fun _ => ?_) (fun _ => ?_)); exact rfl) | (with_reducible refine c_split (fun _ => ?_) (fun _ => ?_)))
      refine eqsK_fc ?_
      by_cases he : p = fAt u k
      · have d1 : (true != decide (p = fAt u k)) = false := by simp [he]
        rw [d1]
        have hsame := joinTo_skip (a := u) (b := be) hk (hp.trans he)
        repeat' (first | simp -implicitDefEqProofs only [zG1,zG2,zG3,zG4,zG5,zG6,zG7,eq_self,resV,rval,X.val,binv,fillL,setR,↓reduceIte,Nat.reduceEqDiff,Nat.reduceAdd,Nat.reduceMul,Nat.reduceLeDiff,Nat.reduceLT,Nat.reduceSub,reduceCtorEq,zGp, f0, f1, f2, f7, f8, g2] | ((with_reducible refine rows_intro (fun _ hb => ?_)); try simp only [set_none, ne_eq] at hb) | ((with_reducible refine new_intro (fun _ hb => ?_)); try simp only [set_none, ne_eq] at hb) | (with_reducible refine draw_same ?_) | ((with_reducible refine gd_split ?_ (fun _ => ?_) (fun _ => ?_)); exact rfl) | ((with_reducible refine td_split ?_ (fun _ => ?_) (fun _ => ?_)); exact rfl) | (with_reducible refine c_split (fun _ => ?_) (fun _ => ?_)))
        exact hN _ _ _ (.refl _) ⟨fresh, hc9, by rw [← hsame]; exact kn9, wb9, ht, fun e => by rw [← hsame]; exact hf e, (by first | rfl | (simp only [put_at, ↓reduceIte, Nat.reduceEqDiff]; first | done | rfl | assumption) | simp [put_at, *]), (by first | rfl | (simp only [put_at, ↓reduceIte, Nat.reduceEqDiff]; first | done | rfl | assumption) | simp [put_at, *]), (by first | rfl | (simp only [put_at, ↓reduceIte, Nat.reduceEqDiff]; first | done | rfl | assumption) | simp [put_at, *]), (by first | rfl | (simp only [put_at, ↓reduceIte, Nat.reduceEqDiff]; first | done | rfl | assumption) | simp [put_at, *]), (by first | rfl | (simp only [put_at, ↓reduceIte, Nat.reduceEqDiff]; first | done | rfl | assumption) | simp [put_at, *])⟩
      · have d1 : (true != decide (p = fAt u k)) = true := by simp [he]
        rw [d1]
        repeat' (first | simp -implicitDefEqProofs only [zG1,zG2,zG3,zG4,zG5,zG6,zG7,eq_self,resV,rval,X.val,binv,fillL,setR,↓reduceIte,Nat.reduceEqDiff,Nat.reduceAdd,Nat.reduceMul,Nat.reduceLeDiff,Nat.reduceLT,Nat.reduceSub,reduceCtorEq,zGp, f0, f1, f2, f7, f8, g2] | ((with_reducible refine rows_intro (fun _ hb => ?_)); try simp only [set_none, ne_eq] at hb) | ((with_reducible refine new_intro (fun _ hb => ?_)); try simp only [set_none, ne_eq] at hb) | ((with_reducible refine gd_split ?_ (fun _ => ?_) (fun _ => ?_)); exact rfl) | ((with_reducible refine td_split ?_ (fun _ => ?_) (fun _ => ?_)); exact rfl) | (with_reducible refine c_split (fun _ => ?_) (fun _ => ?_)))
        refine draw_at (C9.no fun y => y ∈ [b]) (no_le _ _) ?_
        have qBn := hout (C9.no fun y => y ∈ [b]) (hc9.trans Chg.no)
        rw [adr_lit, Nat.zero_add] at qBn
        have rn9 := rdf1 (k9.chg (Chg.no (bs := [b])) (by simpa using hb9))
        repeat' (first | simp -implicitDefEqProofs only [zG1,zG2,zG3,zG4,zG5,zG6,zG7,eq_self,resV,rval,X.val,binv,fillL,setR,↓reduceIte,Nat.reduceEqDiff,Nat.reduceAdd,Nat.reduceMul,Nat.reduceLeDiff,Nat.reduceLT,Nat.reduceSub,reduceCtorEq,zGp, f0, f1, f2, f7, f8, g1, g3, qBn, rn9, adr_lit, Nat.zero_add, Nat.mul_one] | ((with_reducible refine rows_intro (fun _ hb => ?_)); try simp only [set_none, ne_eq] at hb) | ((with_reducible refine new_intro (fun _ hb => ?_)); try simp only [set_none, ne_eq] at hb) | ((with_reducible refine gd_split ?_ (fun _ => ?_) (fun _ => ?_)); exact rfl) | ((with_reducible refine td_split ?_ (fun _ => ?_) (fun _ => ?_)); exact rfl) | (with_reducible refine c_split (fun _ => ?_) (fun _ => ?_)))
        refine st_kn kn9 rfl rfl (by simp only; rw [fcells_len, hjl]; show k * 2 + 2 ≤ _; omega) (by simp [vcA, Value.oneCell']) (fun C6 hc6 ho6 k6 => ?_)
        have k6' : Kn C6 b ⟨fcells (joinTo u be (k + 1)), true, 102, cx * 2⟩ := by rw [← hfs]; exact k6
        have ln6 := hc6.le_no
        repeat' (first | simp -implicitDefEqProofs only [zG1,zG2,zG3,zG4,zG5,zG6,zG7,eq_self,resV,rval,X.val,binv,fillL,setR,↓reduceIte,Nat.reduceEqDiff,Nat.reduceAdd,Nat.reduceMul,Nat.reduceLeDiff,Nat.reduceLT,Nat.reduceSub,reduceCtorEq,zGp, f0, f1, f2, f7, f8, g2, ln6] | ((with_reducible refine rows_intro (fun _ hb => ?_)); try simp only [set_none, ne_eq] at hb) | ((with_reducible refine new_intro (fun _ hb => ?_)); try simp only [set_none, ne_eq] at hb) | (with_reducible refine draw_same ?_) | ((with_reducible refine gd_split ?_ (fun _ => ?_) (fun _ => ?_)); exact rfl) | ((with_reducible refine td_split ?_ (fun _ => ?_) (fun _ => ?_)); exact rfl) | (with_reducible refine c_split (fun _ => ?_) (fun _ => ?_)))
        exact hN _ _ _ (.refl _) ⟨true, hc9.trans hc6, k6', wb9.chg hc6 (fun y hy e => hbb y hy (by simpa using e)), fun _ => joinTo_ne hk (by rw [hp]; exact he), fun e => (by cases e), (by first | rfl | (simp only [put_at, ↓reduceIte, Nat.reduceEqDiff]; first | done | rfl | assumption) | simp [put_at, *]), (by first | rfl | (simp only [put_at, ↓reduceIte, Nat.reduceEqDiff]; first | done | rfl | assumption) | simp [put_at, *]), (by first | rfl | (simp only [put_at, ↓reduceIte, Nat.reduceEqDiff]; first | done | rfl | assumption) | simp [put_at, *]), (by first | rfl | (simp only [put_at, ↓reduceIte, Nat.reduceEqDiff]; first | done | rfl | assumption) | simp [put_at, *]), (by first | rfl | (simp only [put_at, ↓reduceIte, Nat.reduceEqDiff]; first | done | rfl | assumption) | simp [put_at, *])⟩
  · rintro fr C ⟨fresh, hc, kn, wb, ht, hf, f0, f1, f2, f7, f8⟩ N
    have g0 : decide (((12 : Nat) : Int) < 12) = false := by decide
    rw [joinTo_end] at kn hf
    repeat' (first | simp -implicitDefEqProofs only [zG1,zG2,zG3,zG4,zG5,zG6,zG7,eq_self,resV,rval,X.val,binv,fillL,setR,↓reduceIte,Nat.reduceEqDiff,Nat.reduceAdd,Nat.reduceMul,Nat.reduceLeDiff,Nat.reduceLT,Nat.reduceSub,reduceCtorEq,zGp, f0, f1, f2, f7, f8, g0] | ((with_reducible refine rows_intro (fun _ hb => ?_)); try simp only [set_none, ne_eq] at hb) | ((with_reducible refine new_intro (fun _ hb => ?_)); try simp only [set_none, ne_eq] at hb) | (with_reducible refine draw_same ?_) | ((with_reducible refine gd_split ?_ (fun _ => ?_) (fun _ => ?_)); exact rfl) | ((with_reducible refine td_split ?_ (fun _ => ?_) (fun _ => ?_)); exact rfl) | (with_reducible refine c_split (fun _ => ?_) (fun _ => ?_)))
    have hR' := put C _ hc (Rw.mk kn (by rw [fcells_len]; exact congrArg (· * 2) (mkF_len _)) hlx hmx)
    refine ret_same (kb (h C (hc.mono hib) ?_) ?_)
    · rw [List.map_set]; exact hR'
    · cases fresh with
      | true => exact (decide_eq_true (ht rfl)).symm
      | false => exact (decide_eq_false (fun e => e (hf rfl))).symm
end Go.Proofs.YtodhkodhndbpmaaGreat
namespace Go.Proofs.YtodhkodhndbpmaaGreat
set_option linter.all false
open Go Go.RowKit
set_option maxRecDepth 100000
variable (w0 : World) (H : AHeap) (K : Value → AHeap → Prop)
theorem l33Round_ok (A : Option Addr) (c : Nat) (qs : List Qd) (hv : codeValid qs = true) (hx : Fl H A (qcells qs)) (C : AHeap) (hle : AHeap.le H C) (b cb : Nat) (s : List (List Fc)) (bs : List Nat) (hR : Rs C 87 102 2 (.slice (some ⟨b, 0, none⟩) qs.length cb) (s.map fcells) bs) (hn : New H bs)
    (hB : (factF qs).Below (facts0 qs.length) s)
    (h : ∀ C' s' fresh, AHeap.le H C' → Chg C C' bs → Rs C' 87 102 2 (.slice (some ⟨b, 0, none⟩) qs.length cb) (s'.map fcells) bs → (factF qs).Rd (facts0 qs.length) s s' qs.length fresh → K (.bool fresh) C') :
    ACalls Tryz.prog w0 99 [.slice A qs.length c, .slice (some ⟨b, 0, none⟩) qs.length cb] C K := by
  have hc := code_at hv
  refine acalls_of_sx mix Tryz.func99 of99 (by simp [ir99]) ?_; rw [ir99]; (try delta qT qI qC qO qM qG)
  repeat' (first | simp -implicitDefEqProofs only [zG1,zG2,zG3,zG4,zG5,zG6,zG7,eq_self,resV,rval,X.val,binv,fillL,setR,↓reduceIte,Nat.reduceEqDiff,Nat.reduceAdd,Nat.reduceMul,Nat.reduceLeDiff,Nat.reduceLT,Nat.reduceSub,reduceCtorEq,zGp] | ((with_reducible refine rows_intro (fun _ hb => ?_)); try simp only [set_none, ne_eq] at hb) | ((with_reducible refine new_intro (fun _ hb => ?_)); try simp only [set_none, ne_eq] at hb) | (with_reducible refine draw_same ?_) | ((with_reducible refine gd_split ?_ (fun _ => ?_) (fun _ => ?_)); exact rfl) | ((with_reducible refine td_split ?_ (fun _ => ?_) (fun _ => ?_)); exact rfl) | (with_reducible refine c_split (fun _ => ?_) (fun _ => ?_)))
  refine for_rule qs.length (fun k fr C' => ∃ (s' : List (List Fc)) (fresh : Bool), AHeap.le H C' ∧ Chg C C' bs ∧ Rs C' 87 102 2 (.slice (some ⟨b, 0, none⟩) qs.length cb) (s'.map fcells) bs ∧ (factF qs).Rd (facts0 qs.length) s s' k fresh ∧ fr 0 = .slice A qs.length c ∧ fr 1 = .slice (some ⟨b, 0, none⟩) qs.length cb ∧ fr 5 = .bool fresh ∧ fr 6 = .int .i64 k)
    ⟨s, false, hle, Chg.refl _ _, hR, Fw.Rd.start hB, (by first | rfl | (simp only [put_at, ↓reduceIte, Nat.reduceEqDiff]; first | done | rfl | assumption) | simp [put_at, *]), (by first | rfl | (simp only [put_at, ↓reduceIte, Nat.reduceEqDiff]; first | done | rfl | assumption) | simp [put_at, *]), (by first | rfl | (simp only [put_at, ↓reduceIte, Nat.reduceEqDiff]; first | done | rfl | assumption) | simp [put_at, *]), (by first | rfl | (simp only [put_at, ↓reduceIte, Nat.reduceEqDiff]; first | done | rfl | assumption) | simp [put_at, *])⟩ ?_ ?_
  · rintro x fr C1 hxn ⟨s1, fresh, l1, hch, hR, hRd, f0, f1, f5, f6⟩ N hN
    have hsl : s1.length = qs.length := hRd.1.1.trans (facts0_len hc.1)
    have g0 := lt_dec hxn
    have g1 := rng hxn
    have g2 := up1 hxn (by omega)
    obtain ⟨v, hvx⟩ : ∃ v, s1[x]'(by omega) = v := ⟨_, rfl⟩
    have hsx : s1[x]? = some v := by rw [List.getElem?_eq_getElem (by omega), hvx]
    have hov : okF v := hRd.1.2.1 x v hsx
    have hvl := okF_len hov
    obtain ⟨q1, A', n', c', q2, fl, hlen⟩ := hR.row (i := x) (by rw [List.length_map]; omega)
    rw [List.getElem_map, hvx] at fl hlen
    rw [adr_lit, Nat.zero_add] at q2
    have hn' : n' = 12 := by rw [fcells_len, hvl] at hlen; omega
    subst hn'
    have z0 : ((0 : Int) ≤ 0 ∧ (0 : Int) < ((12 : Nat) : Int)) = True := by simp
    have t00 : (0 : Int).toNat = 0 := rfl
    obtain ⟨q3, q4, -⟩ := fl.fact (k := 0) (by omega)
    have q4' : C1.cell A' = some (.int .i64 (v[0]'(by omega)).kind) := by rw [Nat.zero_mul] at q4; rwa [adr_zero] at q4
    have e0 : fAt v 0 = v[0]'(by omega) := fAt_eq (by omega)
    by_cases hv0 : v = botF
    · have d0 : ((v[0]'(by omega)).kind == 0) = true := by rw [← e0]; simpa using (bot_iff hov).1 hv0
      repeat' (first | simp -implicitDefEqProofs only [zG1,zG2,zG3,zG4,zG5,zG6,zG7,eq_self,resV,rval,X.val,binv,fillL,setR,↓reduceIte,Nat.reduceEqDiff,Nat.reduceAdd,Nat.reduceMul,Nat.reduceLeDiff,Nat.reduceLT,Nat.reduceSub,reduceCtorEq,zGp, f0, f1, f5, f6, g0, g1, g2, q2, q3, q4, q4', z0, t00, d0, adr_lit, Nat.mul_one, Nat.zero_add, Nat.zero_mul] | ((with_reducible refine rows_intro (fun _ hb => ?_)); try simp only [set_none, ne_eq] at hb) | ((with_reducible refine new_intro (fun _ hb => ?_)); try simp only [set_none, ne_eq] at hb) | (with_reducible refine draw_same ?_) | ((with_reducible refine gd_split ?_ (fun _ => ?_) (fun _ => ?_)); exact rfl) | ((with_reducible refine td_split ?_ (fun _ => ?_) (fun _ => ?_)); exact rfl) | (with_reducible refine c_split (fun _ => ?_) (fun _ => ?_)))
      exact hN _ _ _ (.refl _) ⟨s1, fresh, l1, hch, hR, hRd.skip hsx (by simp [factF, hv0]), (by first | rfl | (simp only [put_at, ↓reduceIte, Nat.reduceEqDiff]; first | done | rfl | assumption) | simp [put_at, *]), (by first | rfl | (simp only [put_at, ↓reduceIte, Nat.reduceEqDiff]; first | done | rfl | assumption) | simp [put_at, *]), (by first | rfl | (simp only [put_at, ↓reduceIte, Nat.reduceEqDiff]; first | done | rfl | assumption) | simp [put_at, *]), (by first | rfl | (simp only [put_at, ↓reduceIte, Nat.reduceEqDiff]; first | done | rfl | assumption) | simp [put_at, *])⟩
    · have d0 : ((v[0]'(by omega)).kind == 0) = false := by rw [← e0]; simpa using fun e => hv0 ((bot_iff hov).2 e)
      have p5 := (hx.le l1).rdq hxn
      have pA := (hx.le l1).qd_is hxn
      have hqv := valid_more (hc.2.2 x hxn) (show (qs.length : Int) ≤ 600 by omega)
      have htr : (factF qs).tr x v = behindF qs[x] v := by simp [factF, hxn]
      have hBo : okF (behindF qs[x] v) := behindF_ok hov
      repeat' (first | simp -implicitDefEqProofs only [zG1,zG2,zG3,zG4,zG5,zG6,zG7,eq_self,resV,rval,X.val,binv,fillL,setR,↓reduceIte,Nat.reduceEqDiff,Nat.reduceAdd,Nat.reduceMul,Nat.reduceLeDiff,Nat.reduceLT,Nat.reduceSub,reduceCtorEq,zGp, f0, f1, f5, f6, g0, g1, g2, q2, q3, q4, q4', z0, t00, d0, adr_lit, Nat.mul_one, Nat.zero_add, Nat.zero_mul] | ((with_reducible refine rows_intro (fun _ hb => ?_)); try simp only [set_none, ne_eq] at hb) | ((with_reducible refine new_intro (fun _ hb => ?_)); try simp only [set_none, ne_eq] at hb) | (with_reducible refine draw_same ?_) | ((with_reducible refine gd_split ?_ (fun _ => ?_) (fun _ => ?_)); exact rfl) | ((with_reducible refine td_split ?_ (fun _ => ?_) (fun _ => ?_)); exact rfl) | (with_reducible refine c_split (fun _ => ?_) (fun _ => ?_)))
      refine l33Edges_ok _ _ _ A c qs (hx.le l1) x hxn (by omega) hqv A' c' v hvl fl (fun v2 C2 bs2 l2 n2 w2 => ?_)
      obtain ⟨A2, e2, rfl, -⟩ := w2.fl
      have hes : (factF qs).edges x v = (edgesQ qs[x] x v).map Int.toNat := by simp [factF, hv0, edgesF_eq hxn]
      have hEin : ∀ y, y ∈ edgesQ qs[x] x v → 0 ≤ y ∧ y < qs.length := fun y hy => edgesQ_in hv hxn hy
      have hesl := edgesQ_le qs[x] x v
      generalize hE : edgesQ qs[x] x v = es at w2 hes hesl hEin
      have q22 := l2.cell q2
      have p52 := l2.rdn p5
      have hR2 := hR.trans l2
      repeat' (first | simp -implicitDefEqProofs only [zG1,zG2,zG3,zG4,zG5,zG6,zG7,eq_self,resV,rval,X.val,binv,fillL,setR,↓reduceIte,Nat.reduceEqDiff,Nat.reduceAdd,Nat.reduceMul,Nat.reduceLeDiff,Nat.reduceLT,Nat.reduceSub,reduceCtorEq,zGp, f0, f1, f5, f6, g1, q22, p52, pA, adr_lit, Nat.mul_one, Nat.zero_add] | ((with_reducible refine rows_intro (fun _ hb => ?_)); try simp only [set_none, ne_eq] at hb) | ((with_reducible refine new_intro (fun _ hb => ?_)); try simp only [set_none, ne_eq] at hb) | (with_reducible refine draw_same ?_) | ((with_reducible refine gd_split ?_ (fun _ => ?_) (fun _ => ?_)); exact rfl) | ((with_reducible refine td_split ?_ (fun _ => ?_) (fun _ => ?_)); exact rfl) | (with_reducible refine c_split (fun _ => ?_) (fun _ => ?_)))
      refine l33After_ok _ _ _ qs[x] hqv A' c' v hov hv0 (fl.le l2) (fun y C3 ib l3 n3 w3 => ?_)
      obtain ⟨A3, e3, rfl, -⟩ := w3.fl
      repeat' (first | simp -implicitDefEqProofs only [zG1,zG2,zG3,zG4,zG5,zG6,zG7,eq_self,resV,rval,X.val,binv,fillL,setR,↓reduceIte,Nat.reduceEqDiff,Nat.reduceAdd,Nat.reduceMul,Nat.reduceLeDiff,Nat.reduceLT,Nat.reduceSub,reduceCtorEq,zGp, l3] | ((with_reducible refine rows_intro (fun _ hb => ?_)); try simp only [set_none, ne_eq] at hb) | ((with_reducible refine new_intro (fun _ hb => ?_)); try simp only [set_none, ne_eq] at hb) | (with_reducible refine draw_same ?_) | ((with_reducible refine gd_split ?_ (fun _ => ?_) (fun _ => ?_)); exact rfl) | ((with_reducible refine td_split ?_ (fun _ => ?_) (fun _ => ?_)); exact rfl) | (with_reducible refine c_split (fun _ => ?_) (fun _ => ?_)))
      have d23 : ∀ y, y ∈ ib → ¬ y ∈ bs2 := n3.off' (C' := C2) w2
      obtain ⟨bst, hst, hnet, hRt⟩ := hR.tight
      have hd2 : ∀ y, y ∈ bst → ¬ y ∈ bs2 ∧ ¬ y ∈ ib := fun y hy => ⟨fun hm => hnet y hy (n2 y hm), fun hm => hnet y hy (l2.none (n3 y hm))⟩
      generalize hbe : behindF qs[x] v = be at hBo htr w3
      have hBl := okF_len hBo
      refine for_rule es.length (fun k fr C' => ∃ (s' : List (List Fc)) (fresh : Bool), AHeap.le H C' ∧ Chg C C' bs ∧ Rs C' 87 102 2 (.slice (some ⟨b, 0, none⟩) qs.length cb) (s'.map fcells) bst ∧ Rw C' 3 1 (.slice A2 es.length e2) es.length (ints es) bs2 ∧ Rw C' 102 2 (.slice A3 12 e3) 12 (fcells be) ib ∧
        (factF qs).RdM (facts0 qs.length) s s' x v k fresh ∧ fr 0 = .slice A qs.length c ∧ fr 1 = .slice (some ⟨b, 0, none⟩) qs.length cb ∧ fr 5 = .bool fresh ∧ fr 6 = .int .i64 x ∧ fr 7 = .slice A2 es.length e2 ∧ fr 8 = .slice A3 12 e3 ∧ fr 9 = .int .i64 k)
        ⟨s1, fresh, l1.trans (l2.trans l3), hch.then_le (l2.trans l3), hRt.trans (l2.trans l3), w2.trans l3, w3, hRd.enter hsx, (by first | rfl | (simp only [put_at, ↓reduceIte, Nat.reduceEqDiff]; first | done | rfl | assumption) | simp [put_at, *]), (by first | rfl | (simp only [put_at, ↓reduceIte, Nat.reduceEqDiff]; first | done | rfl | assumption) | simp [put_at, *]), (by first | rfl | (simp only [put_at, ↓reduceIte, Nat.reduceEqDiff]; first | done | rfl | assumption) | simp [put_at, *]), (by first | rfl | (simp only [put_at, ↓reduceIte, Nat.reduceEqDiff]; first | done | rfl | assumption) | simp [put_at, *]), (by first | rfl | (simp only [put_at, ↓reduceIte, Nat.reduceEqDiff]; first | done | rfl | assumption) | simp [put_at, *]), (by first | rfl | (simp only [put_at, ↓reduceIte, Nat.reduceEqDiff]; first | done | rfl | assumption) | simp [put_at, *]), (by first | rfl | (simp only [put_at, ↓reduceIte, Nat.reduceEqDiff]; first | done | rfl | assumption) | simp [put_at, *])⟩ ?_ ?_
      · rintro k fr C4 hk ⟨s3, fresh3, l4, hch4, hR3, w23, w33, hM, f0, f1, f5, f6, f7, f8, f9⟩ N' hN'
        have hsl3 : s3.length = qs.length := hM.1.1.trans (facts0_len hc.1)
        have g0 := lt_dec hk
        have g1 := rng hk
        have g2 := up1 hk (by omega)
        have hin := hEin _ (List.getElem_mem hk)
        obtain ⟨j, hj⟩ : ∃ j : Nat, es[k] = (j : Int) := ⟨(es[k]).toNat, by omega⟩
        rw [hj] at hin
        have hjn : j < qs.length := by omega
        have hje : ((factF qs).edges x v)[k]? = some j := by rw [hes]; simp [hk, hj]
        have q1 := w23.fl'.1.int hk
        rw [hj] at q1
        have q2 := w23.fl'.1.ints_is hk
        obtain ⟨u, hu⟩ : ∃ u, s3[j]'(by omega) = u := ⟨_, rfl⟩
        have hsj : s3[j]? = some u := by rw [List.getElem?_eq_getElem (by omega), hu]
        have hou : okF u := hM.1.2.1 j u hsj
        repeat' (first | simp -implicitDefEqProofs only [zG1,zG2,zG3,zG4,zG5,zG6,zG7,eq_self,resV,rval,X.val,binv,fillL,setR,↓reduceIte,Nat.reduceEqDiff,Nat.reduceAdd,Nat.reduceMul,Nat.reduceLeDiff,Nat.reduceLT,Nat.reduceSub,reduceCtorEq,zGp, f0, f1, f5, f6, f7, f8, f9, g0, g1, g2, q1, q2, adr_lit, Nat.mul_one, Nat.zero_add] | ((with_reducible refine rows_intro (fun _ hb => ?_)); try simp only [set_none, ne_eq] at hb) | ((with_reducible refine new_intro (fun _ hb => ?_)); try simp only [set_none, ne_eq] at hb) | (with_reducible refine draw_same ?_) | ((with_reducible refine gd_split ?_ (fun _ => ?_) (fun _ => ?_)); exact rfl) | ((with_reducible refine td_split ?_ (fun _ => ?_) (fun _ => ?_)); exact rfl) | (with_reducible refine c_split (fun _ => ?_) (fun _ => ?_)))
        refine l33Carry_ok _ _ _ qs.length b cb s3 hsl3 bst hR3 j hjn u be hsj (okF_len hou) A3 e3 ib w33 (fun y hy hm => (hd2 y hm).2 hy) hBl (fun C5 hc5 hR5 => ?_)
        have ej : (factF qs).join u ((factF qs).tr x v) = joinFs u be := by rw [htr]; rfl
        have l5 : AHeap.le H C5 := hc5.keep l4 (fun y hy => hn y (hst y hy))
        have w25 := w23.chg hc5 (fun y hy hm => (hd2 y hm).1 hy)
        have w35 := w33.chg hc5 (fun y hy hm => (hd2 y hm).2 hy)
        have hch5 := hch4.trans (hc5.mono hst)
        by_cases hju : joinFs u be = u
        · have dj : decide (joinFs u be ≠ u) = false := by simp [hju]
          rw [dj]
          rw [hju] at hR5
          have es : s3.set j u = s3 := by
            apply List.ext_getElem?
            intro i
            rw [List.getElem?_set]
            split
            · rename_i e; subst e; rw [hsj, if_pos (by omega)]
            · rfl
          rw [es] at hR5
          repeat' (first | simp -implicitDefEqProofs only [zG1,zG2,zG3,zG4,zG5,zG6,zG7,eq_self,resV,rval,X.val,binv,fillL,setR,↓reduceIte,Nat.reduceEqDiff,Nat.reduceAdd,Nat.reduceMul,Nat.reduceLeDiff,Nat.reduceLT,Nat.reduceSub,reduceCtorEq,zGp, f0, f1, f5, f6, f7, f8, f9, g2] | ((with_reducible refine rows_intro (fun _ hb => ?_)); try simp only [set_none, ne_eq] at hb) | ((with_reducible refine new_intro (fun _ hb => ?_)); try simp only [set_none, ne_eq] at hb) | (with_reducible refine draw_same ?_) | ((with_reducible refine gd_split ?_ (fun _ => ?_) (fun _ => ?_)); exact rfl) | ((with_reducible refine td_split ?_ (fun _ => ?_) (fun _ => ?_)); exact rfl) | (with_reducible refine c_split (fun _ => ?_) (fun _ => ?_)))
          exact hN' _ _ _ (.refl _) ⟨s3, fresh3, l5, hch5, hR5, w25, w35, hM.keep hje hsj (Fw.le_of_join hou ((factF qs).ok_tr hov) (ej.trans hju)), (by first | rfl | (simp only [put_at, ↓reduceIte, Nat.reduceEqDiff]; first | done | rfl | assumption) | simp [put_at, *]), (by first | rfl | (simp only [put_at, ↓reduceIte, Nat.reduceEqDiff]; first | done | rfl | assumption) | simp [put_at, *]), (by first | rfl | (simp only [put_at, ↓reduceIte, Nat.reduceEqDiff]; first | done | rfl | assumption) | simp [put_at, *]), (by first | rfl | (simp only [put_at, ↓reduceIte, Nat.reduceEqDiff]; first | done | rfl | assumption) | simp [put_at, *]), (by first | rfl | (simp only [put_at, ↓reduceIte, Nat.reduceEqDiff]; first | done | rfl | assumption) | simp [put_at, *]), (by first | rfl | (simp only [put_at, ↓reduceIte, Nat.reduceEqDiff]; first | done | rfl | assumption) | simp [put_at, *]), (by first | rfl | (simp only [put_at, ↓reduceIte, Nat.reduceEqDiff]; first | done | rfl | assumption) | simp [put_at, *])⟩
        · have dj : decide (joinFs u be ≠ u) = true := by simp [hju]
          rw [dj]
          repeat' (first | simp -implicitDefEqProofs only [zG1,zG2,zG3,zG4,zG5,zG6,zG7,eq_self,resV,rval,X.val,binv,fillL,setR,↓reduceIte,Nat.reduceEqDiff,Nat.reduceAdd,Nat.reduceMul,Nat.reduceLeDiff,Nat.reduceLT,Nat.reduceSub,reduceCtorEq,zGp, f0, f1, f5, f6, f7, f8, f9, g2] | ((with_reducible refine rows_intro (fun _ hb => ?_)); try simp only [set_none, ne_eq] at hb) | ((with_reducible refine new_intro (fun _ hb => ?_)); try simp only [set_none, ne_eq] at hb) | (with_reducible refine draw_same ?_) | ((with_reducible refine gd_split ?_ (fun _ => ?_) (fun _ => ?_)); exact rfl) | ((with_reducible refine td_split ?_ (fun _ => ?_) (fun _ => ?_)); exact rfl) | (with_reducible refine c_split (fun _ => ?_) (fun _ => ?_)))
          exact hN' _ _ _ (.refl _) ⟨s3.set j (joinFs u be), true, l5, hch5, hR5, w25, w35, by rw [← ej]; exact hM.push hje hsj (by rw [ej]; exact hju), (by first | rfl | (simp only [put_at, ↓reduceIte, Nat.reduceEqDiff]; first | done | rfl | assumption) | simp [put_at, *]), (by first | rfl | (simp only [put_at, ↓reduceIte, Nat.reduceEqDiff]; first | done | rfl | assumption) | simp [put_at, *]), (by first | rfl | (simp only [put_at, ↓reduceIte, Nat.reduceEqDiff]; first | done | rfl | assumption) | simp [put_at, *]), (by first | rfl | (simp only [put_at, ↓reduceIte, Nat.reduceEqDiff]; first | done | rfl | assumption) | simp [put_at, *]), (by first | rfl | (simp only [put_at, ↓reduceIte, Nat.reduceEqDiff]; first | done | rfl | assumption) | simp [put_at, *]), (by first | rfl | (simp only [put_at, ↓reduceIte, Nat.reduceEqDiff]; first | done | rfl | assumption) | simp [put_at, *]), (by first | rfl | (simp only [put_at, ↓reduceIte, Nat.reduceEqDiff]; first | done | rfl | assumption) | simp [put_at, *])⟩
      · rintro fr C4 ⟨s3, fresh3, l4, hch4, hR3, w23, w33, hM, f0, f1, f5, f6, f7, f8, f9⟩ N'
        have g0 : decide ((es.length : Int) < (es.length : Int)) = false := by simp
        repeat' (first | simp -implicitDefEqProofs only [zG1,zG2,zG3,zG4,zG5,zG6,zG7,eq_self,resV,rval,X.val,binv,fillL,setR,↓reduceIte,Nat.reduceEqDiff,Nat.reduceAdd,Nat.reduceMul,Nat.reduceLeDiff,Nat.reduceLT,Nat.reduceSub,reduceCtorEq,zGp, f0, f1, f5, f6, f7, f8, f9, g0, g2] | ((with_reducible refine rows_intro (fun _ hb => ?_)); try simp only [set_none, ne_eq] at hb) | ((with_reducible refine new_intro (fun _ hb => ?_)); try simp only [set_none, ne_eq] at hb) | (with_reducible refine draw_same ?_) | ((with_reducible refine gd_split ?_ (fun _ => ?_) (fun _ => ?_)); exact rfl) | ((with_reducible refine td_split ?_ (fun _ => ?_) (fun _ => ?_)); exact rfl) | (with_reducible refine c_split (fun _ => ?_) (fun _ => ?_)))
        exact hN _ _ _ (.refl _) ⟨s3, fresh3, l4, hch4, hR3.sup hst, hM.exit (by rw [hes]; simp), (by first | rfl | (simp only [put_at, ↓reduceIte, Nat.reduceEqDiff]; first | done | rfl | assumption) | simp [put_at, *]), (by first | rfl | (simp only [put_at, ↓reduceIte, Nat.reduceEqDiff]; first | done | rfl | assumption) | simp [put_at, *]), (by first | rfl | (simp only [put_at, ↓reduceIte, Nat.reduceEqDiff]; first | done | rfl | assumption) | simp [put_at, *]), (by first | rfl | (simp only [put_at, ↓reduceIte, Nat.reduceEqDiff]; first | done | rfl | assumption) | simp [put_at, *])⟩
  · rintro fr C1 ⟨s1, fresh, l1, hch, hR, hRd, f0, f1, f5, f6⟩ N
    have g0 : decide ((qs.length : Int) < (qs.length : Int)) = false := by simp
    repeat' (first | simp -implicitDefEqProofs only [zG1,zG2,zG3,zG4,zG5,zG6,zG7,eq_self,resV,rval,X.val,binv,fillL,setR,↓reduceIte,Nat.reduceEqDiff,Nat.reduceAdd,Nat.reduceMul,Nat.reduceLeDiff,Nat.reduceLT,Nat.reduceSub,reduceCtorEq,zGp, f0, f1, f5, f6, g0] | ((with_reducible refine rows_intro (fun _ hb => ?_)); try simp only [set_none, ne_eq] at hb) | ((with_reducible refine new_intro (fun _ hb => ?_)); try simp only [set_none, ne_eq] at hb) | (with_reducible refine draw_same ?_) | ((with_reducible refine gd_split ?_ (fun _ => ?_) (fun _ => ?_)); exact rfl) | ((with_reducible refine td_split ?_ (fun _ => ?_) (fun _ => ?_)); exact rfl) | (with_reducible refine c_split (fun _ => ?_) (fun _ => ?_)))
    exact ret_same (h _ _ _ l1 hch hR hRd)
theorem factsOfS_ok (A : Option Addr) (c : Nat) (qs : List Qd) (hx : Fl H A (qcells qs)) (h : ∀ v C bs, AHeap.le H C → New H bs → (codeValid qs = true → (factsOf qs).length = qs.length ∧ ∀ v ∈ factsOf qs, okF v) → Rs C 87 102 2 v ((factsOf qs).map fcells) bs → K v C) :
    ACalls Tryz.prog w0 85 [.slice A qs.length c] H K := by
  cases hv : codeValid qs with
  | false =>
    have e : factsOf qs = [] := by simp [factsOf, hv]
    rw [e] at h
    refine acalls_of_sx mix Tryz.func85 of85 (by simp [ir85]) ?_; rw [ir85]; (try delta qT qI qC qO qM qG)
    repeat' (first | simp -implicitDefEqProofs only [zG1,zG2,zG3,zG4,zG5,zG6,zG7,eq_self,resV,rval,X.val,binv,fillL,setR,↓reduceIte,Nat.reduceEqDiff,Nat.reduceAdd,Nat.reduceMul,Nat.reduceLeDiff,Nat.reduceLT,Nat.reduceSub,reduceCtorEq,zGp, hv] | ((with_reducible refine rows_intro (fun _ hb => ?_)); try simp only [set_none, ne_eq] at hb) | ((with_reducible refine new_intro (fun _ hb => ?_)); try simp only [set_none, ne_eq] at hb) | (with_reducible refine draw_same ?_) | ((with_reducible refine gd_split ?_ (fun _ => ?_) (fun _ => ?_)); exact rfl) | ((with_reducible refine td_split ?_ (fun _ => ?_) (fun _ => ?_)); exact rfl) | (with_reducible refine c_split (fun _ => ?_) (fun _ => ?_)) | (with_reducible refine codeValidS_ok _ _ _ _ _ _ (hx.fresh ‹H _ = none› _) ?_))
    exact ret_same (h _ _ _ ((AHeap.le.refl H).fresh hb _) (New.one hb) (fun h => by rw [hv] at h; cases h) (Rs.empty (Rw.mk (Kn.same _ _ _) rfl (Nat.le_refl _) (by simp [maxLen])) _ _))
  | true =>
    have hc := code_at hv
    have e : factsOf qs = factsL qs := by simp [factsOf, hv]
    rw [e] at h
    refine acalls_of_sx mix Tryz.func85 of85 (by simp [ir85]) ?_; rw [ir85]; (try delta qT qI qC qO qM qG)
    repeat' (first | simp -implicitDefEqProofs only [zG1,zG2,zG3,zG4,zG5,zG6,zG7,eq_self,resV,rval,X.val,binv,fillL,setR,↓reduceIte,Nat.reduceEqDiff,Nat.reduceAdd,Nat.reduceMul,Nat.reduceLeDiff,Nat.reduceLT,Nat.reduceSub,reduceCtorEq,zGp, hv] | ((with_reducible refine rows_intro (fun _ hb => ?_)); try simp only [set_none, ne_eq] at hb) | ((with_reducible refine new_intro (fun _ hb => ?_)); try simp only [set_none, ne_eq] at hb) | (with_reducible refine draw_same ?_) | ((with_reducible refine gd_split ?_ (fun _ => ?_) (fun _ => ?_)); exact rfl) | ((with_reducible refine td_split ?_ (fun _ => ?_) (fun _ => ?_)); exact rfl) | (with_reducible refine c_split (fun _ => ?_) (fun _ => ?_)) | (with_reducible refine codeValidS_ok _ _ _ _ _ _ (hx.fresh ‹H _ = none› _) ?_))
    rename_i b0
    have R0 : Rs (H.set b0 ⟨[], true, 87, 0⟩) 87 102 2 (.slice (some ⟨b0, 0, none⟩) 0 0) (([] : List (List Fc)).map fcells) [b0] := Rs.empty (Rw.mk (Kn.same _ _ _) rfl (Nat.le_refl _) (by simp [maxLen])) _ _
    refine for_rule qs.length (fun k fr C => ∃ (v : Value) (bs : List Nat), AHeap.le H C ∧ New H bs ∧ Rs C 87 102 2 v ((List.replicate k botF).map fcells) bs ∧ fr 0 = .slice A qs.length c ∧ fr 3 = v ∧ fr 4 = .int .i64 k)
      ⟨_, [b0], (AHeap.le.refl H).fresh hb _, New.one hb, R0, (by first | rfl | (simp only [put_at, ↓reduceIte, Nat.reduceEqDiff]; first | done | rfl | assumption) | simp [put_at, *]), (by first | rfl | (simp only [put_at, ↓reduceIte, Nat.reduceEqDiff]; first | done | rfl | assumption) | simp [put_at, *]), (by first | rfl | (simp only [put_at, ↓reduceIte, Nat.reduceEqDiff]; first | done | rfl | assumption) | simp [put_at, *])⟩ ?_ ?_
    · rintro k fr C hk ⟨v, bs0, hle, hn0, hR0, f0, f3, f4⟩ N hN
      obtain ⟨bs, hs, hne, hR⟩ := hR0.tight
      have hn : New H bs := fun y hy => hn0 y (hs y hy)
      have g0 := lt_dec hk
      have g2 := up1 hk (by omega)
      obtain ⟨A3, c3, rfl⟩ := hR.slice
      repeat' (first | simp -implicitDefEqProofs only [zG1,zG2,zG3,zG4,zG5,zG6,zG7,eq_self,resV,rval,X.val,binv,fillL,setR,↓reduceIte,Nat.reduceEqDiff,Nat.reduceAdd,Nat.reduceMul,Nat.reduceLeDiff,Nat.reduceLT,Nat.reduceSub,reduceCtorEq,zGp, f0, f3, f4, g0, g2] | ((with_reducible refine rows_intro (fun _ hb => ?_)); try simp only [set_none, ne_eq] at hb) | ((with_reducible refine new_intro (fun _ hb => ?_)); try simp only [set_none, ne_eq] at hb) | (with_reducible refine draw_same ?_) | ((with_reducible refine gd_split ?_ (fun _ => ?_) (fun _ => ?_)); exact rfl) | ((with_reducible refine td_split ?_ (fun _ => ?_) (fun _ => ?_)); exact rfl) | (with_reducible refine c_split (fun _ => ?_) (fun _ => ?_)))
      refine mk_intro (n := 12) (by omega) (by omega) (fun b1 hb1 => ?_)
      repeat' (first | simp -implicitDefEqProofs only [zG1,zG2,zG3,zG4,zG5,zG6,zG7,eq_self,resV,rval,X.val,binv,fillL,setR,↓reduceIte,Nat.reduceEqDiff,Nat.reduceAdd,Nat.reduceMul,Nat.reduceLeDiff,Nat.reduceLT,Nat.reduceSub,reduceCtorEq,zGp, f0, f3, f4, g0, g2] | ((with_reducible refine rows_intro (fun _ hb => ?_)); try simp only [set_none, ne_eq] at hb) | ((with_reducible refine new_intro (fun _ hb => ?_)); try simp only [set_none, ne_eq] at hb) | (with_reducible refine draw_same ?_) | ((with_reducible refine gd_split ?_ (fun _ => ?_) (fun _ => ?_)); exact rfl) | ((with_reducible refine td_split ?_ (fun _ => ?_) (fun _ => ?_)); exact rfl) | (with_reducible refine c_split (fun _ => ?_) (fun _ => ?_)))
      rename_i b2
      have l1 := (AHeap.le.refl C).fresh hb1 ⟨fcells botF, true, 102, 24⟩
      have l2 := le_fresh0 l1 hb.2 ⟨[.slice (some ⟨b1, 0, none⟩) 12 12], true, 87, 1⟩
      have w1 : Rw ((C.set b1 ⟨fcells botF, true, 102, 24⟩).set b2 ⟨[.slice (some ⟨b1, 0, none⟩) 12 12], true, 87, 1⟩) 102 2 (.slice (some ⟨b1, 0, none⟩) 12 12) 12 (fcells botF) [b1] :=
        Rw.mk ((Kn.same _ _ _).set (fun e => hb.1 e.symm) _) rfl (Nat.le_refl _) (by simp [maxLen])
      refine (hR.trans l2).app w1 (fun y hy hm => ?_) rfl (Fl.blk _ _ _ _ fun _ _ h => h) (by simp [maxLen]; omega) (by simp; omega) (fun v' C' bs' hc' hn' hR' => ?_)
      · simp at hy; subst hy; exact hne _ hm hb1
      · rw [show (List.replicate k botF).map fcells ++ [fcells botF] = (List.replicate (k + 1) botF).map fcells by rw [List.replicate_succ', List.map_append]; rfl] at hR'
        repeat' (first | simp -implicitDefEqProofs only [zG1,zG2,zG3,zG4,zG5,zG6,zG7,eq_self,resV,rval,X.val,binv,fillL,setR,↓reduceIte,Nat.reduceEqDiff,Nat.reduceAdd,Nat.reduceMul,Nat.reduceLeDiff,Nat.reduceLT,Nat.reduceSub,reduceCtorEq,zGp, f0, f3, f4, g2] | ((with_reducible refine rows_intro (fun _ hb => ?_)); try simp only [set_none, ne_eq] at hb) | ((with_reducible refine new_intro (fun _ hb => ?_)); try simp only [set_none, ne_eq] at hb) | (with_reducible refine draw_same ?_) | ((with_reducible refine gd_split ?_ (fun _ => ?_) (fun _ => ?_)); exact rfl) | ((with_reducible refine td_split ?_ (fun _ => ?_) (fun _ => ?_)); exact rfl) | (with_reducible refine c_split (fun _ => ?_) (fun _ => ?_)))
        refine hN _ _ _ (.refl _) ⟨v', bs', hc'.keep (hle.trans l2) hn, fun y hy => ?_, hR', (by first | rfl | (simp only [put_at, ↓reduceIte, Nat.reduceEqDiff]; first | done | rfl | assumption) | simp [put_at, *]), (by first | rfl | (simp only [put_at, ↓reduceIte, Nat.reduceEqDiff]; first | done | rfl | assumption) | simp [put_at, *]), (by first | rfl | (simp only [put_at, ↓reduceIte, Nat.reduceEqDiff]; first | done | rfl | assumption) | simp [put_at, *])⟩
        rcases hn' y hy with hm | hm | hm
        · exact hn y hm
        · simp at hm; subst hm; exact hle.none hb1
        · exact (hle.trans l2).none hm
    · rintro fr C ⟨v, bs0, hle, hn0, hR0, f0, f3, f4⟩ N
      have g0 : decide ((qs.length : Int) < (qs.length : Int)) = false := by simp
      obtain ⟨bs, hs, hne, hR⟩ := hR0.tight
      have hn : New H bs := fun y hy => hn0 y (hs y hy)
      obtain ⟨A3, c3, rfl⟩ := hR.slice
      have e0 : ((List.replicate qs.length botF).map fcells).length = qs.length := by simp
      obtain ⟨b, rfl⟩ : ∃ b, A3 = some ⟨b, 0, none⟩ := by
        obtain ⟨vs, ob, bss, w, _⟩ := hR
        obtain ⟨b, cap, e, _⟩ := w.open_ (by rw [e0]; omega)
        simp only [Value.slice.injEq] at e
        exact ⟨b, e.1⟩
      rw [e0] at hR f3
      have z0 : ((0 : Int) ≤ 0 ∧ (0 : Int) < (qs.length : Int)) = True := by simp; omega
      have t00 : (0 : Int).toNat = 0 := rfl
      repeat' (first | simp -implicitDefEqProofs only [zG1,zG2,zG3,zG4,zG5,zG6,zG7,eq_self,resV,rval,X.val,binv,fillL,setR,↓reduceIte,Nat.reduceEqDiff,Nat.reduceAdd,Nat.reduceMul,Nat.reduceLeDiff,Nat.reduceLT,Nat.reduceSub,reduceCtorEq,zGp, f0, f3, f4, g0] | ((with_reducible refine rows_intro (fun _ hb => ?_)); try simp only [set_none, ne_eq] at hb) | ((with_reducible refine new_intro (fun _ hb => ?_)); try simp only [set_none, ne_eq] at hb) | (with_reducible refine draw_same ?_) | ((with_reducible refine gd_split ?_ (fun _ => ?_) (fun _ => ?_)); exact rfl) | ((with_reducible refine td_split ?_ (fun _ => ?_) (fun _ => ?_)); exact rfl) | (with_reducible refine c_split (fun _ => ?_) (fun _ => ?_)))
      refine for_rule 12 (fun k fr C => AHeap.le H C ∧ Rs C 87 102 2 (.slice (some ⟨b, 0, none⟩) qs.length c3) ((zeroTo k :: List.replicate (qs.length - 1) botF).map fcells) bs ∧ fr 0 = .slice A qs.length c ∧ fr 3 = .slice (some ⟨b, 0, none⟩) qs.length c3 ∧ fr 5 = .int .i64 k)
        ⟨hle, ?_, (by first | rfl | (simp only [put_at, ↓reduceIte, Nat.reduceEqDiff]; first | done | rfl | assumption) | simp [put_at, *]), (by first | rfl | (simp only [put_at, ↓reduceIte, Nat.reduceEqDiff]; first | done | rfl | assumption) | simp [put_at, *]), (by first | rfl | (simp only [put_at, ↓reduceIte, Nat.reduceEqDiff]; first | done | rfl | assumption) | simp [put_at, *])⟩ ?_ ?_
      · obtain ⟨m, hm0⟩ : ∃ m, qs.length = m + 1 := ⟨qs.length - 1, by omega⟩
        rw [zeroTo_zero, show botF :: List.replicate (qs.length - 1) botF = List.replicate qs.length botF by rw [hm0]; rfl]; exact hR
      · rintro k fr C hk ⟨hle, hR, f0, f3, f5⟩ N hN
        have g1 : decide ((k : Int) < 12) = true := by simp; omega
        have g3 : (0 ≤ (k : Int) ∧ (k : Int) < ((12 : Nat) : Int)) = True := by simp; omega
        have g2 := up1 hk (by omega)
        obtain ⟨q1, x, ib, n', q2, wx, hib, hout, put⟩ := hR.inner (i := 0) (by simp)
        simp only [List.map_cons, List.getElem_cons_zero] at wx
        have hzl : (zeroTo k).length = 12 := mkF_len _
        have hn' : n' = 12 := by have := wx.len; rw [fcells_len, hzl] at this; omega
        subst hn'
        obtain ⟨b7, cx, rfl, rfl, hlx, hmx, -, kx⟩ := wx.open_ (by omega)
        rw [adr_lit, Nat.zero_add] at q2
        have hfs := fcells_set (fs := zeroTo k) (k := k) (by omega) ⟨1, 0⟩
        have hzs : (zeroTo k).set k ⟨1, 0⟩ = zeroTo (k + 1) := by
          refine extF (by rw [List.length_set]; exact hzl) (mkF_len _) fun r hr => ?_
          rw [fAt_set (by omega), zeroTo, zeroTo, mkF_at _ hr, mkF_at _ hr]
          by_cases e : k = r
          · subst e; rw [if_pos rfl, if_pos (by omega)]
          · have : (r < k) = (r < k + 1) := by simp; omega
            rw [if_neg e]; simp only [this]
        rw [hzs] at hfs
        repeat' (first | simp -implicitDefEqProofs only [zG1,zG2,zG3,zG4,zG5,zG6,zG7,eq_self,resV,rval,X.val,binv,fillL,setR,↓reduceIte,Nat.reduceEqDiff,Nat.reduceAdd,Nat.reduceMul,Nat.reduceLeDiff,Nat.reduceLT,Nat.reduceSub,reduceCtorEq,zGp, f0, f3, f5, g1, g2, g3, z0, t00, q2, adr_lit, Nat.zero_add, Nat.zero_mul, Nat.mul_one] | ((with_reducible refine rows_intro (fun _ hb => ?_)); try simp only [set_none, ne_eq] at hb) | ((with_reducible refine new_intro (fun _ hb => ?_)); try simp only [set_none, ne_eq] at hb) | (with_reducible refine draw_same ?_) | ((with_reducible refine gd_split ?_ (fun _ => ?_) (fun _ => ?_)); exact rfl) | ((with_reducible refine td_split ?_ (fun _ => ?_) (fun _ => ?_)); exact rfl) | (with_reducible refine c_split (fun _ => ?_) (fun _ => ?_)))
        refine st_kn kx rfl rfl (by simp only; rw [fcells_len, hzl]; show k * 2 + 2 ≤ _; omega) (by simp [vcA, Value.oneCell']) (fun C6 hc6 ho6 k6 => ?_)
        have k6' : Kn C6 b7 ⟨fcells (zeroTo (k + 1)), true, 102, cx * 2⟩ := by rw [← hfs]; exact k6
        have hR6 := put C6 _ hc6 (Rw.mk k6' (by rw [fcells_len]; exact congrArg (· * 2) (mkF_len _)) hlx hmx)
        rw [List.map_cons, List.set_cons_zero] at hR6
        repeat' (first | simp -implicitDefEqProofs only [zG1,zG2,zG3,zG4,zG5,zG6,zG7,eq_self,resV,rval,X.val,binv,fillL,setR,↓reduceIte,Nat.reduceEqDiff,Nat.reduceAdd,Nat.reduceMul,Nat.reduceLeDiff,Nat.reduceLT,Nat.reduceSub,reduceCtorEq,zGp, f0, f3, f5, g2] | ((with_reducible refine rows_intro (fun _ hb => ?_)); try simp only [set_none, ne_eq] at hb) | ((with_reducible refine new_intro (fun _ hb => ?_)); try simp only [set_none, ne_eq] at hb) | (with_reducible refine draw_same ?_) | ((with_reducible refine gd_split ?_ (fun _ => ?_) (fun _ => ?_)); exact rfl) | ((with_reducible refine td_split ?_ (fun _ => ?_) (fun _ => ?_)); exact rfl) | (with_reducible refine c_split (fun _ => ?_) (fun _ => ?_)))
        exact hN _ _ _ (.refl _) ⟨hc6.keep hle (fun y hy => hn y (hib y hy)), hR6, (by first | rfl | (simp only [put_at, ↓reduceIte, Nat.reduceEqDiff]; first | done | rfl | assumption) | simp [put_at, *]), (by first | rfl | (simp only [put_at, ↓reduceIte, Nat.reduceEqDiff]; first | done | rfl | assumption) | simp [put_at, *]), (by first | rfl | (simp only [put_at, ↓reduceIte, Nat.reduceEqDiff]; first | done | rfl | assumption) | simp [put_at, *])⟩
      · rintro fr C ⟨hle, hR, f0, f3, f5⟩ N
        have g0 : decide (((12 : Nat) : Int) < 12) = false := by decide
        rw [zeroTo_end] at hR
        repeat' (first | simp -implicitDefEqProofs only [zG1,zG2,zG3,zG4,zG5,zG6,zG7,eq_self,resV,rval,X.val,binv,fillL,setR,↓reduceIte,Nat.reduceEqDiff,Nat.reduceAdd,Nat.reduceMul,Nat.reduceLeDiff,Nat.reduceLT,Nat.reduceSub,reduceCtorEq,zGp, f0, f3, f5, g0] | ((with_reducible refine rows_intro (fun _ hb => ?_)); try simp only [set_none, ne_eq] at hb) | ((with_reducible refine new_intro (fun _ hb => ?_)); try simp only [set_none, ne_eq] at hb) | (with_reducible refine draw_same ?_) | ((with_reducible refine gd_split ?_ (fun _ => ?_) (fun _ => ?_)); exact rfl) | ((with_reducible refine td_split ?_ (fun _ => ?_) (fun _ => ?_)); exact rfl) | (with_reducible refine c_split (fun _ => ?_) (fun _ => ?_)))
        refine while_rule (fun m fr C => ∃ (s : List (List Fc)), m = (factF qs).pot s ∧ AHeap.le H C ∧ Rs C 87 102 2 (.slice (some ⟨b, 0, none⟩) qs.length c3) (s.map fcells) bs ∧ (factF qs).Below (facts0 qs.length) s ∧ fr 0 = .slice A qs.length c ∧ fr 3 = .slice (some ⟨b, 0, none⟩) qs.length c3) ((factF qs).pot (facts0 qs.length))
          ⟨facts0 qs.length, rfl, hle, hR, Fw.Below.init (facts0_ok qs _), (by first | rfl | (simp only [put_at, ↓reduceIte, Nat.reduceEqDiff]; first | done | rfl | assumption) | simp [put_at, *]), (by first | rfl | (simp only [put_at, ↓reduceIte, Nat.reduceEqDiff]; first | done | rfl | assumption) | simp [put_at, *])⟩ ?_
        rintro m fr C ⟨s, rfl, hle, hR, hBel, f0, f3⟩ N hN
        repeat' (first | simp -implicitDefEqProofs only [zG1,zG2,zG3,zG4,zG5,zG6,zG7,eq_self,resV,rval,X.val,binv,fillL,setR,↓reduceIte,Nat.reduceEqDiff,Nat.reduceAdd,Nat.reduceMul,Nat.reduceLeDiff,Nat.reduceLT,Nat.reduceSub,reduceCtorEq,zGp, f0, f3] | ((with_reducible refine rows_intro (fun _ hb => ?_)); try simp only [set_none, ne_eq] at hb) | ((with_reducible refine new_intro (fun _ hb => ?_)); try simp only [set_none, ne_eq] at hb) | (with_reducible refine draw_same ?_) | ((with_reducible refine gd_split ?_ (fun _ => ?_) (fun _ => ?_)); exact rfl) | ((with_reducible refine td_split ?_ (fun _ => ?_) (fun _ => ?_)); exact rfl) | (with_reducible refine c_split (fun _ => ?_) (fun _ => ?_)))
        refine l33Round_ok _ H _ A c qs hv hx C hle b c3 s bs hR hn hBel (fun C2 s2 fresh l2 hch2 R2 hRd => ?_)
        cases fresh with
        | true =>
          repeat' (first | simp -implicitDefEqProofs only [zG1,zG2,zG3,zG4,zG5,zG6,zG7,eq_self,resV,rval,X.val,binv,fillL,setR,↓reduceIte,Nat.reduceEqDiff,Nat.reduceAdd,Nat.reduceMul,Nat.reduceLeDiff,Nat.reduceLT,Nat.reduceSub,reduceCtorEq,zGp, f0, f3] | ((with_reducible refine rows_intro (fun _ hb => ?_)); try simp only [set_none, ne_eq] at hb) | ((with_reducible refine new_intro (fun _ hb => ?_)); try simp only [set_none, ne_eq] at hb) | (with_reducible refine draw_same ?_) | ((with_reducible refine gd_split ?_ (fun _ => ?_) (fun _ => ?_)); exact rfl) | ((with_reducible refine td_split ?_ (fun _ => ?_) (fun _ => ?_)); exact rfl) | (with_reducible refine c_split (fun _ => ?_) (fun _ => ?_)))
          exact hN _ _ _ _ (hRd.2.2 rfl) (.refl _) ⟨s2, rfl, l2, R2, hRd.1, (by first | rfl | (simp only [put_at, ↓reduceIte, Nat.reduceEqDiff]; first | done | rfl | assumption) | simp [put_at, *]), (by first | rfl | (simp only [put_at, ↓reduceIte, Nat.reduceEqDiff]; first | done | rfl | assumption) | simp [put_at, *])⟩
        | false =>
          have hs2 : factsL qs = s2 := Fw.Sol.eq (Fw.Rd.sol (st := s) (by rw [facts0_len hc.1]; exact hRd))
          rw [hs2] at h
          have hsl : s2.length = qs.length := hRd.1.1.trans (facts0_len hc.1)
          have hok : ∀ v ∈ s2, okF v := fun v hv => by
            obtain ⟨i, hi, rfl⟩ := List.getElem_of_mem hv
            exact hRd.1.2.1 i _ (List.getElem?_eq_getElem hi)
          repeat' (first | simp -implicitDefEqProofs only [zG1,zG2,zG3,zG4,zG5,zG6,zG7,eq_self,resV,rval,X.val,binv,fillL,setR,↓reduceIte,Nat.reduceEqDiff,Nat.reduceAdd,Nat.reduceMul,Nat.reduceLeDiff,Nat.reduceLT,Nat.reduceSub,reduceCtorEq,zGp, f0, f3] | ((with_reducible refine rows_intro (fun _ hb => ?_)); try simp only [set_none, ne_eq] at hb) | ((with_reducible refine new_intro (fun _ hb => ?_)); try simp only [set_none, ne_eq] at hb) | (with_reducible refine draw_same ?_) | ((with_reducible refine gd_split ?_ (fun _ => ?_) (fun _ => ?_)); exact rfl) | ((with_reducible refine td_split ?_ (fun _ => ?_) (fun _ => ?_)); exact rfl) | (with_reducible refine c_split (fun _ => ?_) (fun _ => ?_)))
          exact ret_same (h _ _ _ l2 hn (fun _ => ⟨hsl, hok⟩) R2)
end Go.Proofs.YtodhkodhndbpmaaGreat
namespace Go.Proofs.YtodhkodhndbpmaaGreat
set_option linter.all false
open Go Go.RowKit
set_option maxRecDepth 100000
variable (w0 : World) (H : AHeap) (K : Value → AHeap → Prop)
theorem qcells_oc' (qs : List Qd) : ∀ v ∈ qcells qs, v.oneCell' = true := by
  intro v hv
  simp only [qcells, List.mem_flatMap, Qd.cells, List.mem_cons, List.not_mem_nil, or_false] at hv
  obtain ⟨q, _, h | h | h | h | h⟩ := hv <;> subst h <;> rfl
end Go.Proofs.YtodhkodhndbpmaaGreat
