/- Copies in plain Lean: which register is a copy of which, and how that is carried. -/
import Derived.Test.YtfjhjfddgdokgaaSxReach
import Derived.Test.YtfjhjfddgdokgaaSxSets
import Derived.Test.YtfjhjfddgdokgaaSxFlow
namespace Go.Proofs.Ytfjhjfddgdokgaa
set_option linter.all false
open Go Go.RowKit
def iAt (l : List Int) (r : Nat) : Int := (l[r]?).getD 0
theorem iAt_eq {l : List Int} {r : Nat} (h : r < l.length) : iAt l r = l[r] := by simp [iAt, h]
theorem ext12 {a b : List Int} (ha : a.length = 12) (hb : b.length = 12) (h : ∀ r, r < 12 → iAt a r = iAt b r) : a = b := by
  apply List.ext_getElem?
  intro r
  by_cases hr : r < 12
  · have := h r hr
    rw [iAt_eq (by omega), iAt_eq (by omega)] at this
    rw [List.getElem?_eq_getElem (by omega), List.getElem?_eq_getElem (by omega), this]
  · rw [List.getElem?_eq_none (by omega), List.getElem?_eq_none (by omega)]
def mk12 (f : Nat → Int) : List Int := (List.range 12).map f
theorem mk12_len (f : Nat → Int) : (mk12 f).length = 12 := by simp [mk12]
theorem mk12_at (f : Nat → Int) {r : Nat} (h : r < 12) : iAt (mk12 f) r = f r := by simp [iAt, mk12, h]
theorem mk12_ne (f : Nat → Int) : mk12 f ≠ [] := fun e => by have := mk12_len f; rw [e] at this; cases this
def selfC : List Int := mk12 fun r => (r : Int)
def meetC (a b : List Int) : List Int := mk12 fun r => if iAt a r = iAt b r then iAt a r else (r : Int)
def keptC (q : Qd) (v : List Int) : List Int := mk12 fun r => if (r : Int) = setsOf q ∨ iAt v r = setsOf q then (r : Int) else iAt v r
def behindC (q : Qd) (v : List Int) : List Int := if v = [] then [] else if setsOf q < 0 then v else if q.op = 2 then (keptC q v).set (setsOf q).toNat q.a else keptC q v
def joinC (a b : List Int) : List Int := if a = [] then b else if b = [] then a else meetC a b
def leC (a b : List Int) : Prop := a = [] ∨ (b ≠ [] ∧ ∀ r, r < 12 → iAt b r = (r : Int) ∨ iAt b r = iAt a r)
def okC (v : List Int) : Prop := v = [] ∨ v.length = 12
def cntC (v : List Int) : Nat := ((List.range 12).filter fun r => iAt v r != (r : Int)).length
def htC (v : List Int) : Nat := if v = [] then 13 else cntC v
theorem filter_lt {p q : Nat → Bool} : ∀ {l : List Nat}, (∀ r ∈ l, p r = true → q r = true) → (∃ r ∈ l, q r = true ∧ p r = false) → (l.filter p).length < (l.filter q).length
  | [], _, ⟨r, hr, _⟩ => by cases hr
  | x :: l, h, ⟨r, hr, h1, h2⟩ => by
    have hle : (l.filter p).length ≤ (l.filter q).length := by
      have : ∀ l : List Nat, (∀ r ∈ l, p r = true → q r = true) → (l.filter p).length ≤ (l.filter q).length := by
        intro l
        induction l with
        | nil => intro _; exact Nat.le_refl _
        | cons y l ih =>
          intro h
          have := ih fun r hr => h r (by simp [hr])
          have hy := h y (by simp)
          simp only [List.filter_cons]
          split <;> split <;> simp_all <;> omega
      exact this l fun r hr => h r (by simp [hr])
    have hx := h x (by simp)
    rcases List.mem_cons.1 hr with rfl | hr
    · simp only [List.filter_cons, h1, h2, if_true, List.length_cons]
      simp; omega
    · have ih := filter_lt (l := l) (fun r hr => h r (by simp [hr])) ⟨r, hr, h1, h2⟩
      simp only [List.filter_cons]
      split <;> split <;> simp_all <;> omega
theorem cntC_le (v : List Int) : cntC v ≤ 12 := Nat.le_trans (List.length_filter_le _ _) (by simp)
theorem behindC_len {q : Qd} {v : List Int} (h : okC v) : okC (behindC q v) := by
  unfold behindC
  split
  · exact .inl rfl
  · split
    · exact h
    · split
      · exact .inr (by rw [List.length_set]; exact mk12_len _)
      · exact .inr (mk12_len _)
theorem behindC_ne {q : Qd} {v : List Int} (h : v ≠ []) : behindC q v ≠ [] := by
  unfold behindC
  rw [if_neg h]
  split
  · exact h
  · split
    · intro e
      have : ((keptC q v).set (setsOf q).toNat q.a).length = 12 := by rw [List.length_set]; exact mk12_len _
      rw [e] at this; cases this
    · exact mk12_ne _
theorem iAt_set {l : List Int} {i : Nat} {x : Int} {r : Nat} (hr : r < l.length) : iAt (l.set i x) r = if i = r then x else iAt l r := by
  simp only [iAt, List.getElem?_set]
  split
  · rename_i e; subst e; simp [hr]
  · rfl
theorem behindC_mono {q : Qd} {a b : List Int} (ha : okC a) (hb : okC b) (h : leC a b) : leC (behindC q a) (behindC q b) := by
  rcases h with rfl | ⟨hb0, h⟩
  · exact .inl (by simp [behindC])
  · by_cases ha0 : a = []
    · exact .inl (by simp [behindC, ha0])
    refine .inr ⟨behindC_ne hb0, fun r hr => ?_⟩
    have hk : iAt (keptC q b) r = (r : Int) ∨ iAt (keptC q b) r = iAt (keptC q a) r := by
      simp only [keptC]
      rw [mk12_at _ hr, mk12_at _ hr]
      rcases h r hr with h1 | h1
      · rw [h1]; split <;> exact .inl rfl
      · rw [h1]; exact .inr rfl
    unfold behindC
    rw [if_neg ha0, if_neg hb0]
    split
    · exact h r hr
    · split
      · rw [iAt_set (by rw [keptC, mk12_len]; exact hr), iAt_set (by rw [keptC, mk12_len]; exact hr)]
        split
        · exact .inr rfl
        · exact hk
      · exact hk
def copyF (qs : List Qd) : Fw (List Int) where
  ok := okC
  le := leC
  join := joinC
  edges i v := if v = [] then [] else jn qs i
  tr i v := match qs[i]? with
    | some q => behindC q v
    | none => []
  ht := htC
  refl a := by
    by_cases h : a = []
    · exact .inl h
    · exact .inr ⟨h, fun r _ => .inr rfl⟩
  trans := by
    intro a b c h h'
    rcases h with h | ⟨hb, h⟩
    · exact .inl h
    · rcases h' with h' | ⟨hc, h'⟩
      · exact absurd h' hb
      · refine .inr ⟨hc, fun r hr => ?_⟩
        rcases h' r hr with h1 | h1
        · exact .inl h1
        · rw [h1]; exact h r hr
  anti := by
    intro a b ha hb h h'
    rcases h with rfl | ⟨hb0, h⟩
    · rcases h' with rfl | ⟨h0, _⟩
      · rfl
      · exact absurd rfl h0
    · rcases h' with rfl | ⟨ha0, h'⟩
      · exact absurd rfl hb0
      · refine ext12 (ha.resolve_left ha0) (hb.resolve_left hb0) fun r hr => ?_
        rcases h r hr with h1 | h1
        · rcases h' r hr with h2 | h2
          · rw [h1, h2]
          · exact h2
        · exact h1.symm
  ok_join := by
    intro a b ha hb
    unfold joinC
    split
    · exact hb
    · split
      · exact ha
      · exact .inr (mk12_len _)
  ok_tr := by
    intro i a ha
    show okC (match qs[i]? with | some q => behindC q a | none => [])
    split
    · exact behindC_len ha
    · exact .inl rfl
  join_l := by
    intro a b ha hb
    unfold joinC
    split
    · exact .inl ‹_›
    · split
      · exact .inr ⟨‹_›, fun r _ => .inr rfl⟩
      · refine .inr ⟨mk12_ne _, fun r hr => ?_⟩
        rw [meetC, mk12_at _ hr]
        split
        · exact .inr rfl
        · exact .inl rfl
  join_r := by
    intro a b ha hb
    unfold joinC
    split
    · by_cases h : b = []
      · exact .inl h
      · exact .inr ⟨h, fun r _ => .inr rfl⟩
    · split
      · exact .inl ‹_›
      · refine .inr ⟨mk12_ne _, fun r hr => ?_⟩
        rw [meetC, mk12_at _ hr]
        split
        · exact .inr ‹_›
        · exact .inl rfl
  join_le := by
    intro a b c ha hb hc h h'
    unfold joinC
    split
    · exact h'
    · split
      · exact h
      · rename_i ha0 hb0
        obtain ⟨hc0, h⟩ := h.resolve_left ha0
        obtain ⟨_, h'⟩ := h'.resolve_left hb0
        refine .inr ⟨hc0, fun r hr => ?_⟩
        rw [meetC, mk12_at _ hr]
        rcases h r hr with h1 | h1
        · exact .inl h1
        · rcases h' r hr with h2 | h2
          · exact .inl h2
          · rw [if_pos (by rw [← h1, ← h2])]; exact .inr h1
  mono_tr := by
    intro i a b ha hb h
    show leC (match qs[i]? with | some q => behindC q a | none => []) (match qs[i]? with | some q => behindC q b | none => [])
    split
    · exact behindC_mono ha hb h
    · exact .inl rfl
  mono_ed := by
    intro i j a b ha hb h hj
    rcases h with rfl | ⟨hb0, h⟩
    · simp at hj
    · by_cases ha0 : a = []
      · subst ha0; simp at hj
      · rw [if_neg ha0] at hj; rw [if_neg hb0]; exact hj
  ht_lt := by
    intro a b ha hb h
    unfold joinC at h ⊢
    split at h
    · rename_i ha0
      rw [if_pos ha0]
      have hb0 : b ≠ [] := fun e => h (by rw [e, ha0])
      simp only [htC, ha0, if_true, if_neg hb0]
      have := cntC_le b; omega
    · rename_i ha0
      split at h
      · exact absurd rfl h
      · rename_i hb0
        rw [if_neg ha0, if_neg hb0]
        simp only [htC, if_neg ha0, if_neg (mk12_ne _), meetC]
        refine filter_lt (fun r hr hp => ?_) ?_
        · have hr' := List.mem_range.1 hr
          rw [mk12_at _ hr'] at hp
          split at hp
          · exact hp
          · simp at hp
        · have : ∃ r, r < 12 ∧ iAt (meetC a b) r ≠ iAt a r := by
            refine Classical.byContradiction fun hno => h (ext12 (mk12_len _) (ha.resolve_left ha0) fun r hr => ?_)
            exact Classical.byContradiction fun hne => hno ⟨r, hr, hne⟩
          obtain ⟨r, hr, hne⟩ := this
          rw [meetC, mk12_at _ hr] at hne
          refine ⟨r, List.mem_range.2 hr, ?_, ?_⟩
          · split at hne
            · exact absurd rfl hne
            · simpa using fun e => hne e.symm
          · rw [mk12_at _ hr]
            split at hne
            · exact absurd rfl hne
            · rename_i hc; rw [if_neg hc]; simp
def copies0 (n : Nat) : List (List Int) := selfC :: List.replicate (n - 1) []
theorem copies0_len {n : Nat} (h : 1 ≤ n) : (copies0 n).length = n := by simp [copies0]; omega
theorem copies0_ok (qs : List Qd) (n : Nat) : (copyF qs).Oks (copies0 n) := fun i v h => by
  cases i with
  | zero => simp [copies0] at h; subst h; exact .inr (mk12_len _)
  | succ i =>
    simp only [copies0, List.getElem?_cons_succ, List.getElem?_replicate] at h
    split at h
    · obtain rfl := Option.some.inj h; exact .inl rfl
    · cases h
/-- Unknown: every register is itself. -/
def shown (v : List Int) : List Int := if v = [] then selfC else v
noncomputable def copiesL (qs : List Qd) : List (List Int) := (copyF qs).sol (copies0 qs.length)
noncomputable def copiesOf (qs : List Qd) : List (List Int) := if codeValid qs then (copiesL qs).map shown else []
theorem copiesOf_le {qs : List Qd} (h : codeValid qs = true → (copiesOf qs).length = qs.length ∧ ∀ v ∈ copiesOf qs, v.length = 12) : (copiesOf qs).length ≤ 600 ∧ ∀ x ∈ copiesOf qs, x.length ≤ 12 := by
  cases hv : codeValid qs with
  | false =>
    have e : copiesOf qs = [] := by simp [copiesOf, hv]
    rw [e]; simp
  | true =>
    obtain ⟨h1, h2⟩ := h hv
    exact ⟨by rw [h1]; exact (code_at hv).2.1, fun x hx => by rw [h2 x hx]; exact Nat.le_refl _⟩
end Go.Proofs.Ytfjhjfddgdokgaa
