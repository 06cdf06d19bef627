/- Facts in plain Lean: what is known of each register before each quad, and how that is carried. -/
import Derived.Test.YtfjhjfddgdokgaaSxReach
import Derived.Test.YtfjhjfddgdokgaaSxSets
import Derived.Test.YtfjhjfddgdokgaaSxFlow
import Derived.Test.YtfjhjfddgdokgaaSxNest
import Derived.Test.YtfjhjfddgdokgaaSxApply
import Derived.Test.YtfjhjfddgdokgaaSxCopyP
namespace Go.Proofs.Ytfjhjfddgdokgaa
set_option linter.all false
open Go Go.RowKit
def anyF : Fc := ⟨2, 0⟩
def noneF : Fc := ⟨0, 0⟩
def fAt (l : List Fc) (r : Nat) : Fc := (l[r]?).getD anyF
theorem fAt_eq {l : List Fc} {r : Nat} (h : r < l.length) : fAt l r = l[r] := by simp [fAt, h]
theorem extF {a b : List Fc} (ha : a.length = 12) (hb : b.length = 12) (h : ∀ r, r < 12 → fAt a r = fAt b r) : a = b := by
  apply List.ext_getElem?
  intro r
  by_cases hr : r < 12
  · have := h r hr
    rw [fAt_eq (by omega), fAt_eq (by omega)] at this
    rw [List.getElem?_eq_getElem (by omega), List.getElem?_eq_getElem (by omega), this]
  · rw [List.getElem?_eq_none (by omega), List.getElem?_eq_none (by omega)]
def mkF (f : Nat → Fc) : List Fc := (List.range 12).map f
theorem mkF_len (f : Nat → Fc) : (mkF f).length = 12 := by simp [mkF]
theorem mkF_at (f : Nat → Fc) {r : Nat} (h : r < 12) : fAt (mkF f) r = f r := by simp [fAt, mkF, h]
def botF : List Fc := mkF fun _ => noneF
/-- A fact of a register at a place that is reached. -/
def goodF (f : Fc) : Prop := (f.kind = 1 ∧ wordI f.n) ∨ f = anyF
def okF (v : List Fc) : Prop := v = botF ∨ (v.length = 12 ∧ ∀ r, r < 12 → goodF (fAt v r))
theorem good_ne {f : Fc} (h : goodF f) : f.kind ≠ 0 := by
  rcases h with ⟨h, _⟩ | rfl
  · omega
  · decide
theorem okF_ne {v : List Fc} (h : okF v) (hv : v ≠ botF) : v.length = 12 ∧ ∀ r, r < 12 → goodF (fAt v r) := h.resolve_left hv
theorem okF_len {v : List Fc} (h : okF v) : v.length = 12 := by
  rcases h with rfl | h
  · exact mkF_len _
  · exact h.1
theorem ne_bot {v : List Fc} (h : goodF (fAt v 0)) : v ≠ botF := fun e => by
  rw [e, botF, mkF_at _ (by omega)] at h
  exact good_ne h rfl
/-- Unreached places are told by their first fact. -/
theorem bot_iff {v : List Fc} (h : okF v) : v = botF ↔ (fAt v 0).kind = 0 := by
  constructor
  · rintro rfl; rw [botF, mkF_at _ (by omega)]; rfl
  · intro h0
    refine h.resolve_right fun h' => ?_
    exact good_ne (h'.2 0 (by omega)) h0
def constF (n : Int) : Fc := if wordValid n = true then ⟨1, n⟩ else anyF
theorem constF_good (n : Int) : goodF (constF n) := by
  unfold constF
  split
  · exact .inl ⟨rfl, (wordI_iff n).1 ‹_›⟩
  · exact .inr rfl
def valueF (q : Qd) (v : List Fc) : Fc :=
  if q.op = 1 then constF q.n
  else if q.op = 2 then fAt v q.a.toNat
  else if q.op = 3 then (if (fAt v q.a.toNat).kind = 1 ∧ (fAt v q.b.toNat).kind = 1 then constF (applyN q.n (fAt v q.a.toNat).n (fAt v q.b.toNat).n) else anyF)
  else anyF
def behindF (q : Qd) (v : List Fc) : List Fc := if v = botF then botF else if setsOf q < 0 then v else v.set (setsOf q).toNat (valueF q v)
def joinR (f g : Fc) : Fc := if f.kind = 0 ∨ f = g then g else if g.kind = 0 then f else anyF
def joinFs (a b : List Fc) : List Fc := mkF fun r => joinR (fAt a r) (fAt b r)
def leF (a b : List Fc) : Prop := a = botF ∨ (b ≠ botF ∧ ∀ r, r < 12 → fAt b r = anyF ∨ fAt b r = fAt a r)
def htF (v : List Fc) : Nat := if v = botF then 13 else ((List.range 12).filter fun r => decide (fAt v r ≠ anyF)).length
theorem fAt_ge {v : List Fc} {r : Nat} (h : v.length = 12) (hr : ¬ r < 12) : fAt v r = anyF := by
  unfold fAt; rw [List.getElem?_eq_none (by omega)]; rfl
theorem fAt_good {v : List Fc} (h : v.length = 12 ∧ ∀ r, r < 12 → goodF (fAt v r)) (r : Nat) : goodF (fAt v r) := by
  by_cases hr : r < 12
  · exact h.2 r hr
  · rw [fAt_ge h.1 hr]; exact .inr rfl
theorem valueF_good {q : Qd} {v : List Fc} (h : v.length = 12 ∧ ∀ r, r < 12 → goodF (fAt v r)) : goodF (valueF q v) := by
  unfold valueF
  split
  · exact constF_good _
  · split
    · exact fAt_good h _
    · split
      · split
        · exact constF_good _
        · exact .inr rfl
      · exact .inr rfl
theorem fAt_set {l : List Fc} {i : Nat} {x : Fc} {r : Nat} (hr : r < l.length) : fAt (l.set i x) r = if i = r then x else fAt l r := by
  simp only [fAt, List.getElem?_set]
  split
  · rename_i e; subst e; simp [hr]
  · rfl
theorem behindF_ok {q : Qd} {v : List Fc} (h : okF v) : okF (behindF q v) := by
  unfold behindF
  split
  · exact .inl rfl
  · rename_i hv
    split
    · exact h
    · have hv' := okF_ne h hv
      refine .inr ⟨by rw [List.length_set]; exact hv'.1, fun r hr => ?_⟩
      rw [fAt_set (by rw [hv'.1]; exact hr)]
      split
      · exact valueF_good hv'
      · exact hv'.2 r hr
theorem behindF_ne {q : Qd} {v : List Fc} (h : okF v) (hv : v ≠ botF) : behindF q v ≠ botF := by
  have hok := behindF_ok (q := q) h
  unfold behindF at hok ⊢
  rw [if_neg hv] at hok ⊢
  split
  · exact hv
  · have hv' := okF_ne h hv
    refine ne_bot ?_
    rw [fAt_set (by rw [hv'.1]; omega)]
    split
    · exact valueF_good hv'
    · exact hv'.2 0 (by omega)
theorem valueF_mono {q : Qd} {a b : List Fc} (ha : a.length = 12) (hb : b.length = 12) (h : ∀ r, r < 12 → fAt b r = anyF ∨ fAt b r = fAt a r) : valueF q b = anyF ∨ valueF q b = valueF q a := by
  have h' : ∀ r, fAt b r = anyF ∨ fAt b r = fAt a r := fun r => by
    by_cases hr : r < 12
    · exact h r hr
    · exact .inl (fAt_ge hb hr)
  unfold valueF
  split
  · exact .inr rfl
  · split
    · exact h' _
    · split
      · by_cases hk : (fAt b q.a.toNat).kind = 1 ∧ (fAt b q.b.toNat).kind = 1
        · have e1 := (h' q.a.toNat).resolve_left fun e => by rw [e] at hk; exact absurd hk.1 (by decide)
          have e2 := (h' q.b.toNat).resolve_left fun e => by rw [e] at hk; exact absurd hk.2 (by decide)
          rw [e1, e2]; exact .inr rfl
        · rw [if_neg hk]; exact .inl rfl
      · exact .inr rfl
theorem behindF_mono {q : Qd} {a b : List Fc} (ha : okF a) (hb : okF b) (h : leF a b) : leF (behindF q a) (behindF q b) := by
  rcases h with rfl | ⟨hb0, h⟩
  · exact .inl (by simp [behindF])
  · by_cases ha0 : a = botF
    · exact .inl (by simp [behindF, ha0])
    refine .inr ⟨behindF_ne hb hb0, fun r hr => ?_⟩
    have la := okF_len ha
    have lb := okF_len hb
    unfold behindF
    rw [if_neg ha0, if_neg hb0]
    split
    · exact h r hr
    · rw [fAt_set (by omega), fAt_set (by omega)]
      split
      · exact valueF_mono la lb h
      · exact h r hr
theorem joinR_good {f g : Fc} (hf : goodF f) (hg : goodF g) : joinR f g = if f = g then f else anyF := by
  unfold joinR
  have h1 := good_ne hf
  have h2 := good_ne hg
  by_cases h : f = g
  · rw [if_pos (.inr h), if_pos h, h]
  · rw [if_neg (fun e => e.elim h1 h), if_neg h2, if_neg h]
theorem joinR_none (g : Fc) : joinR noneF g = g := by unfold joinR; rw [if_pos (.inl rfl)]
theorem joinR_none' {f : Fc} (hf : goodF f) : joinR f noneF = f := by
  unfold joinR
  have h1 := good_ne hf
  by_cases h : f = noneF
  · rw [h] at h1; exact absurd rfl h1
  · rw [if_neg (fun e => e.elim h1 h), if_pos (show noneF.kind = 0 from rfl)]
theorem joinFs_bot {b : List Fc} (hb : b.length = 12) : joinFs botF b = b := extF (mkF_len _) hb fun r hr => by rw [joinFs, mkF_at _ hr, botF, mkF_at _ hr, joinR_none]
theorem joinFs_bot' {a : List Fc} (ha : okF a) : joinFs a botF = a := by
  by_cases ha0 : a = botF
  · rw [ha0]; exact joinFs_bot (b := botF) (mkF_len _)
  · have ha' := okF_ne ha ha0
    exact extF (mkF_len _) ha'.1 fun r hr => by rw [joinFs, mkF_at _ hr, botF, mkF_at _ hr, joinR_none' (ha'.2 r hr)]
theorem joinFs_at {a b : List Fc} (ha : okF a) (hb : okF b) (ha0 : a ≠ botF) (hb0 : b ≠ botF) {r : Nat} (hr : r < 12) : fAt (joinFs a b) r = if fAt a r = fAt b r then fAt a r else anyF := by
  rw [joinFs, mkF_at _ hr, joinR_good ((okF_ne ha ha0).2 r hr) ((okF_ne hb hb0).2 r hr)]
theorem joinFs_ok {a b : List Fc} (ha : okF a) (hb : okF b) : okF (joinFs a b) := by
  by_cases ha0 : a = botF
  · rw [ha0, joinFs_bot (okF_len hb)]; exact hb
  · by_cases hb0 : b = botF
    · rw [hb0, joinFs_bot' ha]; exact ha
    · refine .inr ⟨mkF_len _, fun r hr => ?_⟩
      rw [joinFs_at ha hb ha0 hb0 hr]
      split
      · exact (okF_ne ha ha0).2 r hr
      · exact .inr rfl
theorem joinFs_ne {a b : List Fc} (ha : okF a) (hb : okF b) (ha0 : a ≠ botF) (hb0 : b ≠ botF) : joinFs a b ≠ botF := by
  refine ne_bot ?_
  rw [joinFs_at ha hb ha0 hb0 (by omega)]
  split
  · exact (okF_ne ha ha0).2 0 (by omega)
  · exact .inr rfl
def edgesF (qs : List Qd) (i : Nat) (v : List Fc) : List Int := match qs[i]? with
  | some q => if q.op = 5 ∧ (fAt v q.a.toNat).kind = 1 then (if (fAt v q.a.toNat).n = 0 then [q.n] else [(i : Int) + 1]) else nextL q i
  | none => []
def factF (qs : List Qd) : Fw (List Fc) where
  ok := okF
  le := leF
  join := joinFs
  edges i v := if v = botF then [] else (edgesF qs i v).map Int.toNat
  tr i v := match qs[i]? with
    | some q => behindF q v
    | none => botF
  ht := htF
  refl a := by
    by_cases h : a = botF
    · exact .inl h
    · exact .inr ⟨h, fun r _ => .inr rfl⟩
  trans := by
    intro a b c h h'
    rcases h with h | ⟨hb, h⟩
    · exact .inl h
    · rcases h' with h' | ⟨hc, h'⟩
      · exact absurd h' hb
      · refine .inr ⟨hc, fun r hr => ?_⟩
        rcases h' r hr with h1 | h1
        · exact .inl h1
        · rw [h1]; exact h r hr
  anti := by
    intro a b ha hb h h'
    rcases h with rfl | ⟨hb0, h⟩
    · rcases h' with rfl | ⟨h0, _⟩
      · rfl
      · exact absurd rfl h0
    · rcases h' with rfl | ⟨ha0, h'⟩
      · exact absurd rfl hb0
      · refine extF (okF_len ha) (okF_len hb) fun r hr => ?_
        rcases h r hr with h1 | h1
        · rcases h' r hr with h2 | h2
          · rw [h1, h2]
          · exact h2
        · exact h1.symm
  ok_join := joinFs_ok
  ok_tr := by
    intro i a ha
    show okF (match qs[i]? with | some q => behindF q a | none => botF)
    split
    · exact behindF_ok ha
    · exact .inl rfl
  join_l := by
    intro a b ha hb
    by_cases ha0 : a = botF
    · exact .inl ha0
    · by_cases hb0 : b = botF
      · rw [hb0, joinFs_bot' ha]; exact .inr ⟨ha0, fun r _ => .inr rfl⟩
      · refine .inr ⟨joinFs_ne ha hb ha0 hb0, fun r hr => ?_⟩
        rw [joinFs_at ha hb ha0 hb0 hr]
        split
        · exact .inr rfl
        · exact .inl rfl
  join_r := by
    intro a b ha hb
    by_cases hb0 : b = botF
    · exact .inl hb0
    · by_cases ha0 : a = botF
      · rw [ha0, joinFs_bot (okF_len hb)]; exact .inr ⟨hb0, fun r _ => .inr rfl⟩
      · refine .inr ⟨joinFs_ne ha hb ha0 hb0, fun r hr => ?_⟩
        rw [joinFs_at ha hb ha0 hb0 hr]
        split
        · exact .inr ‹_›
        · exact .inl rfl
  join_le := by
    intro a b c ha hb hc h h'
    by_cases ha0 : a = botF
    · rw [ha0, joinFs_bot (okF_len hb)]; exact h'
    · by_cases hb0 : b = botF
      · rw [hb0, joinFs_bot' ha]; exact h
      · obtain ⟨hc0, h⟩ := h.resolve_left ha0
        obtain ⟨_, h'⟩ := h'.resolve_left hb0
        refine .inr ⟨hc0, fun r hr => ?_⟩
        rw [joinFs_at ha hb ha0 hb0 hr]
        rcases h r hr with h1 | h1
        · exact .inl h1
        · rcases h' r hr with h2 | h2
          · exact .inl h2
          · rw [if_pos (by rw [← h1, ← h2])]; exact .inr h1
  mono_tr := by
    intro i a b ha hb h
    show leF (match qs[i]? with | some q => behindF q a | none => botF) (match qs[i]? with | some q => behindF q b | none => botF)
    split
    · exact behindF_mono ha hb h
    · exact .inl rfl
  mono_ed := by
    intro i j a b ha hb h hj
    rcases h with rfl | ⟨hb0, h⟩
    · simp at hj
    · by_cases ha0 : a = botF
      · subst ha0; simp at hj
      · rw [if_neg ha0] at hj; rw [if_neg hb0]
        unfold edgesF at hj ⊢
        cases hq : qs[i]? with
        | none => rw [hq] at hj; simpa using hj
        | some q =>
          rw [hq] at hj
          simp only at hj ⊢
          have h' : fAt b q.a.toNat = anyF ∨ fAt b q.a.toNat = fAt a q.a.toNat := by
            by_cases hr : q.a.toNat < 12
            · exact h _ hr
            · exact .inl (fAt_ge (okF_len hb) hr)
          rcases h' with h' | h'
          · rw [if_neg (c := q.op = 5 ∧ (fAt b q.a.toNat).kind = 1) (fun e => by rw [h'] at e; exact absurd e.2 (by decide))]
            by_cases hc : q.op = 5 ∧ (fAt a q.a.toNat).kind = 1
            · rw [if_pos hc] at hj
              have h5 := hc.1
              simp only [nextL, h5, Int.reduceEq, if_false, true_and]
              split at hj
              · simp only [List.map_cons, List.map_nil, List.mem_singleton] at hj
                subst hj
                split
                · simp
                · split
                  · simp
                  · have : q.n = (i : Int) + 1 := by omega
                    simp [this]
              · simp only [List.map_cons, List.map_nil, List.mem_singleton] at hj
                subst hj
                split
                · simp
                · split <;> simp
            · rw [if_neg hc] at hj; exact hj
          · rw [h']; exact hj
  ht_lt := by
    intro a b ha hb h
    by_cases ha0 : a = botF
    · rw [ha0, joinFs_bot (okF_len hb)] at h ⊢
      simp only [htF, if_true, if_neg h]
      have : ((List.range 12).filter fun r => decide (fAt b r ≠ anyF)).length ≤ 12 := Nat.le_trans (List.length_filter_le _ _) (by simp)
      omega
    · by_cases hb0 : b = botF
      · rw [hb0, joinFs_bot' ha] at h; exact absurd rfl h
      · simp only [htF, if_neg ha0, if_neg (joinFs_ne ha hb ha0 hb0)]
        refine filter_lt (fun r hr hp => ?_) ?_
        · have hr' := List.mem_range.1 hr
          rw [joinFs_at ha hb ha0 hb0 hr'] at hp
          split at hp
          · exact hp
          · simp at hp
        · have : ∃ r, r < 12 ∧ fAt (joinFs a b) r ≠ fAt a r := by
            refine Classical.byContradiction fun hno => h (extF (mkF_len _) (okF_len ha) fun r hr => ?_)
            exact Classical.byContradiction fun hne => hno ⟨r, hr, hne⟩
          obtain ⟨r, hr, hne⟩ := this
          rw [joinFs_at ha hb ha0 hb0 hr] at hne
          refine ⟨r, List.mem_range.2 hr, ?_, ?_⟩
          · split at hne
            · exact absurd rfl hne
            · simpa using fun e => hne e.symm
          · rw [joinFs_at ha hb ha0 hb0 hr]
            split at hne
            · exact absurd rfl hne
            · rename_i hc; rw [if_neg hc]; simp
def zeroF : List Fc := mkF fun _ => ⟨1, 0⟩
theorem zeroF_ok : okF zeroF := .inr ⟨mkF_len _, fun r hr => by rw [zeroF, mkF_at _ hr]; exact .inl ⟨rfl, by constructor <;> decide⟩⟩
theorem zeroF_ne : zeroF ≠ botF := ne_bot (by rw [zeroF, mkF_at _ (by omega)]; exact .inl ⟨rfl, by constructor <;> decide⟩)
def facts0 (n : Nat) : List (List Fc) := zeroF :: List.replicate (n - 1) botF
theorem facts0_len {n : Nat} (h : 1 ≤ n) : (facts0 n).length = n := by simp [facts0]; omega
theorem facts0_ok (qs : List Qd) (n : Nat) : (factF qs).Oks (facts0 n) := fun i v h => by
  cases i with
  | zero => simp [facts0] at h; subst h; exact zeroF_ok
  | succ i =>
    simp only [facts0, List.getElem?_cons_succ, List.getElem?_replicate] at h
    split at h
    · obtain rfl := Option.some.inj h; exact .inl rfl
    · cases h
theorem htF_le (v : List Fc) : htF v ≤ 13 := by
  unfold htF
  split
  · omega
  · have : ((List.range 12).filter fun r => decide (fAt v r ≠ anyF)).length ≤ 12 := Nat.le_trans (List.length_filter_le _ _) (by simp)
    omega
noncomputable def factsL (qs : List Qd) : List (List Fc) := (factF qs).sol (facts0 qs.length)
noncomputable def factsOf (qs : List Qd) : List (List Fc) := if codeValid qs then factsL qs else []
theorem factsOf_le {qs : List Qd} (h : codeValid qs = true → (factsOf qs).length = qs.length ∧ ∀ v ∈ factsOf qs, okF v) : (factsOf qs).length ≤ 600 ∧ ∀ x ∈ factsOf qs, x.length ≤ 12 := by
  cases hv : codeValid qs with
  | false =>
    have e : factsOf qs = [] := by simp [factsOf, hv]
    rw [e]; simp
  | true =>
    obtain ⟨h1, h2⟩ := h hv
    exact ⟨by rw [h1]; exact (code_at hv).2.1, fun x hx => by rw [okF_len (h2 x hx)]; exact Nat.le_refl _⟩
end Go.Proofs.Ytfjhjfddgdokgaa
