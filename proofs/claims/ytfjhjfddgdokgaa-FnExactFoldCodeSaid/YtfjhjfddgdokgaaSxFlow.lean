/- The plain theory of what is carried along the edges of a code until nothing changes: however it is done, the least solution comes out. -/
import Derived.Test.YtfjhjfddgdokgaaSxCore
namespace Go.Proofs.Ytfjhjfddgdokgaa
set_option linter.all false

structure Fw (V : Type) where
  ok : V → Prop
  le : V → V → Prop
  join : V → V → V
  edges : Nat → V → List Nat
  tr : Nat → V → V
  ht : V → Nat
  refl : ∀ a, le a a
  trans : ∀ {a b c}, le a b → le b c → le a c
  anti : ∀ {a b}, ok a → ok b → le a b → le b a → a = b
  ok_join : ∀ {a b}, ok a → ok b → ok (join a b)
  ok_tr : ∀ {i a}, ok a → ok (tr i a)
  join_l : ∀ {a b}, ok a → ok b → le a (join a b)
  join_r : ∀ {a b}, ok a → ok b → le b (join a b)
  join_le : ∀ {a b c}, ok a → ok b → ok c → le a c → le b c → le (join a b) c
  mono_tr : ∀ {i a b}, ok a → ok b → le a b → le (tr i a) (tr i b)
  mono_ed : ∀ {i j a b}, ok a → ok b → le a b → j ∈ edges i a → j ∈ edges i b
  ht_lt : ∀ {a b}, ok a → ok b → join a b ≠ a → ht (join a b) < ht a

namespace Fw
variable {V : Type} (F : Fw V)
def Under (s c : List V) : Prop := ∀ (i : Nat) (v u : V), s[i]? = some v → c[i]? = some u → F.le v u
def Sats (s : List V) (i : Nat) (v : V) : Prop := ∀ j, j ∈ F.edges i v → ∀ u, s[j]? = some u → F.le (F.tr i v) u
def Oks (s : List V) : Prop := ∀ (i : Nat) (v : V), s[i]? = some v → F.ok v
def Closed (s0 c : List V) : Prop := c.length = s0.length ∧ F.Oks c ∧ F.Under s0 c ∧ ∀ i v, c[i]? = some v → F.Sats c i v
def Below (s0 s : List V) : Prop := s.length = s0.length ∧ F.Oks s ∧ F.Under s0 s ∧ ∀ c, F.Closed s0 c → F.Under s c
def Sol (s0 s : List V) : Prop := F.Below s0 s ∧ ∀ i v, s[i]? = some v → F.Sats s i v
/-- v is below every solution at i. -/
def Lo (s0 : List V) (i : Nat) (v : V) : Prop := F.ok v ∧ ∀ c, F.Closed s0 c → ∀ u, c[i]? = some u → F.le v u
def pot (s : List V) : Nat := (s.map F.ht).sum
variable {F} {s0 s c w : List V}
theorem Sol.closed (h : F.Sol s0 s) : F.Closed s0 s := ⟨h.1.1, h.1.2.1, h.1.2.2.1, h.2⟩
theorem Sol.unique {s s' : List V} (h : F.Sol s0 s) (h' : F.Sol s0 s') : s = s' := by
  apply List.ext_getElem?
  intro i
  have hl : s.length = s'.length := h.1.1.trans h'.1.1.symm
  by_cases hi : i < s.length
  · have hi' : i < s'.length := by omega
    rw [List.getElem?_eq_getElem hi, List.getElem?_eq_getElem hi']
    congr 1
    exact F.anti (h.1.2.1 i _ (List.getElem?_eq_getElem hi)) (h'.1.2.1 i _ (List.getElem?_eq_getElem hi'))
      (h.1.2.2.2 _ h'.closed i _ _ (List.getElem?_eq_getElem hi) (List.getElem?_eq_getElem hi'))
      (h'.1.2.2.2 _ h.closed i _ _ (List.getElem?_eq_getElem hi') (List.getElem?_eq_getElem hi))
  · rw [List.getElem?_eq_none (by omega), List.getElem?_eq_none (by omega)]
theorem Below.init (h : F.Oks s0) : F.Below s0 s0 := ⟨rfl, h, fun i v u h1 h2 => by rw [h1] at h2; obtain rfl := Option.some.inj h2; exact F.refl _, fun c hc => hc.2.2.1⟩
theorem Below.lo (h : F.Below s0 s) {i : Nat} {v : V} (hv : s[i]? = some v) : F.Lo s0 i v := ⟨h.2.1 i v hv, fun c hc u hu => h.2.2.2 c hc i v u hv hu⟩
theorem set_get {i j : Nat} {u x : V} (hu : s[j]? = some u) : (s.set j x)[i]? = if i = j then some x else s[i]? := by
  have hj := (List.getElem?_eq_some_iff.1 hu).1
  rw [List.getElem?_set]
  by_cases h : j = i
  · subst h; rw [if_pos rfl, if_pos hj, if_pos rfl]
  · rw [if_neg h, if_neg (fun e => h e.symm)]
theorem Below.step (h : F.Below s0 s) {i j : Nat} {v u : V} (hv : F.Lo s0 i v) (hj : j ∈ F.edges i v) (hu : s[j]? = some u) (hi : i < s0.length) : F.Below s0 (s.set j (F.join u (F.tr i v))) := by
  have ou := h.2.1 j u hu
  have ot := F.ok_tr (i := i) hv.1
  refine ⟨by rw [List.length_set]; exact h.1, fun i' v' h' => ?_, fun i' a b ha hb => ?_, fun c hc i' a b ha hb => ?_⟩
  · rw [set_get hu] at h'
    split at h'
    · obtain rfl := Option.some.inj h'; exact F.ok_join ou ot
    · exact h.2.1 _ _ h'
  · rw [set_get hu] at hb
    split at hb
    · rename_i e; subst e
      obtain rfl := Option.some.inj hb
      exact F.trans (h.2.2.1 _ _ _ ha hu) (F.join_l ou ot)
    · exact h.2.2.1 _ _ _ ha hb
  · rw [set_get hu] at ha
    split at ha
    · rename_i e; subst e
      obtain rfl := Option.some.inj ha
      have hlt : i < c.length := by rw [hc.1]; exact hi
      have hci := List.getElem?_eq_getElem hlt
      have l1 := hv.2 c hc _ hci
      have oc := hc.2.1 _ _ hci
      exact F.join_le ou ot (hc.2.1 _ _ hb) (h.2.2.2 c hc _ _ _ hu hb) (F.trans (F.mono_tr hv.1 oc l1) (hc.2.2.2 _ _ hci _ (F.mono_ed hv.1 oc l1 hj) _ hb))
    · exact h.2.2.2 c hc _ _ _ ha hb
theorem pot_set : ∀ {s : List V} {j : Nat} {u x : V}, s[j]? = some u → F.pot (s.set j x) + F.ht u = F.pot s + F.ht x
  | [], j, _, _, h => by simp at h
  | a :: s, 0, u, x, h => by
    simp only [List.getElem?_cons_zero, Option.some.injEq] at h
    subst h
    simp only [pot, List.set_cons_zero, List.map_cons, List.sum_cons]; omega
  | a :: s, j + 1, u, x, h => by
    simp only [List.getElem?_cons_succ] at h
    have := pot_set (s := s) (j := j) (x := x) h
    simp only [pot, List.set_cons_succ, List.map_cons, List.sum_cons] at this ⊢; omega
theorem pot_le {M : Nat} : ∀ {s : List V}, (∀ (i : Nat) (v : V), s[i]? = some v → F.ht v ≤ M) → F.pot s ≤ s.length * M
  | [], _ => by simp [pot]
  | a :: s, h => by
    have h0 := h 0 a rfl
    have := pot_le (s := s) (M := M) fun i v hv => h (i + 1) v hv
    simp only [pot, List.map_cons, List.sum_cons, List.length_cons, Nat.add_mul] at this ⊢
    omega
theorem pot_lt {j : Nat} {u x : V} (h : s[j]? = some u) (hx : F.ht x < F.ht u) : F.pot (s.set j x) < F.pot s := by
  have := pot_set (F := F) (x := x) h
  omega

/-! The work list. -/
variable (F)
def Wk (s : List V) (w : List Nat) : Prop := ∀ i v, s[i]? = some v → i ∈ w ∨ F.Sats s i v
def Mid (s : List V) (w : List Nat) (x : Nat) (v : V) (k : Nat) : Prop :=
  (∀ i u, i ≠ x → s[i]? = some u → i ∈ w ∨ F.Sats s i u) ∧ (s[x]? = some v ∨ x ∈ w) ∧ ∀ j, j ∈ (F.edges x v).take k → ∀ u, s[j]? = some u → F.le (F.tr x v) u
variable {F}
theorem Wk.pop {w : List Nat} {x : Nat} {v : V} (h : F.Wk s (w ++ [x])) (hv : s[x]? = some v) : F.Mid s w x v 0 :=
  ⟨fun i u hi hu => (h i u hu).imp (fun hm => by simpa [hi] using hm) id, .inl hv, fun j hj => by simp at hj⟩
theorem Mid.done {w : List Nat} {x : Nat} {v : V} {k : Nat} (h : F.Mid s w x v k) (hk : (F.edges x v).length ≤ k) : F.Wk s w := fun i u hu => by
  by_cases hi : i = x
  · subst hi
    rcases h.2.1 with h1 | h1
    · rw [h1] at hu
      obtain rfl := Option.some.inj hu
      exact .inr fun j hj u' hu' => h.2.2 j (by rw [List.take_of_length_le hk]; exact hj) u' hu'
    · exact .inl h1
  · exact h.1 i u hi hu
theorem take_mem {α : Type} {l : List α} {k : Nat} {x : α} (h : l[k]? = some x) {j : α} (hj : j ∈ l.take (k + 1)) : j ∈ l.take k ∨ j = x := by
  rw [List.take_add_one, h] at hj
  simpa using hj
theorem Mid.keep {w : List Nat} {x j : Nat} {v u : V} {k : Nat} (h : F.Mid s w x v k) (hj : (F.edges x v)[k]? = some j) (hu : s[j]? = some u) (hl : F.le (F.tr x v) u) : F.Mid s w x v (k + 1) :=
  ⟨h.1, h.2.1, fun j' hj' u' hu' => by
    rcases take_mem hj hj' with hm | rfl
    · exact h.2.2 j' hm u' hu'
    · rw [hu] at hu'; obtain rfl := Option.some.inj hu'; exact hl⟩
theorem Mid.push {w : List Nat} {x j : Nat} {v u y : V} {k : Nat} (h : F.Mid s w x v k) (hj : (F.edges x v)[k]? = some j) (hu : s[j]? = some u) (hl : F.le (F.tr x v) y) (hy : F.le u y) : F.Mid (s.set j y) (w ++ [j]) x v (k + 1) := by
  have up : ∀ i a, F.Sats s i a → F.Sats (s.set j y) i a := fun i a hs j' hj' u' hu' => by
    rw [set_get hu] at hu'
    split at hu'
    · rename_i e; subst e; obtain rfl := Option.some.inj hu'; exact F.trans (hs j' hj' u hu) hy
    · exact hs j' hj' u' hu'
  refine ⟨fun i a hi ha => ?_, ?_, fun j' hj' u' hu' => ?_⟩
  · rw [set_get hu] at ha
    split at ha
    · rename_i e; exact .inl (by simp [e])
    · exact (h.1 i a hi ha).imp (fun hm => by simp [hm]) (up i a)
  · by_cases e : x = j
    · exact .inr (by simp [e])
    · rw [set_get hu, if_neg e]; exact h.2.1.imp id fun hm => by simp [hm]
  · rw [set_get hu] at hu'
    split at hu'
    · obtain rfl := Option.some.inj hu'; exact hl
    · rename_i e
      rcases take_mem hj hj' with hm | rfl
      · exact h.2.2 j' hm u' hu'
      · exact absurd rfl e
theorem Sol.of_wk (h : F.Below s0 s) (hw : F.Wk s []) : F.Sol s0 s := ⟨h, fun i v hv => (hw i v hv).resolve_left (by simp)⟩

/-! Rounds. -/
variable (F)
def Rd (s0 st s : List V) (k : Nat) (b : Bool) : Prop := F.Below s0 s ∧ (b = false → s = st ∧ ∀ i v, i < k → s[i]? = some v → F.Sats s i v) ∧ (b = true → F.pot s < F.pot st)
def RdM (s0 st s : List V) (i : Nat) (v : V) (e : Nat) (b : Bool) : Prop := F.Below s0 s ∧ F.Lo s0 i v ∧ i < s0.length ∧
  (b = false → s = st ∧ st[i]? = some v ∧ (∀ i' v, i' < i → s[i']? = some v → F.Sats s i' v) ∧ ∀ j, j ∈ (F.edges i v).take e → ∀ u, s[j]? = some u → F.le (F.tr i v) u) ∧ (b = true → F.pot s < F.pot st)
variable {F} {st : List V} {b : Bool}
theorem Rd.start (h : F.Below s0 s) : F.Rd s0 s s 0 false := ⟨h, fun _ => ⟨rfl, fun i v hi => absurd hi (Nat.not_lt_zero _)⟩, fun h => by cases h⟩
theorem Rd.enter {k : Nat} {v : V} (h : F.Rd s0 st s k b) (hv : s[k]? = some v) : F.RdM s0 st s k v 0 b :=
  ⟨h.1, h.1.lo hv, by rw [← h.1.1]; exact (List.getElem?_eq_some_iff.1 hv).1, fun hb => ⟨(h.2.1 hb).1, by rw [← (h.2.1 hb).1]; exact hv, fun i u hi hu => (h.2.1 hb).2 i u hi hu, fun j hj => by simp at hj⟩, h.2.2⟩
theorem Rd.skip {k : Nat} {v : V} (h : F.Rd s0 st s k b) (hv : s[k]? = some v) (he : F.edges k v = []) : F.Rd s0 st s (k + 1) b :=
  ⟨h.1, fun hb => ⟨(h.2.1 hb).1, fun i u hi hu => by
    rcases Nat.lt_succ_iff_lt_or_eq.1 hi with hi | rfl
    · exact (h.2.1 hb).2 i u hi hu
    · rw [hv] at hu; obtain rfl := Option.some.inj hu; intro j hj; rw [he] at hj; cases hj⟩, h.2.2⟩
theorem RdM.exit {i e : Nat} {v : V} (h : F.RdM s0 st s i v e b) (he : (F.edges i v).length ≤ e) : F.Rd s0 st s (i + 1) b :=
  ⟨h.1, fun hb => ⟨(h.2.2.2.1 hb).1, fun i' u hi hu => by
    obtain ⟨e1, e2, e3, e4⟩ := h.2.2.2.1 hb
    rcases Nat.lt_succ_iff_lt_or_eq.1 hi with hi | rfl
    · exact e3 i' u hi hu
    · rw [e1, e2] at hu
      obtain rfl := Option.some.inj hu
      intro j hj u' hu'
      exact e4 j (by rw [List.take_of_length_le he]; exact hj) u' hu'⟩, h.2.2.2.2⟩
theorem RdM.keep {i e j : Nat} {v u : V} (h : F.RdM s0 st s i v e b) (hj : (F.edges i v)[e]? = some j) (hu : s[j]? = some u) (hl : F.le (F.tr i v) u) : F.RdM s0 st s i v (e + 1) b :=
  ⟨h.1, h.2.1, h.2.2.1, fun hb => by
    obtain ⟨e1, e2, e3, e4⟩ := h.2.2.2.1 hb
    refine ⟨e1, e2, e3, fun j' hj' u' hu' => ?_⟩
    rcases take_mem hj hj' with hm | rfl
    · exact e4 j' hm u' hu'
    · rw [hu] at hu'; obtain rfl := Option.some.inj hu'; exact hl, h.2.2.2.2⟩
theorem RdM.push {i e j : Nat} {v u : V} (h : F.RdM s0 st s i v e b) (hj : (F.edges i v)[e]? = some j) (hu : s[j]? = some u) (hne : F.join u (F.tr i v) ≠ u) : F.RdM s0 st (s.set j (F.join u (F.tr i v))) i v (e + 1) true := by
  have ou := h.1.2.1 j u hu
  have ot := F.ok_tr (i := i) h.2.1.1
  refine ⟨h.1.step h.2.1 (List.mem_of_getElem? hj) hu h.2.2.1, h.2.1, h.2.2.1, (fun hb => by cases hb), fun _ => ?_⟩
  have := pot_lt (F := F) hu (F.ht_lt ou ot hne)
  cases b with
  | false => rw [(h.2.2.2.1 rfl).1] at this ⊢; exact this
  | true => have := h.2.2.2.2 rfl; omega
theorem Rd.sol (h : F.Rd s0 st s s0.length false) : F.Sol s0 s := ⟨h.1, fun i v hv => (h.2.1 rfl).2 i v (by rw [← h.1.1]; exact (List.getElem?_eq_some_iff.1 hv).1) hv⟩
theorem le_of_join {a b : V} (ha : F.ok a) (hb : F.ok b) (h : F.join a b = a) : F.le b a := by
  have := F.join_r ha hb
  rwa [h] at this

/-! The solution. -/
open Classical in
noncomputable def sol (F : Fw V) (s0 : List V) : List V := if h : ∃ s, F.Sol s0 s then Classical.choose h else s0
theorem Sol.eq (h : F.Sol s0 s) : F.sol s0 = s := by
  have hex : ∃ s, F.Sol s0 s := ⟨s, h⟩
  unfold sol
  rw [dif_pos hex]
  exact (Classical.choose_spec hex).unique h
end Fw
end Go.Proofs.Ytfjhjfddgdokgaa
