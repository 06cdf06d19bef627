/- The statement FnCompileFold holds for all arguments; part 4 of the texts that show it. No further condition. -/
import Derived.Test.YtjhedgoafkabiaaFnCompileFoldP3
namespace Go.Proofs.Ytjhedgoafkabiaa
set_option linter.all false
open Go Go.RowKit
section
variable {P : Program} {w0 : World}
theorem calls_mono {f : Nat} {args : List Value} {H : AHeap} {K1 K2 : Value → AHeap → Prop} (hk : ∀ v H, K1 v H → K2 v H) (h : ACalls P w0 f args H K1) : ACalls P w0 f args H K2 :=
  ⟨h.1, fun w hs => (h.2 w hs).mono fun e w' ⟨v, H', e1, e2, e3⟩ => ⟨v, H', e1, e2, hk v H' e3⟩⟩
theorem val_mono {x : X} {ρ : Operand → Value} {H : AHeap} {K1 K2 : Value → Prop} (hk : ∀ v, K1 v → K2 v) (h : sxVal P x ρ H K1) : sxVal P x ρ H K2 := by
  cases x <;> simp only [sxVal] at h ⊢ <;> first
    | (obtain ⟨v, hv, ha⟩ := needs_elim h; rw [hv]; exact hk _ ha)
    | (obtain ⟨r, hr, ha⟩ := h; exact ⟨r, hr, hk _ ha⟩)
theorem eff_mono {x : X} {ρ : Operand → Value} {H : AHeap} {K1 K2 : Value → AHeap → Prop} (hk : ∀ v H, K1 v H → K2 v H) (h : sxEff P w0 x ρ H K1) : sxEff P w0 x ρ H K2 := by
  have nm : ∀ {α : Type} (o : Option α) {A B : α → Prop}, (∀ a, A a → B a) → needs o A → needs o B := by
    intro α o A B hab hn
    obtain ⟨v, hv, ha⟩ := needs_elim hn
    rw [hv]; exact hab v ha
  by_cases hf : floats x = true
  · have e : ∀ K' : Value → AHeap → Prop, sxEff P w0 x ρ H K' = sxVal P x ρ H fun v => K' v H := by
      intro K'
      cases x <;> first | rfl | (cases hf; done)
    rw [e] at h ⊢
    exact val_mono (fun v => hk v H) h
  cases x <;> first
    | exact absurd rfl hf
    | (intro b hb; exact hk _ _ (h b hb))
    | skip
  case lit z t ln ps => exact nm _ (fun cs ha b hb => hk _ _ (ha b hb)) h
  case mks z t bytes l c =>
    simp only [sxEff] at h ⊢
    split at h
    · exact ⟨h.1, h.2.1, h.2.2.1, h.2.2.2.1, fun b hb => hk _ _ (h.2.2.2.2 b hb)⟩
    · exact h.elim
  case st n a x =>
    simp only [sxEff] at h ⊢
    split at h
    · obtain ⟨h1, k, h2, h3, h4, h5, h6, h7⟩ := h
      exact ⟨h1, k, h2, h3, h4, h5, h6, hk _ _ h7⟩
    · exact h.elim
  case app z t bytes s x =>
    simp only [sxEff] at h ⊢
    split at h
    · rcases h with ⟨h1, h2, h3, h4⟩ | ⟨xs, H1, news, h1, h2, h3, h4, h5, h6, h7⟩
      · exact .inl ⟨h1, h2, h3, hk _ _ h4⟩
      · exact .inr ⟨xs, H1, news, h1, h2, h3, h4, h5, h6, fun v' H' ho => hk _ _ (h7 v' H' ho)⟩
    · exact h.elim
  case call f a =>
    simp only [sxEff] at h ⊢
    split at h
    · exact calls_mono hk h
    · exact h.elim
theorem op_mono {o : XO} {fr : Fr} {H : AHeap} {K1 K2 : Fr → AHeap → Prop} (hk : ∀ fr H, K1 fr H → K2 fr H) (h : sxOp P w0 o K1 fr H) : sxOp P w0 o K2 fr H := by
  obtain ⟨d, x, g⟩ := o
  cases g with
  | none =>
    simp only [sxOp] at h ⊢
    exact eff_mono (fun v H => hk _ H) h
  | some g =>
    obtain ⟨t, b⟩ := g
    simp only [sxOp] at h ⊢
    cases ht : fr t <;> rw [ht] at h <;> first
      | exact hk _ _ h
      | exact ⟨fun e => eff_mono (fun v H => hk _ H) (h.1 e), fun e => hk _ _ (h.2 e)⟩
theorem take_mono {o : XO} {fr : Fr} {H : AHeap} {K1 K2 : Value → Prop} (hk : ∀ v, K1 v → K2 v) (h : sxTake P o K1 fr H) : sxTake P o K2 fr H := by
  obtain ⟨d, x, g⟩ := o
  cases g with
  | none =>
    simp only [sxTake] at h ⊢
    exact val_mono hk h
  | some g =>
    obtain ⟨t, b⟩ := g
    simp only [sxTake] at h ⊢
    cases ht : fr t <;> rw [ht] at h <;> first
      | exact hk _ h
      | exact ⟨fun e => val_mono hk (h.1 e), fun e => hk _ (h.2 e)⟩
theorem sch_mono {Hp : AHeap} {K1 K2 : Fr → AHeap → Prop} (hk : ∀ fr H, K1 fr H → K2 fr H) : ∀ (s : Sch) (fr : Fr) (H : AHeap), sxSch P w0 Hp s K1 fr H → sxSch P w0 Hp s K2 fr H
  | .done, fr, H, h => hk fr H h
  | .none_, _, _, _ => trivial
  | .take o r, fr, H, h => take_mono (fun v h' => sch_mono hk r _ H h') h
  | .alt o r m, fr, H, h => ⟨op_mono (fun fr' H' h' => ⟨h'.1, sch_mono hk r fr' H' h'.2⟩) h.1, sch_mono hk m fr H h.2⟩
  | .last o m, fr, H, h => ⟨op_mono hk h.1, sch_mono hk m fr H h.2⟩
  | .free o r m, fr, H, h => ⟨op_mono (fun fr' H' h' => sch_mono hk r fr' H' h') h.1, sch_mono hk m fr H h.2⟩
end
end Go.Proofs.Ytjhedgoafkabiaa
namespace Go.Proofs.Ytjhedgoafkabiaa
set_option linter.all false
open Go Go.RowKit
set_option maxRecDepth 100000
variable (w0 : World)
abbrev ec (e : Ex) (A : Option Addr) (c : Nat) : List Value := [.int .i64 e.op, .int .i64 e.n, .slice A e.args.length c]
abbrev ev (e : Ex) (A : Option Addr) (c : Nat) : Value := .agg #[.int .i64 e.op, .int .i64 e.n, .slice A e.args.length c]
abbrev z3 : List Value := [.int .i64 0, .int .i64 0, .slice none 0 0]
abbrev FeP (d : Nat) : Prop := ∀ (e : Ex) (A : Option Addr) (c : Nat) (H : AHeap) (K : Value → AHeap → Prop), exprOk d e = true → ExV H e (ec e A c) →
  (∀ A' c' C, AHeap.le H C → ExV (C.off H) (foldE d e) (ec (foldE d e) A' c') → K (ev (foldE d e) A' c') C) → ACalls Try.prog w0 61 [ev e A c] H K
/-- Where the drawn region stands: two boxes that may be there, two folded expressions that may be there. -/
structure FeS (B C : AHeap) (o3 o4 : Option Nat) (k3 k4 : List Value) (e1 e2 : Option (Ex × List Value)) : Prop where
  l : AHeap.le B C
  n3 : ∀ x, o3 = some x → B x = none ∧ Kn C x ⟨k3, true, 61, 3⟩
  n4 : ∀ x, o4 = some x → B x = none ∧ Kn C x ⟨k4, true, 61, 3⟩
  ne : ∀ x y, o3 = some x → o4 = some y → ¬ x = y
  t1 : ∀ p, e1 = some p → ExV ((C.off B).no fun y => y ∈ o3.toList ++ o4.toList) p.1 p.2
  t2 : ∀ p, e2 = some p → ExV ((C.off B).no fun y => y ∈ o3.toList ++ o4.toList) p.1 p.2
section
variable {B C C' : AHeap} {o3 o4 : Option Nat} {k3 k4 : List Value} {e1 e2 : Option (Ex × List Value)} {K : Value → AHeap → Prop} {x x3 x4 : Nat} {v : Value}
theorem FeS.mem (s : FeS B C o3 o4 k3 k4 e1 e2) {y : Nat} (hy : y ∈ o3.toList ++ o4.toList) : C y ≠ none := by
  rcases List.mem_append.1 hy with hy | hy
  · exact (s.n3 y (by simpa using hy)).2.ne
  · exact (s.n4 y (by simpa using hy)).2.ne
theorem FeS.go (s : FeS B C o3 o4 k3 k4 e1 e2) (l : AHeap.le C C') : FeS B C' o3 o4 k3 k4 e1 e2 :=
  ⟨s.l.trans l, fun x h => ⟨(s.n3 x h).1, (s.n3 x h).2.trans l⟩, fun x h => ⟨(s.n4 x h).1, (s.n4 x h).2.trans l⟩, s.ne,
    fun p h => (s.t1 p h).le (off_stay l (Chg.refl _ _) fun y hy => .inl hy), fun p h => (s.t2 p h).le (off_stay l (Chg.refl _ _) fun y hy => .inl hy)⟩
theorem FeS.call1 (s : FeS B C o3 o4 k3 k4 none e2) (l : AHeap.le C C') {e : Ex} {cs : List Value} (h : ExV (C'.off C) e cs) : FeS B C' o3 o4 k3 k4 (some (e, cs)) e2 := by
  have g := s.go l
  refine ⟨g.l, g.n3, g.n4, g.ne, fun p hp => ?_, g.t2⟩
  obtain rfl := Option.some.inj hp
  exact h.le (off_made s.l (Chg.refl _ _) (fun y hy => s.mem hy) fun y hy => .inl hy)
theorem FeS.call2 (s : FeS B C o3 o4 k3 k4 e1 none) (l : AHeap.le C C') {e : Ex} {cs : List Value} (h : ExV (C'.off C) e cs) : FeS B C' o3 o4 k3 k4 e1 (some (e, cs)) := by
  have g := s.go l
  refine ⟨g.l, g.n3, g.n4, g.ne, g.t1, fun p hp => ?_⟩
  obtain rfl := Option.some.inj hp
  exact h.le (off_made s.l (Chg.refl _ _) (fun y hy => s.mem hy) fun y hy => .inl hy)
theorem FeS.new3 (s : FeS B C none o4 k3 k4 e1 e2) {fr : Fr} {D : Fr → AHeap → Prop} (h : ∀ x C', FeS B C' (some x) o4 z3 k4 e1 e2 → putK D (some 3) fr (.pointer (some ⟨x, 0, none⟩)) C') : newK (putK D (some 3) fr) C ⟨z3, true, 61, 3⟩ := by
  refine new_intro (fun x hx => h x _ ?_)
  have g := s.go ((AHeap.le.refl C).fresh hx ⟨z3, true, 61, 3⟩)
  have mv : AHeap.le ((C.off B).no fun y => y ∈ (none : Option Nat).toList ++ o4.toList) (((C.set x ⟨z3, true, 61, 3⟩).off B).no fun y => y ∈ (some x).toList ++ o4.toList) :=
    off_stay (.refl C) (Chg.of_le ((AHeap.le.refl C).fresh hx _)) fun y hy => by
      rcases List.mem_append.1 hy with hy | hy
      · simp at hy; subst hy; exact .inr hx
      · exact .inl (by simpa using hy)
  refine ⟨g.l, fun y hy => ?_, g.n4, fun y z hy hz => ?_, fun p hp => (s.t1 p hp).le mv, fun p hp => (s.t2 p hp).le mv⟩
  · obtain rfl := Option.some.inj hy; exact ⟨s.l.none hx, Kn.same _ _ _⟩
  · obtain rfl := Option.some.inj hy; rintro rfl; exact (s.n4 _ hz).2.ne hx
theorem FeS.new4 (s : FeS B C o3 none k3 k4 e1 e2) {fr : Fr} {D : Fr → AHeap → Prop} (h : ∀ x C', FeS B C' o3 (some x) k3 z3 e1 e2 → putK D (some 4) fr (.pointer (some ⟨x, 0, none⟩)) C') : newK (putK D (some 4) fr) C ⟨z3, true, 61, 3⟩ := by
  refine new_intro (fun x hx => h x _ ?_)
  have g := s.go ((AHeap.le.refl C).fresh hx ⟨z3, true, 61, 3⟩)
  have mv : AHeap.le ((C.off B).no fun y => y ∈ o3.toList ++ (none : Option Nat).toList) (((C.set x ⟨z3, true, 61, 3⟩).off B).no fun y => y ∈ o3.toList ++ (some x).toList) :=
    off_stay (.refl C) (Chg.of_le ((AHeap.le.refl C).fresh hx _)) fun y hy => by
      rcases List.mem_append.1 hy with hy | hy
      · exact .inl (by simpa using hy)
      · simp at hy; subst hy; exact .inr hx
  refine ⟨g.l, g.n3, fun y hy => ?_, fun y z hy hz => ?_, fun p hp => (s.t1 p hp).le mv, fun p hp => (s.t2 p hp).le mv⟩
  · obtain rfl := Option.some.inj hy; exact ⟨s.l.none hx, Kn.same _ _ _⟩
  · obtain rfl := Option.some.inj hz; rintro rfl; exact (s.n3 _ hy).2.ne hx
theorem FeS.st3 {u0 u1 u2 : Value} (s : FeS B C (some x3) o4 z3 k4 e1 e2) (h1 : ∀ u ∈ [u0, u1, u2], u.oneCell' = true) (h : ∀ C', FeS B C' (some x3) o4 [u0, u1, u2] k4 e1 e2 → K undef C') : stK 3 (.pointer (some ⟨x3, 0, none⟩)) (.agg #[u0, u1, u2]) K C := by
  refine st_kn (s.n3 _ rfl).2 rfl (by rw [vcA]; rfl) (by simp) (by rw [vcA]; exact h1) (fun C' hc ho k => h C' ?_)
  rw [vcA] at k
  have mv : AHeap.le ((C.off B).no fun y => y ∈ (some x3).toList ++ o4.toList) ((C'.off B).no fun y => y ∈ (some x3).toList ++ o4.toList) := off_stay (.refl C) (hc.mono fun y hy => List.mem_append_left _ (by simpa using hy)) fun y hy => .inl hy
  refine ⟨hc.keep s.l (New.one (s.n3 _ rfl).1), fun y hy => ?_, fun y hy => ⟨(s.n4 y hy).1, (s.n4 y hy).2.chg hc ?_⟩, s.ne, fun p hp => (s.t1 p hp).le mv, fun p hp => (s.t2 p hp).le mv⟩
  · obtain rfl := Option.some.inj hy; exact ⟨(s.n3 _ rfl).1, k⟩
  · simp only [List.mem_cons, List.not_mem_nil, or_false]; exact fun e => s.ne x3 y rfl hy e.symm
theorem FeS.st4 {u0 u1 u2 : Value} (s : FeS B C o3 (some x4) k3 z3 e1 e2) (h1 : ∀ u ∈ [u0, u1, u2], u.oneCell' = true) (h : ∀ C', FeS B C' o3 (some x4) k3 [u0, u1, u2] e1 e2 → K undef C') : stK 3 (.pointer (some ⟨x4, 0, none⟩)) (.agg #[u0, u1, u2]) K C := by
  refine st_kn (s.n4 _ rfl).2 rfl (by rw [vcA]; rfl) (by simp) (by rw [vcA]; exact h1) (fun C' hc ho k => h C' ?_)
  rw [vcA] at k
  have mv : AHeap.le ((C.off B).no fun y => y ∈ o3.toList ++ (some x4).toList) ((C'.off B).no fun y => y ∈ o3.toList ++ (some x4).toList) := off_stay (.refl C) (hc.mono fun y hy => List.mem_append_right _ (by simpa using hy)) fun y hy => .inl hy
  refine ⟨hc.keep s.l (New.one (s.n4 _ rfl).1), fun y hy => ⟨(s.n3 y hy).1, (s.n3 y hy).2.chg hc ?_⟩, fun y hy => ?_, s.ne, fun p hp => (s.t1 p hp).le mv, fun p hp => (s.t2 p hp).le mv⟩
  · simp only [List.mem_cons, List.not_mem_nil, or_false]; exact fun e => s.ne y x4 hy rfl e
  · obtain rfl := Option.some.inj hy; exact ⟨(s.n4 _ rfl).1, k⟩
theorem FeS.start (B : AHeap) : FeS B B none none [] [] none none := ⟨.refl B, fun x h => (by cases h), fun x h => (by cases h), fun x y h => (by cases h), fun p h => (by cases h), fun p h => (by cases h)⟩
theorem kn3 {v0 v1 v2 : Value} {t : TypeId} {c : Nat} (k : Kn C x ⟨[v0, v1, v2], true, t, c⟩) : C.cell (some ⟨x, 0, none⟩) = some v0 ∧ C.cell (some ⟨x, 1, none⟩) = some v1 ∧ C.cell (some ⟨x, 2, none⟩) = some v2 := ⟨k.cell (j := 0) rfl, k.cell (j := 1) rfl, k.cell (j := 2) rfl⟩
theorem ec_oc {e : Ex} {A : Option Addr} {c : Nat} : ∀ u ∈ ec e A c, u.oneCell' = true := by simp [ocI, ocS]
end
/-- Where the region ends. -/
def FeE (B : AHeap) (x1 x2 : Nat) (a b : Ex) (fr : Fr) (C : AHeap) : Prop := ∃ (x3 x4 : Nat) (A3 : Option Addr) (c3 : Nat) (A4 : Option Addr) (c4 : Nat), fr 1 = .pointer (some ⟨x1, 0, none⟩) ∧ fr 2 = .pointer (some ⟨x2, 0, none⟩) ∧ fr 3 = .pointer (some ⟨x3, 0, none⟩) ∧ fr 4 = .pointer (some ⟨x4, 0, none⟩) ∧ FeS B C (some x3) (some x4) (ec a A3 c3) (ec b A4 c4) (some (a, ec a A3 c3)) (some (b, ec b A4 c4))
theorem FeE.mk {B : AHeap} {x1 x2 : Nat} {a b : Ex} {fr : Fr} {C : AHeap} {x3 x4 : Nat} {A3 : Option Addr} {c3 : Nat} {A4 : Option Addr} {c4 : Nat} (s : FeS B C (some x3) (some x4) (ec a A3 c3) (ec b A4 c4) (some (a, ec a A3 c3)) (some (b, ec b A4 c4)))
    (f1 : fr 1 = .pointer (some ⟨x1, 0, none⟩)) (f2 : fr 2 = .pointer (some ⟨x2, 0, none⟩)) (f3 : fr 3 = .pointer (some ⟨x3, 0, none⟩)) (f4 : fr 4 = .pointer (some ⟨x4, 0, none⟩)) : FeE B x1 x2 a b fr C := ⟨x3, x4, A3, c3, A4, c4, f1, f2, f3, f4, s⟩
theorem feP : ∀ d, FeP w0 d
  | 0 => fun e A c H K h => by rw [ok_zero] at h; cases h
  | d + 1 => by
    intro e A c H K ho hv h
    have ih := feP d
    cases e with
    | mk op n args =>
      obtain ⟨_, _, he, hml, hR⟩ := hv.open_
      simp only [List.cons.injEq, and_true, Value.slice.injEq, true_and] at he
      obtain ⟨rfl, rfl⟩ := he
      rcases ok_args ho with ⟨rfl, hop⟩ | ⟨x, y, rfl, hox, hoy, hop⟩
      · rw [foldE_nil] at h
        simp only [ev, ec, Ex.op, Ex.n, Ex.args, List.length_nil] at h ⊢
        have g0 : (((0 : Nat) : Int) == 0) = true := by decide
        refine acalls_of_sx mix Try.func61 of61 (by simp [ir61]) ?_; rw [ir61]; (try delta qT qI qC qO qM qG)
        repeat' (first | simp -implicitDefEqProofs only [zG1,zG2,zG3,zG4,zG5,zG6,zG7,eq_self,resV,rval,X.val,binv,fillL,setR,↓reduceIte,Nat.reduceEqDiff,Nat.reduceAdd,Nat.reduceMul,Nat.reduceLeDiff,Nat.reduceLT,Nat.reduceSub,reduceCtorEq,zGq])
        refine new_intro (fun x1 h1 => ?_)
        repeat' (first | simp -implicitDefEqProofs only [zG1,zG2,zG3,zG4,zG5,zG6,zG7,eq_self,resV,rval,X.val,binv,fillL,setR,↓reduceIte,Nat.reduceEqDiff,Nat.reduceAdd,Nat.reduceMul,Nat.reduceLeDiff,Nat.reduceLT,Nat.reduceSub,reduceCtorEq,zGq])
        refine new_intro (fun x2 h2 => ?_)
        simp only [set_none, ne_eq] at h2
        have n12 : ¬ x1 = x2 := fun e => h2.1 e.symm
        repeat' (first | simp -implicitDefEqProofs only [zG1,zG2,zG3,zG4,zG5,zG6,zG7,eq_self,resV,rval,X.val,binv,fillL,setR,↓reduceIte,Nat.reduceEqDiff,Nat.reduceAdd,Nat.reduceMul,Nat.reduceLeDiff,Nat.reduceLT,Nat.reduceSub,reduceCtorEq,zGq, g0, n12] | ((with_reducible refine rows_intro (fun _ hb => ?_)); try simp only [set_none, ne_eq] at hb) | ((with_reducible refine new_intro (fun _ hb => ?_)); try simp only [set_none, ne_eq] at hb) | (with_reducible refine draw_same ?_) | ((with_reducible refine gd_split ?_ (fun _ => ?_) (fun _ => ?_)); exact rfl) | ((with_reducible refine td_split ?_ (fun _ => ?_) (fun _ => ?_)); exact rfl) | (with_reducible refine c_split (fun _ => ?_) (fun _ => ?_)))
        exact ret_same (h none 0 _ (((AHeap.le.refl H).fresh h1 _).fresh (set_none.2 h2) _) (exV_leaf _ _ _ _ _))
      · obtain ⟨a', c', b', d', hc, hx, hy⟩ := hR.two
        simp only [ev, Ex.op, Ex.n, Ex.args, List.length_cons, List.length_nil]
        have g0 : (((2 : Nat) : Int) == 0) = false := by decide
        generalize hfx : foldE d x = a
        generalize hfy : foldE d y = b
        refine acalls_of_sx mix Try.func61 of61 (by simp [ir61]) ?_; rw [ir61]; (try delta qT qI qC qO qM qG)
        repeat' (first | simp -implicitDefEqProofs only [zG1,zG2,zG3,zG4,zG5,zG6,zG7,eq_self,resV,rval,X.val,binv,fillL,setR,↓reduceIte,Nat.reduceEqDiff,Nat.reduceAdd,Nat.reduceMul,Nat.reduceLeDiff,Nat.reduceLT,Nat.reduceSub,reduceCtorEq,zGq])
        refine new_intro (fun x1 h1 => ?_)
        repeat' (first | simp -implicitDefEqProofs only [zG1,zG2,zG3,zG4,zG5,zG6,zG7,eq_self,resV,rval,X.val,binv,fillL,setR,↓reduceIte,Nat.reduceEqDiff,Nat.reduceAdd,Nat.reduceMul,Nat.reduceLeDiff,Nat.reduceLT,Nat.reduceSub,reduceCtorEq,zGq])
        refine new_intro (fun x2 h2 => ?_)
        simp only [set_none, ne_eq] at h2
        obtain ⟨B, hB⟩ : ∃ B, B = (H.set x1 ⟨[.int .i64 op, .int .i64 n, .slice A 2 c], true, 61, 3⟩).set x2 ⟨z3, true, 61, 3⟩ := ⟨_, rfl⟩
        have lB : AHeap.le H B := by rw [hB]; exact ((AHeap.le.refl H).fresh h1 _).fresh (set_none.2 h2) _
        have k1 : Kn B x1 ⟨[.int .i64 op, .int .i64 n, .slice A 2 c], true, 61, 3⟩ := by rw [hB]; exact (Kn.same _ _ _).set (fun e => h2.1 e.symm) _
        have k2 : Kn B x2 ⟨z3, true, 61, 3⟩ := by rw [hB]; exact Kn.same _ _ _
        rw [← hB]
        clear hB
        have g1 := kn3 k1
        have g2 := two_le lB hc
        have hx1 := hx.le lB
        have hy1 := hy.le lB
        have call1 : ∀ (C : AHeap) (D : Value → AHeap → Prop) {o3 o4 : Option Nat} {k3 k4 : List Value} {e2 : Option (Ex × List Value)}, FeS B C o3 o4 k3 k4 none e2 → (∀ A c C', FeS B C' o3 o4 k3 k4 (some (a, ec a A c)) e2 → D (ev a A c) C') → ACalls Try.prog w0 61 [ev x a' c'] C D :=
          fun C D _ _ _ _ _ s hD => ih x a' c' C D hox (hx1.le s.l) (fun A c C' l hE => by rw [hfx] at hE ⊢; exact hD A c C' (s.call1 l hE))
        have call2 : ∀ (C : AHeap) (D : Value → AHeap → Prop) {o3 o4 : Option Nat} {k3 k4 : List Value} {e1 : Option (Ex × List Value)}, FeS B C o3 o4 k3 k4 e1 none → (∀ A c C', FeS B C' o3 o4 k3 k4 e1 (some (b, ec b A c)) → D (ev b A c) C') → ACalls Try.prog w0 61 [ev y b' d'] C D :=
          fun C D _ _ _ _ _ s hD => ih y b' d' C D hoy (hy1.le s.l) (fun A c C' l hE => by rw [hfy] at hE ⊢; exact hD A c C' (s.call2 l hE))
        have r0 : ((0 : Int) ≤ 0 ∧ (0 : Int) < ((2 : Nat) : Int)) = True := by simp
        have r1 : ((0 : Int) ≤ 1 ∧ (1 : Int) < ((2 : Nat) : Int)) = True := by simp
        repeat' (first | simp -implicitDefEqProofs only [zG1,zG2,zG3,zG4,zG5,zG6,zG7,eq_self,resV,rval,X.val,binv,fillL,setR,↓reduceIte,Nat.reduceEqDiff,Nat.reduceAdd,Nat.reduceMul,Nat.reduceLeDiff,Nat.reduceLT,Nat.reduceSub,reduceCtorEq,zGq, g0, g1, g2])
        refine draw_at B (.refl B) ?_
        refine sch_mono (K1 := FeE B x1 x2 a b) ?_ _ _ _ ?_
        · rintro fr C ⟨x3, x4, A3, c3, A4, c4, f1, f2, f3, f4, s⟩
          have q1 := kn3 (k1.trans s.l)
          have q3 := kn3 (s.n3 _ rfl).2
          have q4 := kn3 (s.n4 _ rfl).2
          have t1 := s.t1 _ rfl
          have t2 := s.t2 _ rfl
          have hx2C := k2.trans s.l
          have fin : ∀ (e : Ex) (A' : Option Addr) (c' : Nat) (C2 : AHeap) (D : Value → AHeap → Prop), AHeap.le C C2 → ExV ((C2.off B).no fun y => y ∈ (some x3).toList ++ (some x4).toList) e (ec e A' c') → (foldE (d + 1) (.mk op n [x, y]) = e) →
              (∀ C3, AHeap.le H C3 → (C3.cell (some ⟨x2, 0, none⟩) = some (.int .i64 e.op) ∧ C3.cell (some ⟨x2, 1, none⟩) = some (.int .i64 e.n) ∧ C3.cell (some ⟨x2, 2, none⟩) = some (.slice A' e.args.length c')) → K (ev e A' c') C3 → D undef C3) → stK 3 (.pointer (some ⟨x2, 0, none⟩)) (ev e A' c') D C2 := by
            intro e A' c' C2 D l2 hE he hD
            refine st_kn (hx2C.trans l2) rfl (by rw [vcA]; rfl) (by simp) (by rw [vcA]; exact ec_oc) (fun C3 hc ho k => ?_)
            rw [vcA] at k
            have lH : AHeap.le H C3 := hc.keep (lB.trans (s.l.trans l2)) (New.one h2.2)
            refine hD C3 lH (kn3 k) ?_
            have := h A' c' C3 lH
            rw [he] at this
            exact this (hE.le ((no_le _ _).trans (off_any fun z k' g1 g2 => ⟨lB.none g1, (Kn.of g2).chg hc (by simp only [List.mem_cons, List.not_mem_nil, or_false]; rintro rfl; exact k2.ne g1)⟩)))
          cases hf : foldsTo op a b with
          | true =>
            have he := foldE_two d op n x y
            rw [hfx, hfy, hf, if_pos rfl] at he
            simp only [foldsTo, Bool.and_eq_true, decide_eq_true_eq] at hf
            obtain ⟨⟨⟨p1, p2⟩, p3⟩, p4⟩ := hf
            have d3 : decide (applyN op a.n b.n ≥ 0) = true := by simpa using p3
            have d4 : decide (applyN op a.n b.n ≤ 99999) = true := by simpa using p4
            repeat' (first | simp -implicitDefEqProofs only [zG1,zG2,zG3,zG4,zG5,zG6,zG7,eq_self,resV,rval,X.val,binv,fillL,setR,↓reduceIte,Nat.reduceEqDiff,Nat.reduceAdd,Nat.reduceMul,Nat.reduceLeDiff,Nat.reduceLT,Nat.reduceSub,reduceCtorEq,zGq, f1, f2, f3, f4, q1, q3, q4, p1, p2, d3, d4] | (with_reducible refine apply_ok _ _ _ op a.n b.n hop ?_))
            refine fin _ none 0 C _ (.refl _) (exV_leaf _ 0 (applyN op a.n b.n) none 0) he (fun C3 lH g K3 => ?_)
            repeat' (first | simp -implicitDefEqProofs only [zG1,zG2,zG3,zG4,zG5,zG6,zG7,eq_self,resV,rval,X.val,binv,fillL,setR,↓reduceIte,Nat.reduceEqDiff,Nat.reduceAdd,Nat.reduceMul,Nat.reduceLeDiff,Nat.reduceLT,Nat.reduceSub,reduceCtorEq,zGq, f1, f2, f3, f4, g])
            exact ret_same K3
          | false =>
            have he := foldE_two d op n x y
            rw [hfx, hfy, hf, if_neg (by simp)] at he
            have lit : ∀ (z : Nat) (D : Value → AHeap → Prop) (t : TypeId) (cc : Nat), C z = none →
                (∀ C3, (C3.cell (some ⟨x2, 0, none⟩) = some (.int .i64 op) ∧ C3.cell (some ⟨x2, 1, none⟩) = some (.int .i64 0) ∧ C3.cell (some ⟨x2, 2, none⟩) = some (.slice (some ⟨z, 0, none⟩) 2 2)) → K (.agg #[.int .i64 op, .int .i64 0, .slice (some ⟨z, 0, none⟩) 2 2]) C3 → D undef C3) →
                stK 3 (.pointer (some ⟨x2, 0, none⟩)) (.agg #[.int .i64 op, .int .i64 0, .slice (some ⟨z, 0, none⟩) 2 2]) D (C.set z ⟨[.int .i64 a.op, .int .i64 a.n, .slice A3 a.args.length c3, .int .i64 b.op, .int .i64 b.n, .slice A4 b.args.length c4], true, t, cc⟩) := by
              intro z D t cc hz hD
              have lz := (AHeap.le.refl C).fresh hz ⟨[.int .i64 a.op, .int .i64 a.n, .slice A3 a.args.length c3, .int .i64 b.op, .int .i64 b.n, .slice A4 b.args.length c4], true, t, cc⟩
              have mv := off_stay (H := B) (bs := (some x3).toList ++ (some x4).toList) (bs' := (some x3).toList ++ (some x4).toList) lz (Chg.refl _ _) fun y hy => .inl hy
              have kz : Kn (((C.set z ⟨[.int .i64 a.op, .int .i64 a.n, .slice A3 a.args.length c3, .int .i64 b.op, .int .i64 b.n, .slice A4 b.args.length c4], true, t, cc⟩).off B).no fun y => y ∈ (some x3).toList ++ (some x4).toList) z ⟨[.int .i64 a.op, .int .i64 a.n, .slice A3 a.args.length c3, .int .i64 b.op, .int .i64 b.n, .slice A4 b.args.length c4], true, t, cc⟩ :=
                ⟨_, by rw [no_out (fun hm => s.mem hm hz), off_at (s.l.none hz), set_same], rfl, rfl, rfl, fun _ _ h => h⟩
              exact fin (.mk op 0 [a, b]) (some ⟨z, 0, none⟩) 2 _ D lz (exV_both kz (t1.le mv) (t2.le mv)) he fun C3 _ g K3 => hD C3 g K3
            have done : ∀ (z : Nat) (C3 : AHeap), K (.agg #[.int .i64 op, .int .i64 0, .slice (some ⟨z, 0, none⟩) 2 2]) C3 → ∃ H', AHeap.le H' C3 ∧ K (.agg #[.int .i64 op, .int .i64 0, .slice (some ⟨z, 0, none⟩) 2 2]) H' := fun z C3 hk => ⟨C3, .refl _, hk⟩
            cases p1 : (a.op == 0) with
            | false =>
              repeat' (first | simp -implicitDefEqProofs only [zG1,zG2,zG3,zG4,zG5,zG6,zG7,eq_self,resV,rval,X.val,binv,fillL,setR,↓reduceIte,Nat.reduceEqDiff,Nat.reduceAdd,Nat.reduceMul,Nat.reduceLeDiff,Nat.reduceLT,Nat.reduceSub,reduceCtorEq,zGq, f1, f2, f3, f4, q1, q3, q4, p1] | (with_reducible refine rows_intro (fun z hz => ?_)) | (with_reducible refine lit _ _ _ _ hz (fun C3 g K3 => ?_)))
              repeat' (first | simp -implicitDefEqProofs only [zG1,zG2,zG3,zG4,zG5,zG6,zG7,eq_self,resV,rval,X.val,binv,fillL,setR,↓reduceIte,Nat.reduceEqDiff,Nat.reduceAdd,Nat.reduceMul,Nat.reduceLeDiff,Nat.reduceLT,Nat.reduceSub,reduceCtorEq,zGq, f1, f2, f3, f4, g])
              exact ret_same K3
            | true =>
              cases p2 : (b.op == 0) with
              | false =>
                repeat' (first | simp -implicitDefEqProofs only [zG1,zG2,zG3,zG4,zG5,zG6,zG7,eq_self,resV,rval,X.val,binv,fillL,setR,↓reduceIte,Nat.reduceEqDiff,Nat.reduceAdd,Nat.reduceMul,Nat.reduceLeDiff,Nat.reduceLT,Nat.reduceSub,reduceCtorEq,zGq, f1, f2, f3, f4, q1, q3, q4, p1, p2] | (with_reducible refine rows_intro (fun z hz => ?_)) | (with_reducible refine lit _ _ _ _ hz (fun C3 g K3 => ?_)))
                repeat' (first | simp -implicitDefEqProofs only [zG1,zG2,zG3,zG4,zG5,zG6,zG7,eq_self,resV,rval,X.val,binv,fillL,setR,↓reduceIte,Nat.reduceEqDiff,Nat.reduceAdd,Nat.reduceMul,Nat.reduceLeDiff,Nat.reduceLT,Nat.reduceSub,reduceCtorEq,zGq, f1, f2, f3, f4, g])
                exact ret_same K3
              | true =>
                cases d3 : decide (applyN op a.n b.n ≥ 0) with
                | false =>
                  repeat' (first | simp -implicitDefEqProofs only [zG1,zG2,zG3,zG4,zG5,zG6,zG7,eq_self,resV,rval,X.val,binv,fillL,setR,↓reduceIte,Nat.reduceEqDiff,Nat.reduceAdd,Nat.reduceMul,Nat.reduceLeDiff,Nat.reduceLT,Nat.reduceSub,reduceCtorEq,zGq, f1, f2, f3, f4, q1, q3, q4, p1, p2, d3] | (with_reducible refine apply_ok _ _ _ op a.n b.n hop ?_) | (with_reducible refine rows_intro (fun z hz => ?_)) | (with_reducible refine lit _ _ _ _ hz (fun C3 g K3 => ?_)))
                  repeat' (first | simp -implicitDefEqProofs only [zG1,zG2,zG3,zG4,zG5,zG6,zG7,eq_self,resV,rval,X.val,binv,fillL,setR,↓reduceIte,Nat.reduceEqDiff,Nat.reduceAdd,Nat.reduceMul,Nat.reduceLeDiff,Nat.reduceLT,Nat.reduceSub,reduceCtorEq,zGq, f1, f2, f3, f4, g])
                  exact ret_same K3
                | true =>
                  cases d4 : decide (applyN op a.n b.n ≤ 99999) with
                  | false =>
                    repeat' (first | simp -implicitDefEqProofs only [zG1,zG2,zG3,zG4,zG5,zG6,zG7,eq_self,resV,rval,X.val,binv,fillL,setR,↓reduceIte,Nat.reduceEqDiff,Nat.reduceAdd,Nat.reduceMul,Nat.reduceLeDiff,Nat.reduceLT,Nat.reduceSub,reduceCtorEq,zGq, f1, f2, f3, f4, q1, q3, q4, p1, p2, d3, d4] | (with_reducible refine apply_ok _ _ _ op a.n b.n hop ?_) | (with_reducible refine rows_intro (fun z hz => ?_)) | (with_reducible refine lit _ _ _ _ hz (fun C3 g K3 => ?_)))
                    repeat' (first | simp -implicitDefEqProofs only [zG1,zG2,zG3,zG4,zG5,zG6,zG7,eq_self,resV,rval,X.val,binv,fillL,setR,↓reduceIte,Nat.reduceEqDiff,Nat.reduceAdd,Nat.reduceMul,Nat.reduceLeDiff,Nat.reduceLT,Nat.reduceSub,reduceCtorEq,zGq, f1, f2, f3, f4, g])
                    exact ret_same K3
                  | true =>
                    exfalso
                    simp only [decide_eq_true_eq] at d3 d4
                    rw [foldsTo, p1, p2, Bool.and_true, Bool.true_and, Bool.and_eq_false_iff, decide_eq_false_iff_not, decide_eq_false_iff_not] at hf
                    omega
        · have s := FeS.start B
          repeat' (first | simp -implicitDefEqProofs only [zG1,zG2,zG3,zG4,zG5,zG6,zG7,eq_self,resV,rval,X.val,binv,fillL,setR,↓reduceIte,Nat.reduceEqDiff,Nat.reduceAdd,Nat.reduceMul,Nat.reduceLeDiff,Nat.reduceLT,Nat.reduceSub,reduceCtorEq,zGq, g1, g2, r0, r1, Int.toNat_zero, Int.toNat_one, Nat.zero_mul, Nat.one_mul, adr_zero] | (with_reducible refine call1 _ _ s (fun A3 c3 C s => ?_)) | (with_reducible refine call2 _ _ s (fun A4 c4 C s => ?_)) | (with_reducible refine s.new3 (fun x3 C s => ?_)) | (with_reducible refine s.new4 (fun x4 C s => ?_)) | (with_reducible refine s.st3 ec_oc (fun C s => ?_)) | (with_reducible refine s.st4 ec_oc (fun C s => ?_)) | (with_reducible refine ⟨s.l, ?_⟩) | (with_reducible refine And.intro ?_ ?_))
          all_goals exact FeE.mk s (by first | rfl | (simp only [put_at, ↓reduceIte, Nat.reduceEqDiff]; first | done | rfl | assumption) | simp [put_at, *]) (by first | rfl | (simp only [put_at, ↓reduceIte, Nat.reduceEqDiff]; first | done | rfl | assumption) | simp [put_at, *]) (by first | rfl | (simp only [put_at, ↓reduceIte, Nat.reduceEqDiff]; first | done | rfl | assumption) | simp [put_at, *]) (by first | rfl | (simp only [put_at, ↓reduceIte, Nat.reduceEqDiff]; first | done | rfl | assumption) | simp [put_at, *])
end Go.Proofs.Ytjhedgoafkabiaa
namespace Go.Proofs.Ytjhedgoafkabiaa
set_option linter.all false
open Go Go.RowKit
set_option maxRecDepth 100000
variable (w0 : World)
abbrev zs8 : List Value := [.int .i64 0, .int .i64 0, .int .i64 0, .int .i64 0, .int .i64 0, .slice none 0 0, .slice none 0 0, .slice none 0 0]
theorem rw_off {H C : AHeap} {t : TypeId} {sz : Nat} {A : Option Addr} {n c : Nat} {xs : List Value} {bs : List Nat} (h : Rw C t sz (.slice A n c) n xs bs) (nb : New H bs) : Fl (C.off H) A xs := by
  rcases h with ⟨e, _, rfl, _⟩ | ⟨b', cap, e, rfl, _, _, _, hk⟩
  · exact Fl.nil _ _
  · simp only [Value.slice.injEq] at e
    obtain ⟨rfl, _⟩ := e
    exact (kn_off (nb b' (by simp)) hk).fl fun _ _ h => h
theorem stOk_parts {d : Nat} {s : St} (h : stOk d s = true) : ∃ d', s.body.all (stOk d') = true ∧ s.els.all (stOk d') = true := by
  by_cases hk : s.kind = 2 ∨ s.kind = 3
  · obtain ⟨d', _, _, h1, h2⟩ := stOk_block h hk
    exact ⟨d', h1, h2⟩
  · obtain ⟨h1, h2⟩ := simple_nil (stOk_simple h (fun e => hk (.inl e)) (fun e => hk (.inr e)))
    exact ⟨0, by rw [h1]; rfl, by rw [h2]; rfl⟩
/-- What stmtsFold returns: a row of the call's own whose cells read as the folded statements, all in new memory. -/
abbrev FsT (ss : List St) : Prop := ∀ (d : Nat) (A : Option Addr) (c : Nat) (H : AHeap) (K : Value → AHeap → Prop), ss.all (stOk d) = true → cntL ss ≤ 1000 → StR H ss A 0 →
  (∀ v xs bs C, AHeap.le H C → New H bs → Rw C 63 8 v (foldL ss).length xs bs → StL ((C.off H).no fun y => y ∈ bs) (foldL ss) xs → K v C) → ACalls Try.prog w0 41 [.slice A ss.length c] H K
theorem rw_known {C : AHeap} {t : TypeId} {sz : Nat} {v : Value} {n : Nat} {xs : List Value} {bs : List Nat} (h : Rw C t sz v n xs bs) : ∀ y, y ∈ bs → C y ≠ none := fun y hy => by
  rcases h with ⟨_, _, _, rfl⟩ | ⟨b', cap, _, rfl, _, _, _, hk⟩
  · cases hy
  · simp only [List.mem_cons, List.not_mem_nil, or_false] at hy
    subst hy; exact hk.ne
theorem fsT_of (ss : List St) (ih : ∀ s ∈ ss, FsT w0 s.body ∧ FsT w0 s.els) : FsT w0 ss := by
  intro d A c H K ho hc hR h
  have hl := cntL_len ss
  refine acalls_of_sx mix Try.func41 of41 (by simp [ir41]) ?_; rw [ir41]; (try delta qT qI qC qO qM qG)
  repeat' (first | simp -implicitDefEqProofs only [zG1,zG2,zG3,zG4,zG5,zG6,zG7,eq_self,resV,rval,X.val,binv,fillL,setR,↓reduceIte,Nat.reduceEqDiff,Nat.reduceAdd,Nat.reduceMul,Nat.reduceLeDiff,Nat.reduceLT,Nat.reduceSub,reduceCtorEq,zGq])
  refine for_rule ss.length (fun k fr C => ∃ v xs bs, AHeap.le H C ∧ New H bs ∧ Rw C 63 8 v (foldL (ss.take k)).length xs bs ∧ StL ((C.off H).no fun y => y ∈ bs) (foldL (ss.take k)) xs ∧ fr 3 = v ∧ fr 7 = .slice A ss.length c ∧ fr 8 = .int .i64 ss.length ∧ fr 9 = .int .i64 k)
    ⟨_, [], [], .refl H, New.nil _, Rw.nil_ _ _ _, rfl, (by first | rfl | (simp only [put_at, ↓reduceIte, Nat.reduceEqDiff]; first | done | rfl | assumption) | simp [put_at, *]), (by first | rfl | (simp only [put_at, ↓reduceIte, Nat.reduceEqDiff]; first | done | rfl | assumption) | simp [put_at, *]), (by first | rfl | (simp only [put_at, ↓reduceIte, Nat.reduceEqDiff]; first | done | rfl | assumption) | simp [put_at, *]), (by first | rfl | (simp only [put_at, ↓reduceIte, Nat.reduceEqDiff]; first | done | rfl | assumption) | simp [put_at, *])⟩ ?_ ?_
  · rintro k fr C hk ⟨v, xs, bs, l, nb, w, st, f3, f7, f8, f9⟩ N hN
    obtain ⟨V, cv, rfl, -⟩ := w.fl
    have g0 := lt_dec hk
    have g1 := rng hk
    have g2 := up1 hk (by omega)
    obtain ⟨gA, a0, d0, a1, d1, a2, d2, gp, hx⟩ := (hR.le l).arg hk
    have hat := cntL_at hk
    have hcs := ss[k].cnt_eq
    have hok := List.all_eq_true.1 ho _ (List.getElem_mem hk)
    obtain ⟨d', hob, hoe⟩ := stOk_parts hok
    have hE5 := stOk_e hok
    obtain ⟨ihb, ihe⟩ := ih ss[k] (List.getElem_mem hk)
    have hstep := foldL_take hk
    have hlen := (foldL_ok (ss.take k) d (by rw [List.all_eq_true] at ho ⊢; exact fun x hx => ho x (List.mem_of_mem_take hx))).2.2
    have hlen1 := cntL_len (foldL (ss.take k))
    have hle := cntL_le (ss := ss) k
    have hlb := (foldL_ok ss[k].body d' hob).2.2
    have hlb1 := cntL_len (foldL ss[k].body)
    have hle2 := (foldL_ok ss[k].els d' hoe).2.2
    have hle1 := cntL_len (foldL ss[k].els)
    repeat' (first | simp -implicitDefEqProofs only [zG1,zG2,zG3,zG4,zG5,zG6,zG7,eq_self,resV,rval,X.val,binv,fillL,setR,↓reduceIte,Nat.reduceEqDiff,Nat.reduceAdd,Nat.reduceMul,Nat.reduceLeDiff,Nat.reduceLT,Nat.reduceSub,reduceCtorEq,zGq, f3, f7, f8, f9, g0, g1, gA, gp, Nat.add_zero])
    refine new_intro (fun x5 h5 => ?_)
    repeat' (first | simp -implicitDefEqProofs only [zG1,zG2,zG3,zG4,zG5,zG6,zG7,eq_self,resV,rval,X.val,binv,fillL,setR,↓reduceIte,Nat.reduceEqDiff,Nat.reduceAdd,Nat.reduceMul,Nat.reduceLeDiff,Nat.reduceLT,Nat.reduceSub,reduceCtorEq,zGq])
    obtain ⟨hE, ⟨hb1, hbR⟩, hl1, hlR⟩ := hx.parts
    generalize hC0 : C.set x5 _ = C0
    have k5 : Kn C0 x5 ⟨stc ss[k].kind ss[k].var ss[k].box ss[k].e ss[k].body.length ss[k].els.length a0 d0 a1 d1 a2 d2, true, 63, 8⟩ := by rw [← hC0]; exact Kn.same _ _ _
    have l0 : AHeap.le C C0 := by rw [← hC0]; exact (AHeap.le.refl C).fresh h5 _
    clear hC0
    have q0 := kn_eight k5
    refine draw_at C0 (.refl C0) ?_
    repeat' (first | simp -implicitDefEqProofs only [zG1,zG2,zG3,zG4,zG5,zG6,zG7,eq_self,resV,rval,X.val,binv,fillL,setR,↓reduceIte,Nat.reduceEqDiff,Nat.reduceAdd,Nat.reduceMul,Nat.reduceLeDiff,Nat.reduceLT,Nat.reduceSub,reduceCtorEq,zGq, q0])
    refine ihb d' a1 d1 C0 _ hob (by omega) (hbR.le l0) (fun v1 xs1 bs1 C1 l1 nb1 w1 st1 => ?_)
    obtain ⟨V1, e1, rfl, -⟩ := w1.fl
    repeat' (first | simp -implicitDefEqProofs only [zG1,zG2,zG3,zG4,zG5,zG6,zG7,eq_self,resV,rval,X.val,binv,fillL,setR,↓reduceIte,Nat.reduceEqDiff,Nat.reduceAdd,Nat.reduceMul,Nat.reduceLeDiff,Nat.reduceLT,Nat.reduceSub,reduceCtorEq,zGq])
    refine ⟨l1, ?_⟩
    refine ihe d' a2 d2 C1 _ hoe (by omega) (hlR.le (l0.trans l1)) (fun v2 xs2 bs2 C2 l2 nb2 w2 st2 => ?_)
    obtain ⟨V2, e2, rfl, -⟩ := w2.fl
    repeat' (first | simp -implicitDefEqProofs only [zG1,zG2,zG3,zG4,zG5,zG6,zG7,eq_self,resV,rval,X.val,binv,fillL,setR,↓reduceIte,Nat.reduceEqDiff,Nat.reduceAdd,Nat.reduceMul,Nat.reduceLeDiff,Nat.reduceLT,Nat.reduceSub,reduceCtorEq,zGq])
    refine ⟨l1.trans l2, ?_⟩
    refine feP w0 5 ss[k].e a0 d0 C2 _ hE5 (hE.le (l0.trans (l1.trans l2))) (fun A3 c3 C3 l3 hE3 => ?_)
    repeat' (first | simp -implicitDefEqProofs only [zG1,zG2,zG3,zG4,zG5,zG6,zG7,eq_self,resV,rval,X.val,binv,fillL,setR,↓reduceIte,Nat.reduceEqDiff,Nat.reduceAdd,Nat.reduceMul,Nat.reduceLeDiff,Nat.reduceLT,Nat.reduceSub,reduceCtorEq,zGq])
    refine st_kn (k5.trans (l1.trans (l2.trans l3))) rfl (by rw [vcS]; rfl) (by simp) (by rw [vcS]; simp [ocS]) (fun C4 hc4 _ k4 => ?_)
    rw [vcS] at k4
    simp only [setR, List.set_cons_zero, List.set_cons_succ] at k4
    repeat' (first | simp -implicitDefEqProofs only [zG1,zG2,zG3,zG4,zG5,zG6,zG7,eq_self,resV,rval,X.val,binv,fillL,setR,↓reduceIte,Nat.reduceEqDiff,Nat.reduceAdd,Nat.reduceMul,Nat.reduceLeDiff,Nat.reduceLT,Nat.reduceSub,reduceCtorEq,zGq])
    refine st_kn k4 rfl (by rw [vcS]; rfl) (by simp) (by rw [vcS]; simp [ocS]) (fun C5 hc5 _ k5' => ?_)
    rw [vcS] at k5'
    simp only [setR, List.set_cons_zero, List.set_cons_succ] at k5'
    repeat' (first | simp -implicitDefEqProofs only [zG1,zG2,zG3,zG4,zG5,zG6,zG7,eq_self,resV,rval,X.val,binv,fillL,setR,↓reduceIte,Nat.reduceEqDiff,Nat.reduceAdd,Nat.reduceMul,Nat.reduceLeDiff,Nat.reduceLT,Nat.reduceSub,reduceCtorEq,zGq])
    refine st_kn k5' rfl (by rw [vcA]; rfl) (by simp) (by rw [vcA]; simp [ocI, ocS]) (fun C6 hc6 _ k6 => ?_)
    rw [vcA] at k6
    simp only [setR, List.set_cons_zero, List.set_cons_succ] at k6
    have hcx : Chg C3 C6 [x5] := (hc4.trans hc5).trans hc6
    have q6 := kn_eight k6
    have lC6 : AHeap.le C C6 := hcx.keep (l0.trans (l1.trans (l2.trans l3))) (New.one h5)
    have up : ∀ {Ca : AHeap}, AHeap.le Ca C3 → AHeap.le (Ca.off C0) (C6.off C0) := fun lab => off_any fun x kx g1 g2 => ⟨g1, ((Kn.of g2).trans lab).chg hcx (by simp only [List.mem_cons, List.not_mem_nil, or_false]; rintro rfl; exact k5.ne g1)⟩
    have T1 := st1.le ((no_le _ _).trans (up (l2.trans l3)))
    have F1 := (rw_off w1 nb1).le (up (l2.trans l3))
    have T2 := st2.le ((no_le _ _).trans ((off_base l1).trans (up l3)))
    have F2 := (rw_off w2 nb2).le ((off_base l1).trans (up l3))
    have E3 := hE3.le ((off_base (l1.trans l2)).trans (up (.refl _)))
    have w6 := w.trans lC6
    have hbk : ∀ y, y ∈ bs → C0 y ≠ none := rw_known (w.trans l0)
    have fo := foldS_eq ss[k]
    have hb1' := w1.bound
    have hl1' := w2.bound
    have x1l := w1.len
    have x2l := w2.len
    -- a row of cells is appended
    have app : ∀ (ts : List St) (news : List Value) (Va : Option Addr) (ca : Nat) (D : Value → AHeap → Prop) (Cz : AHeap), AHeap.le C6 Cz → Fl Cz Va news → news.length = ts.length * 8 → (∀ u ∈ news, u.oneCell' = true) → ts.length ≤ 1000 → StL (Cz.off C0) ts news →
        (∀ v7 C7 bs7 xs7, AHeap.le H C7 → New H bs7 → Rw C7 63 8 v7 (foldL (ss.take k) ++ ts).length xs7 bs7 → StL ((C7.off H).no fun y => y ∈ bs7) (foldL (ss.take k) ++ ts) xs7 → D v7 C7) →
        appK Try.prog w0 zs8 63 112 (.slice V (foldL (ss.take k)).length cv) (.slice Va ts.length ca) D Cz := by
      intro ts news Va ca D Cz lz hf hn1 ho1 hn2 hst hD
      refine app_rw (w6.trans lz) hf hn1 ho1 (by simp only [maxLen]; omega) (by omega) (fun v7 C7 bs7 hc7 hn7 w7 => hD v7 C7 bs7 _ (hc7.keep (l.trans (lC6.trans lz)) nb) (fun y hy => ?_) (by rw [List.length_append]; exact w7) ?_)
      · rcases hn7 y hy with g | g
        · exact nb y g
        · exact (l.trans (lC6.trans lz)).none g
      · exact (st.le (off_stay (lC6.trans lz) hc7 hn7)).app (hst.le (off_made (l.trans l0) hc7 hbk hn7))
    have next : ∀ (fr' : Fr) (v7 : Value) (C7 : AHeap) (bs7 : List Nat) (xs7 : List Value), AHeap.le H C7 → New H bs7 → Rw C7 63 8 v7 (foldL (ss.take k) ++ foldS ss[k]).length xs7 bs7 → StL ((C7.off H).no fun y => y ∈ bs7) (foldL (ss.take k) ++ foldS ss[k]) xs7 →
        fr' 3 = v7 → fr' 7 = .slice A ss.length c → fr' 8 = .int .i64 ss.length → fr' 9 = .int .i64 ((k + 1 : Nat) : Int) → N fr' C7 := fun fr' v7 C7 bs7 xs7 g1 g2 g3 g4 g5 g6 g7 g8 => hN _ _ _ (.refl _) ⟨v7, xs7, bs7, g1, g2, by rw [hstep]; exact g3, by rw [hstep]; exact g4, g5, g6, g7, g8⟩
    generalize hfe : foldE 5 ss[k].e = e' at *
    have hfe' : fE ss[k].e = e' := hfe
    rw [hfe'] at fo
    by_cases c1 : ss[k].kind = 2 ∧ e'.op = 0 ∧ e'.n ≠ 0
    · have p1 : (ss[k].kind == 2) = true := by simpa using c1.1
      have p2 : (e'.op == 0) = true := by simpa using c1.2.1
      have p3 : (e'.n != 0) = true := by simpa using c1.2.2
      rw [foldOne, if_pos c1] at fo
      repeat' (first | simp -implicitDefEqProofs only [zG1,zG2,zG3,zG4,zG5,zG6,zG7,eq_self,resV,rval,X.val,binv,fillL,setR,↓reduceIte,Nat.reduceEqDiff,Nat.reduceAdd,Nat.reduceMul,Nat.reduceLeDiff,Nat.reduceLT,Nat.reduceSub,reduceCtorEq,zGq, q6, p1, p2, p3, f3, f7, f8, f9, g2])
      refine app (foldL ss[k].body) xs1 V1 e1 _ C6 (.refl _) (F1.le (off_le _ _)) x1l T1.one' (by omega) T1 (fun v7 C7 bs7 xs7 h1 h2 h3 h4 => ?_)
      repeat' (first | simp -implicitDefEqProofs only [zG1,zG2,zG3,zG4,zG5,zG6,zG7,eq_self,resV,rval,X.val,binv,fillL,setR,↓reduceIte,Nat.reduceEqDiff,Nat.reduceAdd,Nat.reduceMul,Nat.reduceLeDiff,Nat.reduceLT,Nat.reduceSub,reduceCtorEq,zGq, f7, f8, f9, g2])
      exact next _ v7 C7 bs7 xs7 h1 h2 (by rw [fo]; exact h3) (by rw [fo]; exact h4) (by first | rfl | (simp only [put_at, ↓reduceIte, Nat.reduceEqDiff]; first | done | rfl | assumption) | simp [put_at, *]) (by first | rfl | (simp only [put_at, ↓reduceIte, Nat.reduceEqDiff]; first | done | rfl | assumption) | simp [put_at, *]) (by first | rfl | (simp only [put_at, ↓reduceIte, Nat.reduceEqDiff]; first | done | rfl | assumption) | simp [put_at, *]) (by first | rfl | (simp only [put_at, ↓reduceIte, Nat.reduceEqDiff]; first | done | rfl | assumption) | simp [put_at, *])
    · by_cases c2 : ss[k].kind = 2 ∧ e'.op = 0
      · have p1 : (ss[k].kind == 2) = true := by simpa using c2.1
        have p2 : (e'.op == 0) = true := by simpa using c2.2
        have p3 : (e'.n != 0) = false := by
          have : e'.n = 0 := Decidable.byContradiction fun e => c1 ⟨c2.1, c2.2, e⟩
          simp [this]
        rw [foldOne, if_neg c1, if_pos c2] at fo
        repeat' (first | simp -implicitDefEqProofs only [zG1,zG2,zG3,zG4,zG5,zG6,zG7,eq_self,resV,rval,X.val,binv,fillL,setR,↓reduceIte,Nat.reduceEqDiff,Nat.reduceAdd,Nat.reduceMul,Nat.reduceLeDiff,Nat.reduceLT,Nat.reduceSub,reduceCtorEq,zGq, q6, p1, p2, p3, f3, f7, f8, f9, g2])
        refine app (foldL ss[k].els) xs2 V2 e2 _ C6 (.refl _) (F2.le (off_le _ _)) x2l T2.one' (by omega) T2 (fun v7 C7 bs7 xs7 h1 h2 h3 h4 => ?_)
        repeat' (first | simp -implicitDefEqProofs only [zG1,zG2,zG3,zG4,zG5,zG6,zG7,eq_self,resV,rval,X.val,binv,fillL,setR,↓reduceIte,Nat.reduceEqDiff,Nat.reduceAdd,Nat.reduceMul,Nat.reduceLeDiff,Nat.reduceLT,Nat.reduceSub,reduceCtorEq,zGq, f7, f8, f9, g2])
        exact next _ v7 C7 bs7 xs7 h1 h2 (by rw [fo]; exact h3) (by rw [fo]; exact h4) (by first | rfl | (simp only [put_at, ↓reduceIte, Nat.reduceEqDiff]; first | done | rfl | assumption) | simp [put_at, *]) (by first | rfl | (simp only [put_at, ↓reduceIte, Nat.reduceEqDiff]; first | done | rfl | assumption) | simp [put_at, *]) (by first | rfl | (simp only [put_at, ↓reduceIte, Nat.reduceEqDiff]; first | done | rfl | assumption) | simp [put_at, *]) (by first | rfl | (simp only [put_at, ↓reduceIte, Nat.reduceEqDiff]; first | done | rfl | assumption) | simp [put_at, *])
      · by_cases c3' : ss[k].kind = 3 ∧ e'.op = 0 ∧ e'.n = 0
        · have p1 : (ss[k].kind == 2) = false := by simp [c3'.1]
          have p2 : (e'.op == 0) = true := by simpa using c3'.2.1
          have p3 : (e'.n == 0) = true := by simpa using c3'.2.2
          have p4 : (ss[k].kind == 3) = true := by simpa using c3'.1
          rw [foldOne, if_neg c1, if_neg c2, if_pos c3'] at fo
          repeat' (first | simp -implicitDefEqProofs only [zG1,zG2,zG3,zG4,zG5,zG6,zG7,eq_self,resV,rval,X.val,binv,fillL,setR,↓reduceIte,Nat.reduceEqDiff,Nat.reduceAdd,Nat.reduceMul,Nat.reduceLeDiff,Nat.reduceLT,Nat.reduceSub,reduceCtorEq,zGq, q6, p1, p2, p3, p4, f3, f7, f8, f9, g2])
          refine next _ _ C6 bs xs (l.trans lC6) nb (by rw [fo, List.append_nil]; exact w6) (by rw [fo, List.append_nil]; exact st.le (off_stay lC6 (Chg.refl _ _) fun y hy => .inl hy)) (by first | rfl | (simp only [put_at, ↓reduceIte, Nat.reduceEqDiff]; first | done | rfl | assumption) | simp [put_at, *]) (by first | rfl | (simp only [put_at, ↓reduceIte, Nat.reduceEqDiff]; first | done | rfl | assumption) | simp [put_at, *]) (by first | rfl | (simp only [put_at, ↓reduceIte, Nat.reduceEqDiff]; first | done | rfl | assumption) | simp [put_at, *]) (by first | rfl | (simp only [put_at, ↓reduceIte, Nat.reduceEqDiff]; first | done | rfl | assumption) | simp [put_at, *])
        · rw [foldOne, if_neg c1, if_neg c2, if_neg c3'] at fo
          have fin : ∀ (z : Nat) (cz : Nat) (oz : Bool) (tz : TypeId) (D : Value → AHeap → Prop), C6 z = none → (∀ v7 C7 bs7 xs7, AHeap.le H C7 → New H bs7 → Rw C7 63 8 v7 (foldL (ss.take k) ++ foldS ss[k]).length xs7 bs7 → StL ((C7.off H).no fun y => y ∈ bs7) (foldL (ss.take k) ++ foldS ss[k]) xs7 → D v7 C7) →
              appK Try.prog w0 zs8 63 112 (.slice V (foldL (ss.take k)).length cv) (.slice (some ⟨z, 0, none⟩) 1 1) D (C6.set z ⟨[.int .i64 ss[k].kind, .int .i64 ss[k].var, .int .i64 ss[k].box, .int .i64 e'.op, .int .i64 e'.n, .slice A3 e'.args.length c3, .slice V1 (foldL ss[k].body).length e1, .slice V2 (foldL ss[k].els).length e2], oz, tz, cz⟩) := by
            intro z cz oz tz D hz hD
            have lz := (AHeap.le.refl C6).fresh hz ⟨[.int .i64 ss[k].kind, .int .i64 ss[k].var, .int .i64 ss[k].box, .int .i64 e'.op, .int .i64 e'.n, .slice A3 e'.args.length c3, .slice V1 (foldL ss[k].body).length e1, .slice V2 (foldL ss[k].els).length e2], oz, tz, cz⟩
            have mz := off_more (H := C0) lz
            obtain ⟨_, _, he, hml, xr⟩ := (E3.le mz).open_
            simp only [List.cons.injEq, and_true, Value.slice.injEq, true_and] at he
            obtain ⟨rfl, rfl⟩ := he
            have hv : StV ((C6.set z ⟨[.int .i64 ss[k].kind, .int .i64 ss[k].var, .int .i64 ss[k].box, .int .i64 e'.op, .int .i64 e'.n, .slice A3 e'.args.length c3, .slice V1 (foldL ss[k].body).length e1, .slice V2 (foldL ss[k].els).length e2], oz, tz, cz⟩).off C0) (.mk ss[k].kind ss[k].var ss[k].box e' (foldL ss[k].body) (foldL ss[k].els))
                [.int .i64 ss[k].kind, .int .i64 ss[k].var, .int .i64 ss[k].box, .int .i64 e'.op, .int .i64 e'.n, .slice A3 e'.args.length c3, .slice V1 (foldL ss[k].body).length e1, .slice V2 (foldL ss[k].els).length e2] := by
              simp only [StV]
              exact ⟨_, _, _, _, _, _, rfl, hml, xr, ⟨hb1', (T1.le mz).str (F1.le mz)⟩, hl1', (T2.le mz).str (F2.le mz)⟩
            refine app [.mk ss[k].kind ss[k].var ss[k].box e' (foldL ss[k].body) (foldL ss[k].els)] _ (some ⟨z, 0, none⟩) 1 D _ lz (Fl.blk _ _ _ _ fun _ _ h => h) rfl (StL.one hv).one' (by simp) (StL.one hv) (by rw [fo] at hD; exact hD)
          cases p2 : (e'.op == 0) with
          | false =>
            cases p1 : (ss[k].kind == 2) with
            | true =>
              have p4 : (ss[k].kind == 3) = false := by simp at p1; simp [p1]
              repeat' (first | simp -implicitDefEqProofs only [zG1,zG2,zG3,zG4,zG5,zG6,zG7,eq_self,resV,rval,X.val,binv,fillL,setR,↓reduceIte,Nat.reduceEqDiff,Nat.reduceAdd,Nat.reduceMul,Nat.reduceLeDiff,Nat.reduceLT,Nat.reduceSub,reduceCtorEq,zGq, q6, p1, p2, p4, f3, f7, f8, f9, g2] | (with_reducible refine rows_intro (fun z hz => ?_)) | (with_reducible refine fin _ _ _ _ _ hz (fun v7 C7 bs7 xs7 h1 h2 h3 h4 => ?_)))
              exact next _ v7 C7 bs7 xs7 h1 h2 h3 h4 (by first | rfl | (simp only [put_at, ↓reduceIte, Nat.reduceEqDiff]; first | done | rfl | assumption) | simp [put_at, *]) (by first | rfl | (simp only [put_at, ↓reduceIte, Nat.reduceEqDiff]; first | done | rfl | assumption) | simp [put_at, *]) (by first | rfl | (simp only [put_at, ↓reduceIte, Nat.reduceEqDiff]; first | done | rfl | assumption) | simp [put_at, *]) (by first | rfl | (simp only [put_at, ↓reduceIte, Nat.reduceEqDiff]; first | done | rfl | assumption) | simp [put_at, *])
            | false =>
              cases p4 : (ss[k].kind == 3) with
              | true =>
                repeat' (first | simp -implicitDefEqProofs only [zG1,zG2,zG3,zG4,zG5,zG6,zG7,eq_self,resV,rval,X.val,binv,fillL,setR,↓reduceIte,Nat.reduceEqDiff,Nat.reduceAdd,Nat.reduceMul,Nat.reduceLeDiff,Nat.reduceLT,Nat.reduceSub,reduceCtorEq,zGq, q6, p1, p2, p4, f3, f7, f8, f9, g2] | (with_reducible refine rows_intro (fun z hz => ?_)) | (with_reducible refine fin _ _ _ _ _ hz (fun v7 C7 bs7 xs7 h1 h2 h3 h4 => ?_)))
                exact next _ v7 C7 bs7 xs7 h1 h2 h3 h4 (by first | rfl | (simp only [put_at, ↓reduceIte, Nat.reduceEqDiff]; first | done | rfl | assumption) | simp [put_at, *]) (by first | rfl | (simp only [put_at, ↓reduceIte, Nat.reduceEqDiff]; first | done | rfl | assumption) | simp [put_at, *]) (by first | rfl | (simp only [put_at, ↓reduceIte, Nat.reduceEqDiff]; first | done | rfl | assumption) | simp [put_at, *]) (by first | rfl | (simp only [put_at, ↓reduceIte, Nat.reduceEqDiff]; first | done | rfl | assumption) | simp [put_at, *])
              | false =>
                repeat' (first | simp -implicitDefEqProofs only [zG1,zG2,zG3,zG4,zG5,zG6,zG7,eq_self,resV,rval,X.val,binv,fillL,setR,↓reduceIte,Nat.reduceEqDiff,Nat.reduceAdd,Nat.reduceMul,Nat.reduceLeDiff,Nat.reduceLT,Nat.reduceSub,reduceCtorEq,zGq, q6, p1, p2, p4, f3, f7, f8, f9, g2] | (with_reducible refine rows_intro (fun z hz => ?_)) | (with_reducible refine fin _ _ _ _ _ hz (fun v7 C7 bs7 xs7 h1 h2 h3 h4 => ?_)))
                exact next _ v7 C7 bs7 xs7 h1 h2 h3 h4 (by first | rfl | (simp only [put_at, ↓reduceIte, Nat.reduceEqDiff]; first | done | rfl | assumption) | simp [put_at, *]) (by first | rfl | (simp only [put_at, ↓reduceIte, Nat.reduceEqDiff]; first | done | rfl | assumption) | simp [put_at, *]) (by first | rfl | (simp only [put_at, ↓reduceIte, Nat.reduceEqDiff]; first | done | rfl | assumption) | simp [put_at, *]) (by first | rfl | (simp only [put_at, ↓reduceIte, Nat.reduceEqDiff]; first | done | rfl | assumption) | simp [put_at, *])
          | true =>
            have p1 : (ss[k].kind == 2) = false := by
              simp only [beq_eq_false_iff_ne, ne_eq]
              exact fun e => c2 ⟨e, by simpa using p2⟩
            cases p4 : (ss[k].kind == 3) with
            | true =>
              have p3 : (e'.n == 0) = false := by
                simp only [beq_eq_false_iff_ne, ne_eq]
                exact fun e => c3' ⟨by simpa using p4, by simpa using p2, e⟩
              repeat' (first | simp -implicitDefEqProofs only [zG1,zG2,zG3,zG4,zG5,zG6,zG7,eq_self,resV,rval,X.val,binv,fillL,setR,↓reduceIte,Nat.reduceEqDiff,Nat.reduceAdd,Nat.reduceMul,Nat.reduceLeDiff,Nat.reduceLT,Nat.reduceSub,reduceCtorEq,zGq, q6, p1, p2, p3, p4, f3, f7, f8, f9, g2] | (with_reducible refine rows_intro (fun z hz => ?_)) | (with_reducible refine fin _ _ _ _ _ hz (fun v7 C7 bs7 xs7 h1 h2 h3 h4 => ?_)))
              exact next _ v7 C7 bs7 xs7 h1 h2 h3 h4 (by first | rfl | (simp only [put_at, ↓reduceIte, Nat.reduceEqDiff]; first | done | rfl | assumption) | simp [put_at, *]) (by first | rfl | (simp only [put_at, ↓reduceIte, Nat.reduceEqDiff]; first | done | rfl | assumption) | simp [put_at, *]) (by first | rfl | (simp only [put_at, ↓reduceIte, Nat.reduceEqDiff]; first | done | rfl | assumption) | simp [put_at, *]) (by first | rfl | (simp only [put_at, ↓reduceIte, Nat.reduceEqDiff]; first | done | rfl | assumption) | simp [put_at, *])
            | false =>
              repeat' (first | simp -implicitDefEqProofs only [zG1,zG2,zG3,zG4,zG5,zG6,zG7,eq_self,resV,rval,X.val,binv,fillL,setR,↓reduceIte,Nat.reduceEqDiff,Nat.reduceAdd,Nat.reduceMul,Nat.reduceLeDiff,Nat.reduceLT,Nat.reduceSub,reduceCtorEq,zGq, q6, p1, p2, p4, f3, f7, f8, f9, g2] | (with_reducible refine rows_intro (fun z hz => ?_)) | (with_reducible refine fin _ _ _ _ _ hz (fun v7 C7 bs7 xs7 h1 h2 h3 h4 => ?_)))
              exact next _ v7 C7 bs7 xs7 h1 h2 h3 h4 (by first | rfl | (simp only [put_at, ↓reduceIte, Nat.reduceEqDiff]; first | done | rfl | assumption) | simp [put_at, *]) (by first | rfl | (simp only [put_at, ↓reduceIte, Nat.reduceEqDiff]; first | done | rfl | assumption) | simp [put_at, *]) (by first | rfl | (simp only [put_at, ↓reduceIte, Nat.reduceEqDiff]; first | done | rfl | assumption) | simp [put_at, *]) (by first | rfl | (simp only [put_at, ↓reduceIte, Nat.reduceEqDiff]; first | done | rfl | assumption) | simp [put_at, *])
  · rintro fr C ⟨v, xs, bs, l, nb, w, st, f3, f7, f8, f9⟩ N
    have g0 : decide ((ss.length : Int) < (ss.length : Int)) = false := by simp
    rw [List.take_length] at w st
    repeat' (first | simp -implicitDefEqProofs only [zG1,zG2,zG3,zG4,zG5,zG6,zG7,eq_self,resV,rval,X.val,binv,fillL,setR,↓reduceIte,Nat.reduceEqDiff,Nat.reduceAdd,Nat.reduceMul,Nat.reduceLeDiff,Nat.reduceLT,Nat.reduceSub,reduceCtorEq,zGq, f3, f7, f8, f9, g0] | ((with_reducible refine rows_intro (fun _ hb => ?_)); try simp only [set_none, ne_eq] at hb) | ((with_reducible refine new_intro (fun _ hb => ?_)); try simp only [set_none, ne_eq] at hb) | (with_reducible refine draw_same ?_) | ((with_reducible refine gd_split ?_ (fun _ => ?_) (fun _ => ?_)); exact rfl) | ((with_reducible refine td_split ?_ (fun _ => ?_) (fun _ => ?_)); exact rfl) | (with_reducible refine c_split (fun _ => ?_) (fun _ => ?_)))
    exact ret_same (h _ _ _ _ l nb w st)
mutual
theorem fsS_ok : ∀ s : St, FsT w0 s.body ∧ FsT w0 s.els
  | .mk _ _ _ _ body els => ⟨fsT_of w0 body (fsL_ok body), fsT_of w0 els (fsL_ok els)⟩
theorem fsL_ok : ∀ ss : List St, ∀ s ∈ ss, FsT w0 s.body ∧ FsT w0 s.els
  | [], s, hs => by cases hs
  | t :: ts, s, hs => by
    rcases List.mem_cons.1 hs with h | h
    · rw [h]; exact fsS_ok t
    · exact fsL_ok ts s h
end
theorem stmtsFold_ok (ss : List St) : FsT w0 ss := fsT_of w0 ss (fsL_ok w0 ss)
theorem stmtsFoldT_ok (ss : List St) (A : Option Addr) (c : Nat) (H : AHeap) (K : Value → AHeap → Prop) (ho : stsOk ss = true) (hR : StR H ss A 0)
    (h : ∀ v C, AHeap.le H C → ∀ A' c', v = .slice A' (foldL ss).length c' → StR C (foldL ss) A' 0 → K (.tuple #[v, .bool true]) C) : ACalls Try.prog w0 25 [.slice A ss.length c] H K := by
  have ho' := ho
  simp only [stsOk, Bool.and_eq_true, decide_eq_true_eq] at ho'
  refine acalls_of_sx mix Try.func25 of25 (by simp [ir25]) ?_; rw [ir25]; (try delta qT qI qC qO qM qG)
  repeat' (first | simp -implicitDefEqProofs only [zG1,zG2,zG3,zG4,zG5,zG6,zG7,eq_self,resV,rval,X.val,binv,fillL,setR,↓reduceIte,Nat.reduceEqDiff,Nat.reduceAdd,Nat.reduceMul,Nat.reduceLeDiff,Nat.reduceLT,Nat.reduceSub,reduceCtorEq,zGq, ho] | ((with_reducible refine rows_intro (fun _ hb => ?_)); try simp only [set_none, ne_eq] at hb) | ((with_reducible refine new_intro (fun _ hb => ?_)); try simp only [set_none, ne_eq] at hb) | (with_reducible refine draw_same ?_) | ((with_reducible refine gd_split ?_ (fun _ => ?_) (fun _ => ?_)); exact rfl) | ((with_reducible refine td_split ?_ (fun _ => ?_) (fun _ => ?_)); exact rfl) | (with_reducible refine c_split (fun _ => ?_) (fun _ => ?_)) | (with_reducible refine stmtsValid_ok _ ss A c _ _ (by omega) hR ?_))
  refine stmtsFold_ok w0 ss 3 A c H _ ho'.1 (by omega) hR (fun v xs bs C l nb w st => ?_)
  obtain ⟨A', c', rfl, f⟩ := w.fl
  repeat' (first | simp -implicitDefEqProofs only [zG1,zG2,zG3,zG4,zG5,zG6,zG7,eq_self,resV,rval,X.val,binv,fillL,setR,↓reduceIte,Nat.reduceEqDiff,Nat.reduceAdd,Nat.reduceMul,Nat.reduceLeDiff,Nat.reduceLT,Nat.reduceSub,reduceCtorEq,zGq] | ((with_reducible refine rows_intro (fun _ hb => ?_)); try simp only [set_none, ne_eq] at hb) | ((with_reducible refine new_intro (fun _ hb => ?_)); try simp only [set_none, ne_eq] at hb) | (with_reducible refine draw_same ?_) | ((with_reducible refine gd_split ?_ (fun _ => ?_) (fun _ => ?_)); exact rfl) | ((with_reducible refine td_split ?_ (fun _ => ?_) (fun _ => ?_)); exact rfl) | (with_reducible refine c_split (fun _ => ?_) (fun _ => ?_)))
  exact ret_same (h _ _ l A' c' rfl ((st.le ((no_le _ _).trans (off_le _ _))).str f))
end Go.Proofs.Ytjhedgoafkabiaa
namespace Go.Proofs.Ytjhedgoafkabiaa
set_option linter.all false
open Go Go.RowKit
set_option maxRecDepth 100000
variable (w0 : World)
theorem StR.take {H : AHeap} : ∀ {ss : List St} {A : Option Addr} {i : Nat} (k : Nat), StR H ss A i → StR H (ss.take k) A i
  | [], _, _, _, _ => by simp [StR]
  | _ :: _, _, _, 0, _ => by simp [StR]
  | s :: ss, A, i, k + 1, h => by
    simp only [List.take_succ_cons, StR] at h ⊢
    exact ⟨h.1, h.2.take k⟩
theorem StR.drop {H : AHeap} : ∀ {ss : List St} {A : Option Addr} {i : Nat} (k : Nat), StR H ss A i → StR H (ss.drop k) A (i + k)
  | [], _, _, _, _ => by simp [StR]
  | _ :: _, _, _, 0, h => h
  | s :: ss, A, i, k + 1, h => by
    simp only [List.drop_succ_cons, StR] at h ⊢
    have := h.2.drop k
    rw [show i + 1 + k = i + (k + 1) by omega] at this
    exact this
end Go.Proofs.Ytjhedgoafkabiaa
namespace Go.Proofs.Ytjhedgoafkabiaa
set_option linter.all false
open Go Go.RowKit
def shQ (b : Nat) (q : Qd) : Qd := if q.op = 4 ∨ q.op = 5 then ⟨q.op, q.dst, q.a, q.b, q.n + b⟩ else q
theorem Fl.post {H : AHeap} {A : Option Addr} {xs ys : List Value} (h : Fl H A (xs ++ ys)) : Fl H (adr A xs.length) ys := fun j v hv => by
  rw [adr_adr]
  exact h _ v (by rw [List.getElem?_append_right (by omega), Nat.add_sub_cancel_left]; exact hv)
/-- The first quads moved, the others not yet. -/
def part (B : Nat) (X : List Qd) (i : Nat) : List Qd := (X.take i).map (shQ B) ++ X.drop i
end Go.Proofs.Ytjhedgoafkabiaa
namespace Go.Proofs.Ytjhedgoafkabiaa
set_option linter.all false
open Go Go.RowKit Go.Joins Go.ChangeShapes Go.WideShapes Go.ChangeAt Go.Deep
set_option linter.unusedVariables false
set_option maxRecDepth 100000
theorem lawCompileFold_ok (w0 : World) (H : AHeap) (K : Value → AHeap → Prop) (A : Option Addr) (n c : Nat) (zs : List Int) (hF : Fl H A (u8s zs)) (hr : ∀ z ∈ zs, 0 ≤ z ∧ z < 256) (hl : zs.length = n) (hc : n ≤ c) (h : ∀ H', K (.bool true) H') :
    ACalls Try.prog w0 11 [.slice A n c] H K := by
  refine acalls_of_sx mix Try.func11 of11 (by simp [ir11]) ?_; rw [ir11]; (try delta qT qI qC qO qM qG)
  repeat' (first | simp -implicitDefEqProofs only [zG1,zG2,zG3,zG4,zG5,zG6,zG7,eq_self,resV,rval,X.val,binv,fillL,setR,↓reduceIte,Nat.reduceEqDiff,Nat.reduceAdd,Nat.reduceMul,Nat.reduceLeDiff,Nat.reduceLT,Nat.reduceSub,reduceCtorEq,zGq] | ((with_reducible refine rows_intro (fun _ hb => ?_)); try simp only [set_none, ne_eq] at hb) | ((with_reducible refine new_intro (fun _ hb => ?_)); try simp only [set_none, ne_eq] at hb) | (with_reducible refine draw_same ?_) | ((with_reducible refine gd_split ?_ (fun _ => ?_) (fun _ => ?_)); exact rfl) | ((with_reducible refine td_split ?_ (fun _ => ?_) (fun _ => ?_)); exact rfl) | (with_reducible refine c_split (fun _ => ?_) (fun _ => ?_)))
  · exact ret_same (h _)
  refine drawCompileTask_ok _ _ _ A n c zs hF hr hl hc (fun ss A1 c1 C hR hcn hlc => ?_)
  obtain ⟨hln, hcap⟩ := hlc
  repeat' (first | simp -implicitDefEqProofs only [zG1,zG2,zG3,zG4,zG5,zG6,zG7,eq_self,resV,rval,X.val,binv,fillL,setR,↓reduceIte,Nat.reduceEqDiff,Nat.reduceAdd,Nat.reduceMul,Nat.reduceLeDiff,Nat.reduceLT,Nat.reduceSub,reduceCtorEq,zGq] | ((with_reducible refine rows_intro (fun _ hb => ?_)); try simp only [set_none, ne_eq] at hb) | ((with_reducible refine new_intro (fun _ hb => ?_)); try simp only [set_none, ne_eq] at hb) | (with_reducible refine draw_same ?_) | ((with_reducible refine gd_split ?_ (fun _ => ?_) (fun _ => ?_)); exact rfl) | ((with_reducible refine td_split ?_ (fun _ => ?_) (fun _ => ?_)); exact rfl) | (with_reducible refine c_split (fun _ => ?_) (fun _ => ?_)))
  refine compileTask_ok _ ss A1 c1 C _ (by omega) hR (fun v1 C1 r1 => ?_)
  have l1 := r1.hle
  obtain ⟨A2, c2, rfl, f1⟩ := r1.fl
  repeat' (first | simp -implicitDefEqProofs only [zG1,zG2,zG3,zG4,zG5,zG6,zG7,eq_self,resV,rval,X.val,binv,fillL,setR,↓reduceIte,Nat.reduceEqDiff,Nat.reduceAdd,Nat.reduceMul,Nat.reduceLeDiff,Nat.reduceLT,Nat.reduceSub,reduceCtorEq,zGq] | ((with_reducible refine rows_intro (fun _ hb => ?_)); try simp only [set_none, ne_eq] at hb) | ((with_reducible refine new_intro (fun _ hb => ?_)); try simp only [set_none, ne_eq] at hb) | (with_reducible refine draw_same ?_) | ((with_reducible refine gd_split ?_ (fun _ => ?_) (fun _ => ?_)); exact rfl) | ((with_reducible refine td_split ?_ (fun _ => ?_) (fun _ => ?_)); exact rfl) | (with_reducible refine c_split (fun _ => ?_) (fun _ => ?_)))
  refine compileTaskS_ok _ ss A1 c1 C1 _ (by omega) (hR.le l1) (fun v2 C2 r2 => ?_)
  have l2 := r2.hle
  obtain ⟨A3, c3, rfl, f2⟩ := r2.fl
  have f1' := f1.le l2
  have hR2 := hR.le (l1.trans l2)
  have hle := compileTask_le ss
  cases ho : stsOk ss with
  | false =>
    have e : compileTask ss = [] := by simp [compileTask, ho]
    rw [e] at f1' f2
    repeat' (first | simp -implicitDefEqProofs only [zG1,zG2,zG3,zG4,zG5,zG6,zG7,eq_self,resV,rval,X.val,binv,fillL,setR,↓reduceIte,Nat.reduceEqDiff,Nat.reduceAdd,Nat.reduceMul,Nat.reduceLeDiff,Nat.reduceLT,Nat.reduceSub,reduceCtorEq,zGq, e, bne_self_eq_false, beq_self_eq_true, decide_true, List.length_nil] | ((with_reducible refine rows_intro (fun _ hb => ?_)); try simp only [set_none, ne_eq] at hb) | ((with_reducible refine new_intro (fun _ hb => ?_)); try simp only [set_none, ne_eq] at hb) | (with_reducible refine draw_same ?_) | ((with_reducible refine gd_split ?_ (fun _ => ?_) (fun _ => ?_)); exact rfl) | ((with_reducible refine td_split ?_ (fun _ => ?_) (fun _ => ?_)); exact rfl) | (with_reducible refine c_split (fun _ => ?_) (fun _ => ?_)) | (refine sameCode_ok _ _ _ A2 A3 c2 c3 [] [] f1' f2 (by simp) ?_))
    exact ret_same (h _)
  | true =>
    have e : compileTask ss = compTask ss := by simp [compileTask, ho]
    rw [e] at f1' f2 hle
    have hv := compTask_valid ho
    have hlen := compTask_len ss
    repeat' (first | simp -implicitDefEqProofs only [zG1,zG2,zG3,zG4,zG5,zG6,zG7,eq_self,resV,rval,X.val,binv,fillL,setR,↓reduceIte,Nat.reduceEqDiff,Nat.reduceAdd,Nat.reduceMul,Nat.reduceLeDiff,Nat.reduceLT,Nat.reduceSub,reduceCtorEq,zGq, e, bne_self_eq_false, beq_self_eq_true, decide_true] | ((with_reducible refine rows_intro (fun _ hb => ?_)); try simp only [set_none, ne_eq] at hb) | ((with_reducible refine new_intro (fun _ hb => ?_)); try simp only [set_none, ne_eq] at hb) | (with_reducible refine draw_same ?_) | ((with_reducible refine gd_split ?_ (fun _ => ?_) (fun _ => ?_)); exact rfl) | ((with_reducible refine td_split ?_ (fun _ => ?_) (fun _ => ?_)); exact rfl) | (with_reducible refine c_split (fun _ => ?_) (fun _ => ?_)) | (with_reducible refine sameCode_ok _ _ _ A2 A3 c2 c3 _ _ f1' f2 (by omega) ?_))
    obtain ⟨fo1, fo2, fo3⟩ := fold_ok ho
    have hall := (stsOk_at ho).1
    refine stmtsFoldT_ok _ ss A1 c1 C2 _ ho hR2 (fun v3 C3 l3 A5 c5 hv5 hR5 => ?_)
    subst hv5
    repeat' (first | simp -implicitDefEqProofs only [zG1,zG2,zG3,zG4,zG5,zG6,zG7,eq_self,resV,rval,X.val,binv,fillL,setR,↓reduceIte,Nat.reduceEqDiff,Nat.reduceAdd,Nat.reduceMul,Nat.reduceLeDiff,Nat.reduceLT,Nat.reduceSub,reduceCtorEq,zGq] | ((with_reducible refine rows_intro (fun _ hb => ?_)); try simp only [set_none, ne_eq] at hb) | ((with_reducible refine new_intro (fun _ hb => ?_)); try simp only [set_none, ne_eq] at hb) | (with_reducible refine draw_same ?_) | ((with_reducible refine gd_split ?_ (fun _ => ?_) (fun _ => ?_)); exact rfl) | ((with_reducible refine td_split ?_ (fun _ => ?_) (fun _ => ?_)); exact rfl) | (with_reducible refine c_split (fun _ => ?_) (fun _ => ?_)))
    refine compileTask_ok _ (foldL ss) A5 c5 C3 _ (by omega) hR5 (fun v6 C6 r6 => ?_)
    have e6 : compileTask (foldL ss) = compTask (foldL ss) := by simp [compileTask, fo1]
    rw [e6] at r6
    obtain ⟨A6, c6, rfl, f6⟩ := r6.fl
    have hl6 := compTask_len (foldL ss)
    have gl : decide (((compTask (foldL ss)).length : Int) ≤ ((compTask ss).length : Int)) = true := by simp; omega
    repeat' (first | simp -implicitDefEqProofs only [zG1,zG2,zG3,zG4,zG5,zG6,zG7,eq_self,resV,rval,X.val,binv,fillL,setR,↓reduceIte,Nat.reduceEqDiff,Nat.reduceAdd,Nat.reduceMul,Nat.reduceLeDiff,Nat.reduceLT,Nat.reduceSub,reduceCtorEq,zGq, fo1, gl] | ((with_reducible refine rows_intro (fun _ hb => ?_)); try simp only [set_none, ne_eq] at hb) | ((with_reducible refine new_intro (fun _ hb => ?_)); try simp only [set_none, ne_eq] at hb) | (with_reducible refine draw_same ?_) | ((with_reducible refine gd_split ?_ (fun _ => ?_) (fun _ => ?_)); exact rfl) | ((with_reducible refine td_split ?_ (fun _ => ?_) (fun _ => ?_)); exact rfl) | (with_reducible refine c_split (fun _ => ?_) (fun _ => ?_)))
    exact ret_same (h _)
namespace fnCompileFold
theorem lifted (os : Os) (started : os.Started) (H : Type) (enc : TypeId × Value → H) :
    ReturnsInHanded {} Try.checked os 11 .any (Rows.fnCompileFoldSpec.pre6 enc Try.prog Try.f11 Rows.fnCompileFoldRow.domain false) (Rows.fnCompileFoldSpec.post enc Try.prog Try.f11 false true false false) := by
  refine returnsInHanded_of_change_sized (C := Try.checked) own started (by kernel_rfl) Try.func11
    (ChangeSpec.witness6 (enc := enc) (C := Try.checked) false ⟨#[], #[.slice none 0 0], []⟩ 8 (by kernel_rfl) (by kernel_rfl) (by kernel_rfl) (by kernel_rfl)) ?_
  intro W base args ds gs before hval0 hW hcnd hsz0 _
  have hval : ∀ (j : Nat) t v, Try.f11.params[j]? = some t → args[j]? = some v → Value.okWide Try.prog W .any base t v := hval0
  have hW' := hW
  obtain ⟨p, q, hA0, hV, rfl, hfz, hnd⟩ := hW
  have hA : DataW.TrodAll enc Try.prog W 0 (fun _ => true) true Try.f11.params.toList args.toList ds p := hA0
  rw [Try.params11] at hA hval
  obtain ⟨v0, vs0, d0, ds0, p0, q0, hargs, rfl, rfl, h0, r0⟩ := trodAll_cons hA
  obtain ⟨rfl, rfl, rfl⟩ := trodAll_nil r0
  obtain rfl : args = #[v0] := by cases args; simp_all
  obtain ⟨rfl, rfl⟩ := trodVars_none hV
  have k0 := h0
  have lt0 : ∀ x ∈ p0, x.block < W.heap.size := by obtain ⟨m, hm⟩ := k0; exact DataW.trod_lt m _ _ _ hm
  obtain ⟨a0, len0, cap0, rfl⟩ := okWide_slice Try.underlying22 (hval 0 22 v0 rfl rfl)
  obtain ⟨z0, hl0, hb0, f0⟩ := open_bytes Try.underlying22 Try.underlying5 (by kernel_rfl) h0
  subst hl0
  refine (calls_true (lawCompileFold_ok W (heapOf W) _ a0 z0.length cap0 z0 f0 hb0.2.2 rfl hb0.1 (fun _ => rfl)) (sat_heap W)).mono fun e W' ⟨he, bel⟩ => ?_
  subst he
  exact ⟨_, rfl, _, _, _, [], _, [], hW', trodAll_mk1 (shut_bool Try.underlying4 _), (trodAll_cons_mk (Below.trod laidOut (by kernel_rfl) (of_decide_eq_true (by kernel_rfl)) k0 bel lt0) trodAll_mk0), rfl, bel.frame _, fun h => by cases h⟩
theorem over : Rows.fnCompileFoldRow.holds Try.pinned (OpenSpec.ofChange Rows.fnCompileFoldSpec) :=
  OpenClaim.holds_of_wide 11 Try.f11 rfl rfl rfl rfl rfl rfl rfl ⟨rfl, rfl, rfl, rfl, rfl⟩ rfl rfl rfl rfl rfl (by kernel_rfl) Try.func11 (by kernel_rfl)
    (of_decide_eq_true (by kernel_rfl)) (by unfold Func.isWrapper; first | (rw [if_pos (by decide +kernel)]; kernel_rfl) | (rw [if_neg (by decide +kernel)]; exact ⟨rfl, rfl⟩))
    (fun os started H enc _ => lifted os started H enc)
end fnCompileFold
theorem fnCompileFold_holds : Rows.FnCompileFoldSaid := fnCompileFold.over
#print axioms fnCompileFold_holds
end Go.Proofs.Ytjhedgoafkabiaa
