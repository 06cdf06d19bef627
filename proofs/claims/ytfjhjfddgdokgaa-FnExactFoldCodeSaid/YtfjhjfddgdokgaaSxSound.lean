/- What a small instruction yields, the model's operation yields. -/
import Derived.Test.YtfjhjfddgdokgaaSxVal
namespace Go.Proofs.Ytfjhjfddgdokgaa
set_option linter.all false
open Go Go.RowKit
set_option linter.unusedSimpArgs false
section
variable {P : Program} {w0 w : World} {H : AHeap} {ρ : Operand → Value}

theorem bin_sound {op : BinOp} {t : TypeId} {x y : Operand} {v : Value} (h : (X.bin op x y).val ρ H = some v) :
    (do eqGuard op t x y (ρ x) (ρ y); binOp op t (ρ x) (ρ y) : Sem Value).run P w = .ok v w := by
  simp only [X.val] at h
  generalize ρ x = a at h ⊢
  generalize ρ y = b at h ⊢
  cases a <;> cases b <;> first | (cases h; done) | skip
  rename_i k m k' n
  simp only [eqGuard_at_int, Sem.run_bind, Sem.run_pure, Result.andThen_ok]
  cases op <;> simp only [binv] at h <;> first
    | (split at h
       · rename_i hk
         subst hk
         first
         | (obtain rfl := Option.some.inj h
            simp [go_sem, Op.intArith])
         | (split at h
            · cases h
            · rename_i hb
              obtain rfl := Option.some.inj h
              simp [go_sem, Op.intDiv, hb])
       · cases h)
    | (split at h
       · cases h
       · rename_i hb
         obtain rfl := Option.some.inj h
         have : ¬ n < 0 := hb
         simp [binOp, Op.shift, this, Nat.min_def, Nat.min]
         try rfl)

theorem equal_bool {t : TypeId} (ht : P.underlying t = some .bool) (a b : Bool) (d : Nat) : (Op.equalIn (d + 1) t (.bool a) (.bool b)).run P w = .ok (a == b) w := by
  simp only [Op.equalIn, Sem.run_bind, run_underlying ht, Result.andThen_ok, Sem.run_pure]
theorem eqb_sound {ng : Bool} {t : TypeId} {x y : Operand} {v : Value} (ht : P.underlying t = some .bool) (h : (X.eqb ng x y).val ρ H = some v) :
    (do eqGuard (if ng then .neq else .eql) t x y (ρ x) (ρ y); binOp (if ng then .neq else .eql) t (ρ x) (ρ y) : Sem Value).run P w = .ok v w := by
  simp only [X.val] at h
  generalize ρ x = a at h ⊢
  generalize ρ y = b at h ⊢
  cases a <;> cases b <;> first | (cases h; done) | skip
  rename_i p q
  obtain rfl := Option.some.inj h
  have he : ∀ (d : Nat), (Op.equalIn (d + 1) t (.bool p) (.bool q)).run P w = .ok (p == q) w := equal_bool ht p q
  have he' : (Op.equal t (.bool p) (.bool q)).run P w = .ok (p == q) w := he 9999
  cases ng
  · simp only [eqGuard_at_bool, Sem.run_bind, Sem.run_pure, Result.andThen_ok, Bool.false_eq_true, if_false, binOp, he']
  · simp only [eqGuard_at_bool, Sem.run_bind, Sem.run_pure, Result.andThen_ok, if_true, binOp, he']
    rfl

theorem equal_slice {t e : TypeId} (ht : P.underlying t = some (.slice e)) (b : Option Addr) (n c n' c' d : Nat) : (Op.equalIn (d + 1) t (.slice none n c) (.slice b n' c')).run P w = .ok b.isNone w := by
  simp only [Op.equalIn, Sem.run_bind, run_underlying ht, Result.andThen_ok, Sem.run_pure]
theorem equal_slice' {t e : TypeId} (ht : P.underlying t = some (.slice e)) (a : Addr) (n c n' c' d : Nat) : (Op.equalIn (d + 1) t (.slice (some a) n c) (.slice none n' c')).run P w = .ok false w := by
  simp only [Op.equalIn, Sem.run_bind, run_underlying ht, Result.andThen_ok, Sem.run_pure]
theorem nils_sound {ng : Bool} {t e : TypeId} {x y : Operand} {v : Value} (ht : P.underlying t = some (.slice e)) (h : (X.nils ng x y).val ρ H = some v) :
    (do eqGuard (if ng then .neq else .eql) t x y (ρ x) (ρ y); binOp (if ng then .neq else .eql) t (ρ x) (ρ y) : Sem Value).run P w = .ok v w := by
  simp only [X.val] at h
  generalize ρ x = a at h ⊢
  generalize ρ y = b at h ⊢
  split at h
  · rename_i n c b n' c'
    obtain rfl := Option.some.inj h
    have he' : (Op.equal t (.slice none n c) (.slice b n' c')).run P w = .ok b.isNone w := equal_slice ht b n c n' c' 9999
    cases ng
    · simp only [eqGuard_at_slice, Sem.run_bind, Sem.run_pure, Result.andThen_ok, Bool.false_eq_true, if_false, binOp, he']
      cases b <;> rfl
    · simp only [eqGuard_at_slice, Sem.run_bind, Sem.run_pure, Result.andThen_ok, if_true, binOp, he']
      cases b <;> rfl
  · rename_i a n c n' c'
    obtain rfl := Option.some.inj h
    have he' : (Op.equal t (.slice (some a) n c) (.slice none n' c')).run P w = .ok false w := equal_slice' ht a n c n' c' 9999
    cases ng
    · simp only [eqGuard_at_slice, Sem.run_bind, Sem.run_pure, Result.andThen_ok, Bool.false_eq_true, if_false, binOp, he']
    · simp only [eqGuard_at_slice, Sem.run_bind, Sem.run_pure, Result.andThen_ok, if_true, binOp, he']
      rfl
  · cases h
theorem mapM_length {α β : Type} {f : α → Option β} : ∀ {l : List α} {r : List β}, l.mapM f = some r → r.length = l.length
  | [], r, h => by simp at h; subst h; rfl
  | a :: l, r, h => by
    simp only [List.mapM_cons, Option.bind_eq_bind, Option.bind_eq_some_iff] at h
    obtain ⟨b, _, r', hr, h⟩ := h
    obtain rfl := Option.some.inj h
    simp [mapM_length hr]
theorem mapM_at {α β : Type} {f : α → Option β} : ∀ {l : List α} {r : List β}, l.mapM f = some r → ∀ (i : Nat) (a : α) (b : β), l[i]? = some a → r[i]? = some b → f a = some b
  | [], r, h => by simp
  | a :: l, r, h => by
    simp only [List.mapM_cons, Option.bind_eq_bind, Option.bind_eq_some_iff] at h
    obtain ⟨b, hb, r', hr, h⟩ := h
    obtain rfl := Option.some.inj h
    intro i x y hx hy
    cases i with
    | zero => simp at hx hy; subst hx hy; exact hb
    | succ i => exact mapM_at hr i x y (by simpa using hx) (by simpa using hy)
theorem listM_run {α β : Type} {f : α → Sem β} {g : α → Option β} (hg : ∀ a b, g a = some b → (f a).run P w = .ok b w) :
    ∀ (l : List α) (acc : List β), (∀ a ∈ l, (g a).isSome = true) → ∃ r : List β, r = l.filterMap g ∧ (List.mapM.loop f l acc).run P w = .ok (acc.reverse ++ r) w
  | [], acc, _ => ⟨[], rfl, by simp [List.mapM.loop]⟩
  | a :: l, acc, h => by
    obtain ⟨b, hb⟩ := Option.isSome_iff_exists.1 (h a (by simp))
    obtain ⟨r, hr, hrun⟩ := listM_run hg l (b :: acc) (fun x hx => h x (by simp [hx]))
    refine ⟨b :: r, by simp [hb, hr], ?_⟩
    simp only [List.mapM.loop, Sem.run_bind, hg a b hb, Result.andThen_ok, hrun]
    simp
theorem filterMap_get {α β : Type} {g : α → Option β} : ∀ (l : List α), (∀ a ∈ l, (g a).isSome = true) → ∀ i : Nat, (l.filterMap g)[i]? = (l[i]?).bind g
  | [], _, i => by simp
  | a :: l, h, i => by
    obtain ⟨b, hb⟩ := Option.isSome_iff_exists.1 (h a (by simp))
    have ih := filterMap_get l (fun x hx => h x (by simp [hx]))
    rw [List.filterMap_cons, hb]
    cases i with
    | zero => simp [hb]
    | succ i => simpa using ih i
theorem places_run {fs : Array Field} (hall : fs.all (fun f => (sizeB P f.type).isSome) = true) :
    ∃ pl : Array (Nat × Nat), (∀ i : Nat, pl[i]? = (fs[i]?).bind fun f => (sizeB P f.type).map fun n => (f.offset, n)) ∧
      (fs.mapM fun f => do pure (f.offset, ← sizeOf f.type) : Sem (Array (Nat × Nat))).run P w = .ok pl w := by
  have hall' : ∀ f ∈ fs.toList, ((sizeB P f.type).map fun n => (f.offset, n)).isSome = true := by
    intro f hf
    rw [Array.all_eq_true_iff_forall_mem] at hall
    simpa using hall f (by simpa using hf)
  obtain ⟨r, hr, hrun⟩ := listM_run (P := P) (w := w) (f := fun f : Field => do pure (f.offset, ← sizeOf f.type)) (g := fun f : Field => (sizeB P f.type).map fun n => (f.offset, n))
    (fun a b h => by
      obtain ⟨n, hn, rfl⟩ := Option.map_eq_some_iff.1 h
      simp only [Sem.run_bind, run_size hn, Result.andThen_ok, Sem.run_pure]) fs.toList [] hall'
  refine ⟨r.toArray, fun i => ?_, ?_⟩
  · rw [List.getElem?_toArray, hr, filterMap_get _ hall', Array.getElem?_toList]
  · rw [← Array.toArray_toList (xs := fs), List.mapM_toArray]
    simp only [List.mapM, Sem.run_map, hrun, Result.andThen_ok]
    simp
theorem part_run {t : TypeId} {p : Option Nat} {cs : Array Value} {off : Nat} {v : Value} (hp : partB P t = some p) (hv : prtv off p cs.toList = some v) : (part t cs off).run P w = .ok v w := by
  unfold partB at hp
  split at hp
  · rename_i n ha hn
    obtain rfl := Option.some.inj hp
    obtain rfl := Option.some.inj hv
    simp only [part, Sem.run_bind, run_isAgg ha, Result.andThen_ok, if_true, run_size hn, Sem.run_pure]
    congr 3
    apply Array.toList_inj.1
    simp [Array.toList_extract]
  · rename_i n ha hn
    obtain rfl := Option.some.inj hp
    simp only [prtv, Array.getElem?_toList] at hv
    simp only [part, Sem.run_bind, run_isAgg ha, Result.andThen_ok, Bool.false_eq_true, if_false, hv, Sem.run_pure]
  · cases hp
theorem val_sound {o : Oper} {x : X} {v : Value} (hx : X.of P o.op = some x) (hv : x.val ρ H = some v) (hs : Sat w0 H w) : (execOp ρ o).run P w = .ok (.value v) w := by
  obtain ⟨dst, op, ty, pos, after, guard⟩ := o
  simp only at hx
  cases op
  case move x' => obtain rfl := Option.some.inj hx; obtain rfl := Option.some.inj hv; simp [execOp]
  case assign x' => obtain rfl := Option.some.inj hx; obtain rfl := Option.some.inj hv; simp [execOp]
  case pick c a b =>
    obtain rfl := Option.some.inj hx
    simp only [X.val] at hv
    simp only [execOp]
    cases hc : ρ c <;> rw [hc] at hv <;> first | (cases hv; done) | skip
    obtain rfl := Option.some.inj hv
    simp [asBool]
  case alloc t =>
    simp only [X.of] at hx
    obtain ⟨z, _, rfl⟩ := Option.map_eq_some_iff.1 hx
    cases hv
  case box t y => obtain rfl := Option.some.inj hx; cases hv
  case build t parts =>
    simp only [X.of] at hx
    split at hx
    · rename_i fs z hu hz
      split at hx
      · rename_i hall
        obtain ⟨ps, hps, rfl⟩ := Option.map_eq_some_iff.1 hx
        simp only [X.val] at hv
        obtain ⟨cs, hcs, rfl⟩ := Option.map_eq_some_iff.1 hv
        obtain ⟨zv, hzl, hzr⟩ := run_zero hz w
        have hpl : ∀ (l : List Field) (pl : List (Nat × Nat)), (∀ f ∈ l, (sizeB P f.type).isSome = true) → True := fun _ _ _ => trivial
        have hm : ∃ pl : Array (Nat × Nat), (∀ i : Nat, pl[i]? = (fs[i]?).bind fun f => (sizeB P f.type).map fun n => (f.offset, n)) ∧
            (fs.mapM fun f => do pure (f.offset, ← sizeOf f.type) : Sem (Array (Nat × Nat))).run P w = .ok pl w := places_run hall
        obtain ⟨pl, hpl1, hpl2⟩ := hm
        have hf : Instr.fill (fun i => pl[i]?) zv.cells ((parts.map fun (i, x) => (i, ρ x)).toList) = some cs.toArray := by
          refine fill_eq _ _ (ps.map fun p => (p.1, p.2.1, ρ p.2.2)) _ _ (by simp [mapM_length hps]) (fun i p q hp hq => ?_) (by rw [hzl]; exact hcs)
          simp only [Array.toList_map, List.getElem?_map] at hp hq
          cases hpi : parts.toList[i]? with
          | none => rw [hpi] at hp; cases hp
          | some r =>
            rw [hpi] at hp
            simp only [Option.map_some, Option.some.injEq] at hp
            subst hp
            cases hqi : ps[i]? with
            | none => rw [hqi] at hq; cases hq
            | some s =>
              rw [hqi] at hq
              simp only [Option.map_some, Option.some.injEq] at hq
              subst hq
              have h1 := mapM_at hps i r s hpi hqi
              cases hf : fs[r.1]? with
              | none => rw [hf] at h1; cases h1
              | some f =>
                rw [hf] at h1
                obtain ⟨n, hn, rfl⟩ := Option.map_eq_some_iff.1 h1
                exact ⟨by rw [hpl1, hf, Option.bind_some, hn]; rfl, rfl⟩
        simp only [execOp, Instr.build, Sem.run_bind, hzr, Result.andThen_ok, run_underlying hu, hpl2, hf, Sem.run_pure]
      · cases hx
    · rename_i n e z hu hz
      obtain ⟨k, hk, rfl⟩ := Option.map_eq_some_iff.1 hx
      simp only [X.val] at hv
      obtain ⟨cs, hcs, rfl⟩ := Option.map_eq_some_iff.1 hv
      obtain ⟨zv, hzl, hzr⟩ := run_zero hz w
      have hf : Instr.fill (fun i => some (i * k, k)) zv.cells ((parts.map fun (i, x) => (i, ρ x)).toList) = some cs.toArray := by
        refine fill_eq _ _ ((parts.toList.map fun p => (p.1 * k, k, p.2)).map fun p => (p.1, p.2.1, ρ p.2.2)) _ _ (by simp) (fun i p q hp hq => ?_) (by rw [hzl]; exact hcs)
        simp only [Array.toList_map, List.getElem?_map] at hp hq
        cases hpi : parts.toList[i]? with
        | none => rw [hpi] at hp; cases hp
        | some r =>
          rw [hpi] at hp hq
          simp only [Option.map_some, Option.some.injEq] at hp hq
          subst hp hq
          exact ⟨rfl, rfl⟩
      simp only [execOp, Instr.build, Sem.run_bind, hzr, Result.andThen_ok, run_underlying hu, run_size hk, hf, Sem.run_pure]
    · cases hx
  case buildSlice t ln parts =>
    simp only [X.of] at hx
    repeat' (first | (split at hx) | (cases hx; done))
    all_goals (try (obtain rfl := Option.some.inj hx)); all_goals (first | (cases hv; done) | (cases hx; done))
  case load t a =>
    simp only [X.of] at hx
    obtain ⟨p, hp, rfl⟩ := Option.map_eq_some_iff.1 hx
    unfold partB at hp
    split at hp
    · rename_i n ha hn
      obtain rfl := Option.some.inj hp
      simp only [X.val] at hv
      cases hc : ρ a <;> rw [hc] at hv <;> first | (cases hv; done) | skip
      rename_i A
      cases A with
      | none => cases hv
      | some A =>
        obtain ⟨cs, hcs, rfl⟩ := Option.map_eq_some_iff.1 hv
        simp only [execOp, Instr.loadAt, Instr.sureAddr, loadVar, hc, Sem.run_bind, Sem.run_pure, Result.andThen_ok, run_isAgg ha, if_true, run_size hn, cells_load hs hcs]
    · rename_i n ha hn
      obtain rfl := Option.some.inj hp
      simp only [X.val] at hv
      cases hc : ρ a <;> rw [hc] at hv <;> first | (cases hv; done) | skip
      rename_i A
      cases A with
      | none => cases hv
      | some A =>
        have hcell := hs.cell hv
        simp only [execOp, Instr.loadAt, Instr.sureAddr, loadVar, hc, Sem.run_bind, Sem.run_pure, Result.andThen_ok, run_isAgg ha, Bool.false_eq_true, if_false, run_load, hcell]
    · cases hp
  case store t a y =>
    simp only [X.of] at hx
    obtain ⟨n, _, rfl⟩ := Option.map_eq_some_iff.1 hx
    cases hv
  case binOp op t y z ty =>
    simp only [X.of] at hx
    cases hu : P.underlying t with
    | none => rw [hu] at hx; cases hx
    | some d =>
      rw [hu] at hx
      cases d <;> simp only at hx <;> first | (cases hx; done) | skip
      case int k =>
        obtain rfl := Option.some.inj hx
        have := bin_sound (P := P) (w := w) (t := t) hv
        simp only [execOp, Sem.run_bind] at this ⊢
        rw [this]; rfl
      case bool =>
        cases op <;> simp only at hx <;> first | (cases hx; done) | skip
        all_goals
          obtain rfl := Option.some.inj hx
          have := eqb_sound (P := P) (w := w) hu hv
          simp only [execOp, Sem.run_bind, Bool.false_eq_true, if_false, if_true] at this ⊢
          rw [this]; rfl
      case slice e =>
        cases op <;> simp only at hx <;> first | (cases hx; done) | skip
        all_goals
          obtain rfl := Option.some.inj hx
          have := nils_sound (P := P) (w := w) hu hv
          simp only [execOp, Sem.run_bind, Bool.false_eq_true, if_false, if_true] at this ⊢
          rw [this]; rfl
      all_goals (cases op <;> simp only at hx <;> first | (cases hx; done) | (obtain rfl := Option.some.inj hx; cases hv; done))
  case fieldAddr t y f =>
    simp only [X.of] at hx
    split at hx
    · rename_i fs hu
      split at hx
      · rename_i fd hf
        split at hx
        · rename_i m hm
          obtain rfl := Option.some.inj hx
          simp only [X.val] at hv
          cases hc : ρ y <;> rw [hc] at hv <;> first | (cases hv; done) | skip
          rename_i A
          cases A with
          | none => cases hv
          | some A =>
            obtain rfl := Option.some.inj hv
            have hsz : ∀ w : World, (sizeOf fd.type).run P w = .ok (m + 1) w := run_size hm
            simp only [execOp, Instr.fieldAt, Sem.run_bind, run_underlying hu, Result.andThen_ok, hf, Instr.sureAddr, hc, Sem.run_pure, fieldPlace, hsz, Nat.succ_ne_zero, if_false]
            rfl
        · cases hx
      · cases hx
    · cases hx
  case indexAddr t y i =>
    simp only [X.of] at hx
    split at hx
    · rename_i e hu
      obtain ⟨n, hn, rfl⟩ := Option.map_eq_some_iff.1 hx
      simp only [X.val] at hv
      cases hy : ρ y <;> rw [hy] at hv <;> first | (cases hv; done) | skip
      cases hi : ρ i <;> rw [hi] at hv <;> first | (cases hv; done) | skip
      rename_i A l c k j
      simp only at hv
      split at hv
      · rename_i hb
        cases A with
        | none => cases hv
        | some A =>
          obtain rfl := Option.some.inj hv
          simp only [execOp, Instr.indexAt, hy, hi, asIntOf, Sem.run_bind, Sem.run_pure, Result.andThen_ok, run_underlying hu, hb, if_true, and_self, run_size hn]
          rfl
      · cases hv
    · rename_i l e hu
      obtain ⟨n, hn, rfl⟩ := Option.map_eq_some_iff.1 hx
      simp only [X.val] at hv
      cases hy : ρ y <;> rw [hy] at hv <;> first | (cases hv; done) | skip
      cases hi : ρ i <;> rw [hi] at hv <;> first | (cases hv; done) | skip
      rename_i A k j
      simp only at hv
      split at hv
      · rename_i hb
        cases A with
        | none => cases hv
        | some A =>
          obtain rfl := Option.some.inj hv
          simp only [execOp, Instr.indexAt, hy, hi, asIntOf, Instr.sureAddr, Sem.run_bind, Sem.run_pure, Result.andThen_ok, run_underlying hu, hb, if_true, and_self, run_size hn]
          rfl
      · cases hv
    · cases hx
  case unOp op t y =>
    cases op <;> simp only [X.of] at hx <;> first | (cases hx; done) | skip
    all_goals
      obtain rfl := Option.some.inj hx
      simp only [X.val] at hv
      cases hy : ρ y <;> rw [hy] at hv <;> first | (cases hv; done) | skip
      obtain rfl := Option.some.inj hv
      simp [execOp, Op.unary, hy, Op.intArith]
  case convert s d y =>
    simp only [X.of] at hx
    split at hx
    · rename_i k1 k2 h1 h2
      obtain rfl := Option.some.inj hx
      simp only [X.val] at hv
      cases hy : ρ y <;> rw [hy] at hv <;> first | (cases hv; done) | skip
      obtain rfl := Option.some.inj hv
      simp only [execOp, convert, Sem.run_bind, run_underlying h1, run_underlying h2, Result.andThen_ok, hy, Conv.intToInt, Sem.run_pure]
    · cases hx
  case makeSlice t l c =>
    simp only [X.of] at hx
    repeat' (first | (split at hx) | (cases hx; done))
    all_goals (try (obtain rfl := Option.some.inj hx)); all_goals (first | (cases hv; done) | (cases hx; done))
  case slice t y lo hi mx =>
    simp only [X.of] at hx
    split at hx
    · rename_i e hu
      obtain ⟨n, hn, rfl⟩ := Option.map_eq_some_iff.1 hx
      simp only [X.val] at hv
      cases hy : ρ y <;> rw [hy] at hv <;> first | (cases hv; done) | skip
      obtain ⟨⟨l, h, m⟩, hb, rfl⟩ := Option.map_eq_some_iff.1 hv
      simp only [execOp, Instr.sliceAt, Instr.slice, hy, Sem.run_bind, run_underlying hu, Result.andThen_ok, bnds_run true hb, run_size hn, Sem.run_pure]
      rfl
    · rename_i k e hu
      obtain ⟨n, hn, rfl⟩ := Option.map_eq_some_iff.1 hx
      simp only [X.val] at hv
      cases hy : ρ y <;> rw [hy] at hv <;> first | (cases hv; done) | skip
      rename_i A
      cases A with
      | none => cases hv
      | some A =>
        obtain ⟨⟨l, h, m⟩, hb, rfl⟩ := Option.map_eq_some_iff.1 hv
        simp only [execOp, Instr.sliceAt, Instr.sureAddr, hy, Sem.run_bind, run_underlying hu, Result.andThen_ok, bnds_run false hb, run_size hn, Sem.run_pure]
        split <;> rfl
    · cases hx
  case field t y f =>
    simp only [X.of] at hx
    split at hx
    · rename_i fs hu
      split at hx
      · rename_i fd hf
        obtain ⟨p, hp, rfl⟩ := Option.map_eq_some_iff.1 hx
        simp only [X.val] at hv
        cases hy : ρ y <;> rw [hy] at hv <;> first | (cases hv; done) | skip
        rename_i cs
        simp only [execOp, Instr.field, Sem.run_bind, run_underlying hu, Result.andThen_ok, hf, hy, asAgg, Sem.run_pure, part_run hp hv]
      · cases hx
    · cases hx
  case index t y i =>
    simp only [X.of] at hx
    split at hx
    · rename_i l e hu
      split at hx
      · rename_i n p hn hp
        obtain rfl := Option.some.inj hx
        simp only [X.val] at hv
        cases hy : ρ y <;> rw [hy] at hv <;> first | (cases hv; done) | skip
        cases hi : ρ i <;> rw [hi] at hv <;> first | (cases hv; done) | skip
        simp only at hv
        split at hv
        · rename_i hb
          simp only [execOp, Instr.index, Sem.run_bind, hi, asIntOf, Sem.run_pure, Result.andThen_ok, run_underlying hu, hy, hb, if_true, and_self, run_size hn, part_run hp hv]
        · cases hv
      · cases hx
    · cases hx
  case extract y i =>
    obtain rfl := Option.some.inj hx
    simp only [X.val] at hv
    cases hy : ρ y <;> rw [hy] at hv <;> first | (cases hv; done) | skip
    rename_i vs
    simp only [Array.getElem?_toList] at hv
    simp only [execOp, Instr.extract, hy, hv, Sem.run_bind, Sem.run_pure, Result.andThen_ok]
  case makeFunc fn a b =>
    obtain rfl := Option.some.inj hx
    obtain rfl := Option.some.inj hv
    simp only [execOp, Instr.makeFunc, Sem.run_bind, Sem.run_pure, Result.andThen_ok]
    have h1 : ∀ (q : Array Operand), Array.map ρ q = (List.map ρ q.toList).toArray := fun q => Array.toList_inj.1 (by simp)
    rw [h1 a, h1 b]
  case nilCheck y =>
    obtain rfl := Option.some.inj hx
    simp only [X.val] at hv
    simp only [execOp]
    cases hy : ρ y <;> rw [hy] at hv <;> first | (cases hv; done) | skip
    · rename_i A
      cases A with
      | none => cases hv
      | some A => obtain rfl := Option.some.inj hv; rfl
    · rename_i fn a b
      cases fn <;> first | (cases hv; done) | skip
      obtain rfl := Option.some.inj hv
      rfl
  case call c =>
    obtain ⟨cal, args, tys⟩ := c
    cases cal with
    | value f => obtain rfl := Option.some.inj hx; cases hv
    | invoke r m => cases hx
    | builtin b =>
      cases b <;> simp only [X.of] at hx <;> first | (cases hx; done) | skip
      case len =>
        split at hx
        · rename_i t y hty hay
          have ha : args = #[y] := by rw [← Array.toArray_toList (xs := args), hay]
          have hb : tys = #[t] := by rw [← Array.toArray_toList (xs := tys), hty]
          subst ha hb
          split at hx
          · rename_i e hu
            obtain rfl := Option.some.inj hx
            simp only [X.val] at hv
            cases hy : ρ y <;> rw [hy] at hv <;> first | (cases hv; done) | skip
            obtain rfl := Option.some.inj hv
            simp [execOp, resolve, invoke, builtin, Builtin.len_, run_underlying hu, hy, goInt]
          · rename_i n e hu
            obtain rfl := Option.some.inj hx
            obtain rfl := Option.some.inj hv
            simp [execOp, resolve, invoke, builtin, Builtin.len_, run_underlying hu, goInt]
          · cases hx
        · cases hx
      case append =>
        repeat' (first | (split at hx) | (cases hx; done))
        all_goals (try (obtain rfl := Option.some.inj hx)); all_goals (first | (cases hv; done) | (cases hx; done))
      case max =>
        split at hx
        · rename_i y z hay
          have ha : args = #[y, z] := by rw [← Array.toArray_toList (xs := args), hay]
          subst ha
          obtain rfl := Option.some.inj hx
          simp only [X.val] at hv
          cases hy : ρ y <;> rw [hy] at hv <;> first | (cases hv; done) | skip
          cases hz : ρ z <;> rw [hz] at hv <;> first | (cases hv; done) | skip
          obtain rfl := Option.some.inj hv
          simp [execOp, resolve, invoke, builtin, Builtin.max_, Builtin.max2, hy, hz]
        · cases hx
      case min =>
        split at hx
        · rename_i y z hay
          have ha : args = #[y, z] := by rw [← Array.toArray_toList (xs := args), hay]
          subst ha
          obtain rfl := Option.some.inj hx
          simp only [X.val] at hv
          cases hy : ρ y <;> rw [hy] at hv <;> first | (cases hv; done) | skip
          cases hz : ρ z <;> rw [hz] at hv <;> first | (cases hv; done) | skip
          obtain rfl := Option.some.inj hv
          simp [execOp, resolve, invoke, builtin, Builtin.min_, Builtin.min2, hy, hz]
        · cases hx
  all_goals (cases hx)
end
end Go.Proofs.Ytfjhjfddgdokgaa
