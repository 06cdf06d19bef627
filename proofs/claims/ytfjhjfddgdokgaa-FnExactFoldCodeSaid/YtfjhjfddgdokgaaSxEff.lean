/- The small instructions that write memory or call: the model does as the abstract walk says. -/
import Derived.Test.YtfjhjfddgdokgaaSxCode
import Derived.Maps.AppendAt
namespace Go.Proofs.Ytfjhjfddgdokgaa
set_option linter.all false
open Go Go.RowKit
set_option linter.unusedSimpArgs false
section
variable {P : Program} {w0 w : World} {H : AHeap}

theorem wp_value {o : Oper} {a : Act} {v : Value} {w' : World} {next : Act → World → Prop} {Q : Exit → Act → World → Prop} (h : (execOp a.eval o).run P w = .ok (.value v) w') (hn : next (a.put o.dst v) w') : o.wp P a w next Q := by
  unfold Oper.wp
  rw [h]
  exact hn
theorem wp_skip' {o : Oper} {a : Act} {w' : World} {next : Act → World → Prop} {Q : Exit → Act → World → Prop} (h : (execOp a.eval o).run P w = .ok .skip w') (hn : next (a.put o.dst undef) w') : o.wp P a w next Q := by
  unfold Oper.wp
  rw [h]
  exact hn

theorem store_run : ∀ {b : Nat} (vs : List Value) (off i : Nat) (k : Blk) (H : AHeap) (w : World), Sat w0 H w → H b = some k → k.own = true → off + i + vs.length ≤ k.cells.length → (∀ v ∈ vs, v.oneCell' = true) →
    ∃ w', (storeCells ⟨b, off, none⟩ vs i).run P w = .ok () w' ∧ Sat w0 (H.set b { k with cells := setR k.cells (off + i) vs }) w'
  | b, [], off, i, k, H, w, hs, hk, _, _, _ => ⟨w, rfl, by
      have : H.set b { k with cells := setR k.cells (off + i) [] } = H := by
        funext j
        simp only [AHeap.set, setR]
        split
        · rename_i hj; subst hj; exact hk.symm
        · rfl
      rw [this]; exact hs⟩
  | b, v :: r, off, i, k, H, w, hs, hk, ho, hl, h1 => by
    have hlt : off + i < k.cells.length := by simp at hl; omega
    have hcell : H.cell (some ⟨b, off + i, none⟩) = some k.cells[off + i] := by simp [AHeap.cell, hk, hlt]
    have hc := hs.cell hcell
    obtain ⟨c, fz, g1, g2, g3, g4⟩ := hs.blk b k hk
    obtain ⟨_, hfz⟩ := g4 ho
    subst hfz
    have hf : w.frozen? ⟨b, off + i, none⟩ = false := by simp [World.frozen?, g1]
    have hadd : (⟨b, off, none⟩ : Addr).add i = ⟨b, off + i, none⟩ := Addr.add_lit b off i
    have hst : (store ((⟨b, off, none⟩ : Addr).add i) v).run P w = .ok () (w.setCell ⟨b, off + i, none⟩ v) := by
      rw [hadd, run_store P w _ v _ (h1 v (by simp)), hc]
      simp [hf]
    have hs' := hs.setCell (off := off + i) hk ho v
    obtain ⟨w', hr, hsat⟩ := store_run (b := b) r off (i + 1) { k with cells := k.cells.set (off + i) v } (H.set b { k with cells := k.cells.set (off + i) v }) _ hs' (by simp [AHeap.set]) ho (by simp at hl ⊢; omega) (fun u hu => h1 u (by simp [hu]))
    refine ⟨w', by simp only [storeCells, Sem.run_bind, hst, Result.andThen_ok, hr], ?_⟩
    have e : (H.set b { k with cells := k.cells.set (off + i) v }).set b { k with cells := setR (k.cells.set (off + i) v) (off + (i + 1)) r } = H.set b { k with cells := setR k.cells (off + i) (v :: r) } := by
      funext j
      simp only [AHeap.set, setR, Nat.add_assoc]
      split <;> rfl
    rw [← e]
    exact hsat

theorem Sat.of_grown {w w' : World} {H1 : AHeap} {b : Option Nat} (hs : Sat w0 H w) (hg : w.grownBy w' b) (hb : ∀ g, b = some g → w0.heap.size ≤ g ∧ H1 g = none) (hle : AHeap.le H1 H) : Sat w0 H1 w' := by
  have h1 := hs.mono hle
  refine ⟨hs.below.grown hg hs.below.size (fun k hk => (hb k hk).1), fun i k hk => ?_⟩
  obtain ⟨c, fz, g1, r⟩ := h1.blk i k hk
  have hne : some i ≠ b := by
    intro he
    have := (hb i he.symm).2
    rw [this] at hk; cases hk
  exact ⟨c, fz, (hg.block i (h1.lt hk) hne).trans g1, r⟩

theorem own_of_has {e : TypeId} {size : Nat} {v : Value} {n : Nat} {xs : List Value} {H1 : AHeap} (hs : Sat w0 H w) (h : Has H e size v n xs H1) : w.ownsRow w0.heap.size e size v n xs := by
  rcases h with ⟨rfl, rfl, rfl, rfl⟩ | ⟨b, cap, k, rfl, hk, ho, ht, hc, hn, hm, hl, rfl, rfl⟩
  · exact ⟨by simp, .inl ⟨rfl, rfl⟩⟩
  · obtain ⟨c, fz, g1, g2, g3, g4⟩ := hs.blk b k hk
    obtain ⟨hb, rfl⟩ := g4 ho
    refine ⟨by rw [List.length_take]; omega, .inr ⟨b, cap, c, rfl, hb, by rw [← ht]; exact g1, hn, hm, by omega, ?_⟩⟩
    apply List.ext_getElem?
    intro j
    simp only [List.getElem?_take]
    split
    · rename_i hj
      have hlt : j < k.cells.length := by omega
      have := g3 j _ (List.getElem?_eq_getElem hlt)
      rw [Array.getElem?_toList, this, List.getElem?_eq_getElem hlt]
    · rfl

theorem sat_of_own {e : TypeId} {size : Nat} {v : Value} {n : Nat} {xs : List Value} {w' : World} {H1 : AHeap} (hs : Sat w0 H1 w') (h : w'.ownsRow w0.heap.size e size v n xs) (hb : ∀ g, v.ownBlock = some g → H1 g = none) :
    ∃ H', Own H1 e size v n xs H' ∧ Sat w0 H' w' := by
  obtain ⟨hl, h⟩ := h
  rcases h with ⟨rfl, rfl⟩ | ⟨g, cap, cur, rfl, hbg, hg, hn, hm, hc, ht⟩
  · exact ⟨H1, .inl ⟨rfl, rfl, List.eq_nil_of_length_eq_zero (by simpa using hl), rfl⟩, hs⟩
  · have hg1 : H1 g = none := hb g rfl
    refine ⟨H1.set g ⟨xs, true, e, cap * size⟩, .inr ⟨g, cap, rfl, hg1, hn, hm, hl, rfl⟩, hs.below, fun i k hk => ?_⟩
    simp only [AHeap.set] at hk
    split at hk
    · rename_i hi
      subst hi
      obtain rfl := Option.some.inj hk
      refine ⟨cur, (0, 0), hg, hc, fun j u hu => ?_, fun _ => ⟨hbg, rfl⟩⟩
      have hlt : j < xs.length := (List.getElem?_eq_some_iff.1 hu).1
      rw [← ht, List.getElem?_take] at hu
      rw [if_pos (by omega)] at hu
      rw [← Array.getElem?_toList]; exact hu
    · exact hs.blk i k hk

theorem sat_new {e : TypeId} {cells : List Value} {cs : Array Value} (hs : Sat w0 H w) (hc : cs.toList = cells) :
    H w.heap.size = none ∧ Sat w0 (H.set w.heap.size ⟨cells, true, e, cells.length⟩) (w.alloc (.cells cs e)) := by
  subst hc
  refine ⟨hs.fresh, ?_⟩
  have := hs.alloc cs cs.toList e (fun j v hv => by simpa using hv)
  simpa using this

theorem own_new {e : TypeId} {size n cap : Nat} {xs : List Value} {cs : Array Value} (hs : Sat w0 H w) (hn : n ≤ cap) (hm : cap ≤ maxLen) (hl : xs.length = n * size) (hsz : cs.size = cap * size) (hc : ∀ (j : Nat) (v : Value), xs[j]? = some v → cs[j]? = some v) :
    ∃ H', Own H e size (.slice (some ⟨w.heap.size, 0, none⟩) n cap) n xs H' ∧ Sat w0 H' (w.alloc (.cells cs e)) := by
  refine ⟨_, .inr ⟨w.heap.size, cap, rfl, hs.fresh, hn, hm, hl, rfl⟩, ?_⟩
  have := hs.alloc cs xs e hc
  rw [hsz] at this
  exact this

theorem run_app_nil {t ty e : TypeId} {i : TypeInfo} {size : Nat} (ht : P.underlying t = some (.slice e)) (hi : P.info? e = some i) {v : Value} {n : Nat} {xs : List Value} {base : Nat} (hown : w.ownsRow base e size v n xs) (c : Nat) :
    (Builtin.append_ #[t, t] ty #[v, .slice none 0 c]).run P w = .ok v w := by
  rcases hown.2 with ⟨rfl, rfl⟩ | ⟨g, cap, cur, rfl, _, _, hnc, _⟩
  · simp [Builtin.append_, run_underlying ht, sizeOf, typeInfo, hi, Builtin.lenOf, Builtin.firstCells]
  · simp [Builtin.append_, run_underlying ht, sizeOf, typeInfo, hi, Builtin.lenOf, Builtin.firstCells, hnc, storeCells]

theorem run_app_none {t ty e : TypeId} {i : TypeInfo} (ht : P.underlying t = some (.slice e)) (hi : P.info? e = some i) (sa xa : Option Addr) (xc : Nat) :
    (Builtin.append_ #[t, t] ty #[.slice sa 0 0, .slice xa 0 xc]).run P w = .ok (.slice sa 0 0) w := by
  cases sa <;> cases xa <;> simp [Builtin.append_, run_underlying ht, sizeOf, typeInfo, hi, Builtin.lenOf, Builtin.firstCells, storeCells, loadCells, loadCellsFrom]

theorem Has.le {e : TypeId} {size : Nat} {v : Value} {n : Nat} {xs : List Value} {H1 : AHeap} (h : Has H e size v n xs H1) : AHeap.le H1 H := by
  rcases h with ⟨_, _, _, rfl⟩ | ⟨b, _, _, _, _, _, _, _, _, _, _, _, rfl⟩
  · exact .refl _
  · exact AHeap.del_le _ _
theorem Has.none {e : TypeId} {size : Nat} {v : Value} {n : Nat} {xs : List Value} {H1 : AHeap} (h : Has H e size v n xs H1) : ∀ g, v.ownBlock = some g → H1 g = none := by
  rcases h with ⟨rfl, _, _, rfl⟩ | ⟨b, _, _, rfl, _, _, _, _, _, _, _, _, rfl⟩
  · intro g hg; cases hg
  · intro g hg
    obtain rfl := Option.some.inj hg
    simp [AHeap.del]

def X.isVal : X → Bool
  | .new .. => false
  | .box .. => false
  | .lit .. => false
  | .mks .. => false
  | .st .. => false
  | .app .. => false
  | .call .. => false
  | .eqs .. => false
  | _ => true
theorem sxEff_val {x : X} (h : x.isVal = true) (ρ : Operand → Value) (K : Value → AHeap → Prop) : sxEff P w0 x ρ H K = needs (x.val ρ H) fun v => K v H := by
  cases x <;> first | rfl | (cases h; done)

/-- Which operation was read as x, if x is no plain value. -/
inductive EffOf (P : Program) : Op → X → Prop
  | new (t : TypeId) (z : List Value) (hz : zeroB P t = some z) : EffOf P (.alloc t) (.new z t)
  | box (t : TypeId) (x : Operand) : EffOf P (.box t x) (.box t x)
  | lit (t e : TypeId) (ln n : Nat) (z : List Value) (parts : Array (Nat × Operand)) (hu : P.underlying t = some (.slice e)) (hn : sizeB P e = some n) (hz : zeroB P e = some z) (hl : ln * n ≤ 16777216) :
      EffOf P (.buildSlice t ln parts) (.lit (madeCells z.toArray (ln * n)).toList e ln (parts.toList.map fun p => (p.1 * n, n, p.2)))
  | st (t : TypeId) (a x : Operand) (n : Nat) (hn : sizeB P t = some n) : EffOf P (.store t a x) (.st n a x)
  | mk (t e : TypeId) (l c : Operand) (i : TypeInfo) (z : List Value) (hu : P.underlying t = some (.slice e)) (hi : P.info? e = some i) (hz : zeroB P e = some z) (hs : i.size = z.length) :
      EffOf P (.makeSlice t l c) (.mks z e i.bytes l c)
  | eqs (op : BinOp) (ng : Bool) (t : TypeId) (x y : Operand) (ty : TypeId) (ho : op = if ng then .neq else .eql) (ha : aggB P t = some true) : EffOf P (.binOp op t x y ty) (.eqs ng t x y)
  | call (f : Operand) (args : Array Operand) (tys : Array TypeId) : EffOf P (.call ⟨.value f, args, tys⟩) (.call f args.toList)
  | app (t e : TypeId) (s x : Operand) (i : TypeInfo) (z : List Value) (hu : P.underlying t = some (.slice e)) (hi : P.info? e = some i) (hz : zeroB P e = some z) (hs : i.size = z.length) (h0 : 0 < i.size) :
      EffOf P (.call ⟨.builtin .append, #[s, x], #[t, t]⟩) (.app z e i.bytes s x)

theorem of_cases {op : Op} {x : X} (h : X.of P op = some x) : x.isVal = true ∨ EffOf P op x := by
  cases op <;> simp only [X.of] at h
  case alloc t => obtain ⟨z, hz, rfl⟩ := Option.map_eq_some_iff.1 h; exact .inr (.new t z hz)
  case box t y => obtain rfl := Option.some.inj h; exact .inr (.box t y)
  case buildSlice t ln parts =>
    split at h
    · rename_i e hu
      split at h
      · rename_i n z hn hz
        split at h
        · rename_i hl
          obtain rfl := Option.some.inj h
          exact .inr (.lit t e ln n z parts hu hn hz hl)
        · cases h
      · cases h
    · cases h
  case store t a y => obtain ⟨n, hn, rfl⟩ := Option.map_eq_some_iff.1 h; exact .inr (.st t a y n hn)
  case makeSlice t l c =>
    split at h
    · rename_i e hu
      split at h
      · rename_i i z hi hz
        split at h
        · rename_i hs
          obtain rfl := Option.some.inj h
          exact .inr (.mk t e l c i z hu hi hz hs)
        · cases h
      · cases h
    · cases h
  case binOp op t y z ty =>
    split at h
    · obtain rfl := Option.some.inj h; exact .inl rfl
    · split at h
      · obtain rfl := Option.some.inj h; exact .inl rfl
      · obtain rfl := Option.some.inj h; exact .inl rfl
      · cases h
    · split at h
      · obtain rfl := Option.some.inj h; exact .inl rfl
      · obtain rfl := Option.some.inj h; exact .inl rfl
      · cases h
    · rename_i fs hu
      have ha : aggB P t = some true := by simp [aggB, hu]
      split at h
      · obtain rfl := Option.some.inj h; exact .inr (.eqs _ false t y z ty rfl ha)
      · obtain rfl := Option.some.inj h; exact .inr (.eqs _ true t y z ty rfl ha)
      · cases h
    · rename_i n e hu
      have ha : aggB P t = some true := by simp [aggB, hu]
      split at h
      · obtain rfl := Option.some.inj h; exact .inr (.eqs _ false t y z ty rfl ha)
      · obtain rfl := Option.some.inj h; exact .inr (.eqs _ true t y z ty rfl ha)
      · cases h
    · cases h
  case call c =>
    obtain ⟨cal, args, tys⟩ := c
    cases cal with
    | value f => obtain rfl := Option.some.inj h; exact .inr (.call f args tys)
    | invoke r m => cases h
    | builtin b =>
      cases b <;> simp only at h <;> first | (cases h; done) | skip
      case append =>
        split at h
        · rename_i t u s y hty hay
          have ha : args = #[s, y] := by rw [← Array.toArray_toList (xs := args), hay]
          have hb : tys = #[t, u] := by rw [← Array.toArray_toList (xs := tys), hty]
          subst ha hb
          split at h
          · rename_i htu
            subst htu
            split at h
            · rename_i e hu
              split at h
              · rename_i i z hi hz
                split at h
                · rename_i hs
                  obtain rfl := Option.some.inj h
                  exact .inr (.app t e s y i z hu hi hz hs.1 hs.2)
                · cases h
              · cases h
            · cases h
          · cases h
        · cases h
      all_goals
        repeat' (first | (cases h; done) | (split at h))
        all_goals (obtain rfl := Option.some.inj h; exact .inl rfl)
  case load t a => obtain ⟨p, _, rfl⟩ := Option.map_eq_some_iff.1 h; cases p <;> exact .inl rfl
  case unOp op t y => cases op <;> simp only at h <;> first | (cases h; done) | (obtain rfl := Option.some.inj h; exact .inl rfl)
  all_goals
    repeat' (first | (cases h; done) | (split at h))
    all_goals first
      | (cases h; done)
      | (obtain rfl := Option.some.inj h; exact .inl rfl)
      | (obtain ⟨p, _, rfl⟩ := Option.map_eq_some_iff.1 h; exact .inl rfl)

theorem zero_info {e : TypeId} {i : TypeInfo} {z : List Value} (hi : P.info? e = some i) (hz : zeroB P e = some z) : ∃ zv, i.zero = some zv ∧ zv.cells.toList = z := by
  unfold zeroB at hz
  rw [hi] at hz
  obtain ⟨zv, h, rfl⟩ := Option.map_eq_some_iff.1 hz
  exact ⟨zv, h, rfl⟩

theorem eqs_run {op : BinOp} {ng : Bool} {t ty : TypeId} {x y : Operand} {ρ : Operand → Value} {r : Bool} {dst : Option Tmp} {ty' : TypeId} {pos : String} {after : Array Edge} {guard : Option (Nat × Bool)}
    (ho : op = if ng then .neq else .eql) (h : EqRun P t (ρ x) (ρ y) r) : (execOp ρ ⟨dst, .binOp op t x y ty, ty', pos, after, guard⟩).run P w = .ok (.value (.bool (ng != r))) w := by
  obtain ⟨⟨xs, hxs⟩, ⟨ys, hys⟩, hg, hr⟩ := h
  subst ho
  have hgd : ∀ (b : BinOp), (eqGuard b t x y (ρ x) (ρ y)).run P w = .ok () w := by
    intro b
    rw [hxs, hys]
    cases b <;> simp [eqGuard, hg]
  have hr' := hr w
  rw [hxs, hys] at hr'
  cases ng
  · simp only [execOp, Sem.run_bind, Bool.false_eq_true, if_false, hgd, Result.andThen_ok]
    rw [hxs, hys]
    simp only [binOp, Sem.run_bind, hr', Result.andThen_ok, Sem.run_pure]
    simp
  · simp only [execOp, Sem.run_bind, if_true, hgd, Result.andThen_ok]
    rw [hxs, hys]
    simp only [binOp, Sem.run_bind, hr', Result.andThen_ok, Sem.run_pure]
    simp
theorem eff_sound {o : Oper} {x : X} (hx : X.of P o.op = some x) {a : Act} {K : Value → AHeap → Prop} (h : sxEff P w0 x a.eval H K) (hs : Sat w0 H w)
    {next : Act → World → Prop} {Q : Exit → Act → World → Prop} (hn : ∀ v H' w', Sat w0 H' w' → K v H' → next (a.put o.dst v) w') : o.wp P a w next Q := by
  rcases of_cases hx with hv | he
  · rw [sxEff_val hv] at h
    obtain ⟨v, hv, hK⟩ := needs_elim h
    exact wp_value (val_sound hx hv hs) (hn v H w hs hK)
  · obtain ⟨dst, op, ty, pos, after, guard⟩ := o
    simp only at he hn
    cases he with
    | new t z hz =>
      obtain ⟨zv, hzl, hzr⟩ := run_zero hz w
      obtain ⟨ha, hsat⟩ := sat_new (e := t) hs hzl
      refine wp_value (w' := w.alloc (.cells zv.cells t)) ?_ (hn _ _ _ hsat (h _ ha))
      simp only [execOp, Instr.alloc, Sem.run_bind, hzr, Result.andThen_ok, newVar, newRow, run_newObj, Sem.run_pure]
      rfl
    | box t y =>
      obtain ⟨ha, hsat⟩ := sat_new (e := t) (cs := (a.eval y).cells) hs rfl
      have hsz : (a.eval y).cells.toList.length = (a.eval y).cells.size := by simp
      rw [hsz] at hsat
      refine wp_value (w' := w.alloc (.cells (a.eval y).cells t)) ?_ (hn _ _ _ hsat (h _ ha))
      simp only [execOp, Instr.box, Sem.run_bind, Result.andThen_ok, newVar, newRow, run_newObj, Sem.run_pure]
      rfl
    | lit t e ln n z parts hu hnn hz hl =>
      obtain ⟨cs, hcs, hK⟩ := needs_elim h
      obtain ⟨zv, hzl, hzr⟩ := run_zero hz w
      have hzc : z.toArray = zv.cells := by rw [← hzl]
      have hf : Instr.fill (fun i => some (i * n, n)) (madeCells z.toArray (ln * n)) ((parts.map fun (i, x) => (i, a.eval x)).toList) = some cs.toArray := by
        refine fill_eq _ _ ((parts.toList.map fun p => (p.1 * n, n, p.2)).map fun p => (p.1, p.2.1, a.eval p.2.2)) _ _ (by simp) (fun i p q hp hq => ?_) hcs
        simp only [Array.toList_map, List.getElem?_map] at hp hq
        cases hpi : parts.toList[i]? with
        | none => rw [hpi] at hp; cases hp
        | some r =>
          rw [hpi] at hp hq
          simp only [Option.map_some, Option.some.injEq] at hp hq
          subst hp hq
          exact ⟨rfl, rfl⟩
      obtain ⟨ha, hsat⟩ := sat_new (e := e) (cs := cs.toArray) hs rfl
      refine wp_value (w' := w.alloc (.cells cs.toArray e)) ?_ (hn _ _ _ hsat (hK _ ha))
      have hlt : ¬ (ln * n > 2 ^ 24) := by omega
      by_cases h0 : ln * n = 0
      · have hm0 : (Array.range (ln * n)).map (fun x => (#[] : Array Value)[x % (#[] : Array Value).size]!) = madeCells z.toArray (ln * n) := by
          rw [h0]; simp [madeCells, Array.range_zero']
        simp only [execOp, Instr.buildSlice, Sem.run_bind, run_underlying hu, Result.andThen_ok, run_size hnn, if_neg hlt, if_pos h0, Sem.run_pure, Sem.run_ite]
        simp only [h0] at hm0 hf ⊢
        simp only [hm0, hf, newRow, Sem.run_bind, run_newObj, Result.andThen_ok, Sem.run_pure]
        rfl
      · have hm0 : (Array.range (ln * n)).map (fun x => zv.cells[x % zv.cells.size]!) = madeCells z.toArray (ln * n) := by rw [hzc]; rfl
        simp only [execOp, Instr.buildSlice, Sem.run_bind, run_underlying hu, Result.andThen_ok, run_size hnn, if_neg hlt, if_neg h0, Sem.run_pure, Sem.run_ite, hzr]
        simp only [hm0, hf, newRow, Sem.run_bind, run_newObj, Result.andThen_ok, Sem.run_pure]
        rfl
    | st t p y n hnn =>
      simp only [sxEff] at h
      cases hp : a.eval p <;> rw [hp] at h <;> first | exact h.elim | skip
      rename_i A
      cases A with
      | none => exact h.elim
      | some A =>
        obtain ⟨hsp, k, hk, ho, hsz, hl, h1, hK⟩ := h
        obtain ⟨b, off, spot⟩ := A
        simp only at hsp hk hl hK
        subst hsp
        obtain ⟨w', hr, hsat⟩ := store_run (P := P) (a.eval y).cells.toList off 0 k H w hs hk ho (by simp; omega) h1
        refine wp_skip' (w' := w') ?_ (hn _ _ _ hsat hK)
        have hne : ¬ ((a.eval y).cells.size ≠ n) := by simp [hsz]
        simp only [execOp, Instr.storeAt, Instr.sureAddr, hp, Sem.run_bind, Sem.run_pure, Result.andThen_ok, storeVar, run_size hnn, if_neg hne, hr]
    | mk t e l c i z hu hi hz hsz =>
      simp only [sxEff] at h
      cases hl : a.eval l <;> rw [hl] at h <;> first | exact h.elim | skip
      cases hc : a.eval c <;> rw [hc] at h <;> first | exact h.elim | skip
      rename_i k1 l' k2 c'
      obtain ⟨h0, hlc, hb, h63, hK⟩ := h
      obtain ⟨zv, hz1, hz2⟩ := zero_info hi hz
      have hr := run_make (P := P) w t e i zv hu hi hz1 k1 k2 l' c' h0 hlc hb h63
      have hzs : i.size = zv.cells.size := by rw [hsz, ← hz2]; simp
      rw [hzs, made_repl, hz2] at hr
      obtain ⟨ha, hsat⟩ := sat_new (e := e) (cs := (repl z c'.toNat).toArray) hs rfl
      simp only [length_repl] at hsat
      refine wp_value (w' := w.alloc (.cells (repl z c'.toNat).toArray e)) ?_ (hn _ _ _ hsat (hK _ ha))
      simp only [execOp, Sem.run_bind, hl, hc, hr, Result.andThen_ok, Sem.run_pure]
    | eqs op ng t y z ty ho ha =>
      obtain ⟨r, hr, hK⟩ := h
      exact wp_value (eqs_run ho hr) (hn _ _ _ hs hK)
    | call fo args tys =>
      simp only [sxEff] at h
      cases hf : a.eval fo <;> rw [hf] at h <;> first | exact h.elim | skip
      rename_i fn fi ca
      cases fn <;> first | exact h.elim | skip
      rename_i f
      obtain ⟨⟨fn, hfn, hb, hname⟩, hc⟩ := h
      have hrun : (execOp a.eval ⟨dst, .call ⟨.value fo, args, tys⟩, ty, pos, after, guard⟩).run P w = .ok (.enter f (fi ++ args.map a.eval ++ ca)) w := by
        have hne : fn.body.isNone = false := by cases hb' : fn.body <;> simp_all
        simp only [execOp, resolve, hf, Deferred.ofValue, Sem.run_bind, Sem.run_pure, Result.andThen_ok, invoke, callFunc, run_program, hfn, hname, hne, Bool.false_eq_true, if_false]
      unfold Oper.wp
      rw [hrun, Oper.upon_enter]
      have hargs : (fi.toList ++ args.toList.map a.eval ++ ca.toList).toArray = fi ++ args.map a.eval ++ ca := Array.toList_inj.1 (by simp)
      have hc' := hc w hs
      rw [hargs] at hc'
      refine hc'.mono fun e' w' ⟨v, H', he, hs', hK⟩ => ?_
      subst he
      exact hn v H' w' hs' hK
    | app t e s y i z hu hi hz hsz h0 =>
      simp only [sxEff] at h
      cases hsv : a.eval s <;> rw [hsv] at h <;> first | exact h.elim | skip
      cases hyv : a.eval y <;> rw [hyv] at h <;> first | exact h.elim | skip
      rename_i sa n sc xa m xc
      have hex : ∀ (v : Value) (w' : World), (Builtin.append_ #[t, t] ty #[.slice sa n sc, .slice xa m xc]).run P w = .ok v w' → next (a.put dst v) w' → Oper.wp P ⟨dst, .call ⟨.builtin .append, #[s, y], #[t, t]⟩, ty, pos, after, guard⟩ a w next Q := by
        intro v w' hr hnx
        refine wp_value (w' := w') ?_ hnx
        simp only [execOp, resolve, invoke, builtin, Sem.run_bind, Sem.run_pure, Result.andThen_ok, List.map_toArray, List.map_cons, List.map_nil, hsv, hyv, hr]
      obtain ⟨zv, hz1, hz2⟩ := zero_info hi hz
      have hzs : zv.cells.size = z.length := by rw [← hz2]; simp
      rcases h with ⟨rfl, rfl, rfl, hK⟩ | ⟨xs, H1, news, hcase, hnl, hnews, h1, hm63, hbytes, hK⟩
      · exact hex _ _ (run_app_none hu hi sa xa xc) (hn _ _ _ hs hK)
      · rcases hcase with hhas | ⟨rfl, rfl, rfl, rfl, hm⟩
        · have hown := own_of_has hs hhas
          have hle := hhas.le
          have hnone := hhas.none
          cases xa with
          | none =>
            have hm : m = 0 := by
              rcases Nat.eq_zero_or_pos m with hm | hm
              · exact hm
              · exfalso
                have hlt : 0 < news.length := by rw [hnl]; exact Nat.mul_pos hm (by omega)
                have := hnews 0 _ (List.getElem?_eq_getElem hlt)
                cases this
            subst hm
            have hnn : news = [] := List.eq_nil_of_length_eq_zero (by simpa using hnl)
            subst hnn
            obtain ⟨H', ho, hsat⟩ := sat_of_own (hs.mono hle) hown hnone
            refine hex _ _ (run_app_nil hu hi hown xc) (hn _ _ _ hsat (hK _ _ ?_))
            simpa using ho
          | some xa =>
            obtain ⟨v', w', hr, hown', hg, _, hat⟩ := run_append_own_at (P := P) w w0.heap.size t ty e i zv z.length i.bytes hu hi hz1 hsz rfl hzs (by omega) _ n xs hown xa m xc news hnl
              (fun j u hj => hs.cell (hnews j u hj)) h1 hm63 hbytes hs.below.size
            have hs' : Sat w0 H1 w' := hs.of_grown hg (fun g hgg => ⟨(hown.lt g hgg).1, hnone g hgg⟩) hle
            obtain ⟨H', ho, hsat⟩ := sat_of_own hs' hown' (fun g hgg => by
              rcases hat with hat | hat
              · rw [hat] at hgg; exact hnone g hgg
              · rw [hat] at hgg
                obtain rfl := Option.some.inj hgg
                exact hle.none hs.fresh)
            exact hex _ _ hr (hn _ _ _ hsat (hK _ _ ho))
        · cases sa with
          | none =>
            have hown : w.ownsRow w0.heap.size e z.length (.slice none 0 0) 0 [] := ⟨by simp, .inl ⟨rfl, rfl⟩⟩
            cases xa with
            | none =>
              exfalso
              have hlt : 0 < news.length := by rw [hnl]; exact Nat.mul_pos hm (by omega)
              have := hnews 0 _ (List.getElem?_eq_getElem hlt)
              cases this
            | some xa =>
              obtain ⟨v', w', hr, hown', hg, _, hat⟩ := run_append_own_at (P := P) w w0.heap.size t ty e i zv z.length i.bytes hu hi hz1 hsz rfl hzs (by omega) _ 0 [] hown xa m xc news hnl
                (fun j u hj => hs.cell (hnews j u hj)) h1 hm63 hbytes hs.below.size
              have hs' : Sat w0 H1 w' := hs.of_grown hg (fun g hgg => by cases hgg) (.refl _)
              obtain ⟨H', ho, hsat⟩ := sat_of_own hs' hown' (fun g hgg => by
                rcases hat with hat | hat
                · rw [hat] at hgg; cases hgg
                · rw [hat] at hgg
                  obtain rfl := Option.some.inj hgg
                  exact hs.fresh)
              exact hex _ _ hr (hn _ _ _ hsat (hK _ _ ho))
          | some sa =>
            cases xa with
            | none =>
              exfalso
              have hlt : 0 < news.length := by rw [hnl]; exact Nat.mul_pos hm (by omega)
              have := hnews 0 _ (List.getElem?_eq_getElem hlt)
              cases this
            | some xa =>
              have hr := run_append_grow (P := P) w t ty e i zv hu hi hz1 sa 0 0 [] (by simp) (fun j v hj => by simp at hj) xa m xc news (by rw [hsz]; exact hnl) (fun j u hj => hs.cell (hnews j u hj)) (by omega)
                (by simp only [maxLen] at hm63; omega) (growslice_fits (by omega) hbytes)
              have hge := grownCap_ge w (0 + m) 0 e
              have hcm := grownCap_le_maxLen w (0 + m) 0 e hm63
              generalize grownCap w (0 + m) 0 e = cap at hr hge hcm
              obtain ⟨H', ho, hsat⟩ := own_new (e := e) (size := z.length) (n := 0 + m) (cap := cap) (xs := [] ++ news) (cs := (([] : List Value).toArray ++ news.toArray ++ Builtin.zeroCells zv.cells (cap - (0 + m)))) hs.drew hge hcm (by simpa using hnl)
                (by
                  have : cap = m + (cap - m) := by omega
                  simp only [Array.size_append, List.size_toArray, size_zeroCells, hzs, hnl, List.length_nil, Nat.zero_add, ← Nat.add_mul]
                  congr 1
                  omega)
                (fun j v hj => by
                  have hlt : j < news.length := by simpa using (List.getElem?_eq_some_iff.1 hj).1
                  simp only [List.nil_append] at hj
                  rw [Array.getElem?_append_left (by simpa using hlt)]
                  simpa using hj)
              exact hex _ _ hr (hn _ _ _ hsat (hK _ _ ho))
end
end Go.Proofs.Ytfjhjfddgdokgaa
