/- The contracts of marking, holding and copying, with rows of the call's own. -/
import Derived.Test.YtncfflpkhjaidaaSxHold
import Derived.Test.YtncfflpkhjaidaaSxCodes
import Derived.Test.YtncfflpkhjaidaaSxMark
namespace Go.Proofs.Ytncfflpkhjaidaa
set_option linter.all false
open Go Go.RowKit
set_option maxRecDepth 100000
theorem New.off {C C' : AHeap} {t : TypeId} {sz : Nat} {v : Value} {n : Nat} {xs : List Value} {bs bs' : List Nat} (h : New C bs) (hr : Rw C t sz v n xs bs') : ∀ b, b ∈ bs' → ¬ b ∈ bs := fun b hb hm => by
  rcases hr with ⟨_, _, _, rfl⟩ | ⟨b', cap, _, rfl, _, _, _, hk⟩
  · cases hb
  · simp at hb; subst hb; exact hk.ne (h _ hm)
theorem New.off' {C C' : AHeap} {t : TypeId} {sz : Nat} {v : Value} {n : Nat} {xs : List Value} {bs bs' : List Nat} (h : New C bs) (hr : Rw C t sz v n xs bs') : ∀ b, b ∈ bs → ¬ b ∈ bs' := fun b hb hm => h.off (C' := C) hr b hm hb
theorem rw_of {H : AHeap} {t : TypeId} {sz : Nat} {n : Nat} {xs : List Value} {K : Value → AHeap → Prop} (h : ∀ v C bs, AHeap.le H C → New H bs → Rw C t sz v n xs bs → K v C) : ∀ v H', Own H t sz v n xs H' → K v H' := fun v H' o => by
  obtain ⟨l, bs, hn, hr⟩ := o.rw_
  exact h v H' bs l hn hr
variable (w0 : World) (C : AHeap) (K : Value → AHeap → Prop)
theorem markQuadS_rw {t : TypeId} {v : Value} {n : Nat} {xs : List Value} {bs : List Nat} (hr : Rw C t 5 v n xs bs) (hn : n ≤ 4294967296) (k : Int) (h0 : 0 ≤ k) (h1 : k ≤ 4294967296)
    (h : ∀ C', Chg C C' bs → Rw C' t 5 v n (ints (marks k (n * 5))) bs → K (.int .i64 (k + 5 * n)) C') : ACalls Try.prog w0 21 [v, .int .i64 k] C K := by
  obtain ⟨A, B, lB, oB, hA⟩ := hr.own_
  refine ACalls.mono (markQuadS_ok _ _ _ _ _ _ _ _ k oB hn h0 h1 (fun C' o => ?_)) lB
  obtain ⟨h1, h2⟩ := Rw.put oB hA hr rfl o
  exact h C' h1 h2
end Go.Proofs.Ytncfflpkhjaidaa
