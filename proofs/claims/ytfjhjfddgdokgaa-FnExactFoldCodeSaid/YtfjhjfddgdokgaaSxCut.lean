/- To mark a row of the call's own, whatever was built behind it: the heap without the row's block, and the row. -/
import Derived.Test.YtfjhjfddgdokgaaSxOwn
namespace Go.Proofs.Ytfjhjfddgdokgaa
set_option linter.all false
open Go Go.RowKit
open Classical in
/-- The heap without some blocks. -/
noncomputable def AHeap.no (H : AHeap) (B : Nat → Prop) : AHeap := fun x => if B x then none else H x
theorem no_le (H : AHeap) (B : Nat → Prop) : AHeap.le (H.no B) H := fun x k hx => by
  simp only [AHeap.no] at hx
  split at hx
  · cases hx
  · exact ⟨k, hx, rfl, rfl, rfl, fun _ _ h => h⟩
theorem no_in {H : AHeap} {B : Nat → Prop} {x : Nat} (h : B x) : H.no B x = none := by simp [AHeap.no, h]
theorem no_out {H : AHeap} {B : Nat → Prop} {x : Nat} (h : ¬ B x) : H.no B x = H x := by simp [AHeap.no, h]
theorem le_no {A H : AHeap} {B : Nat → Prop} (hl : AHeap.le A H) (hB : ∀ x, B x → A x = none) : AHeap.le A (H.no B) := fun x k hx => by
  obtain ⟨k', hk', r⟩ := hl x k hx
  have : ¬ B x := fun h => by rw [hB x h] at hx; cases hx
  exact ⟨k', by rw [no_out this]; exact hk', r⟩
theorem no_mono {A H : AHeap} {B : Nat → Prop} (hl : AHeap.le A H) : AHeap.le (A.no B) (H.no B) := le_no ((no_le _ _).trans hl) fun _ hx => no_in hx
theorem Own.no {A H : AHeap} {t : TypeId} {s : Nat} {v : Value} {n : Nat} {xs : List Value} {B : Nat → Prop} (h : Own A t s v n xs H) (hB : ∀ x, B x → A x ≠ none) : Own (A.no B) t s v n xs (H.no B) := by
  rcases h with ⟨rfl, rfl, rfl, rfl⟩ | ⟨b, cap, rfl, hb, hn, hc, hl, rfl⟩
  · exact .inl ⟨rfl, rfl, rfl, rfl⟩
  · have hb' : ¬ B b := fun h => hB b h hb
    refine .inr ⟨b, cap, rfl, by rw [no_out hb']; exact hb, hn, hc, hl, ?_⟩
    funext x
    by_cases hx : x = b
    · subst hx; rw [no_out hb', set_same, set_same]
    · rw [set_ne hx]
      by_cases hBx : B x
      · rw [no_in hBx, no_in hBx]
      · rw [no_out hBx, no_out hBx, set_ne hx]
theorem Own.cut {A H H' : AHeap} {t : TypeId} {s : Nat} {v : Value} {n : Nat} {xs : List Value} (h : Own A t s v n xs H) (hl : AHeap.le H H') :
    ∃ (P : Nat → Prop) (H'' : AHeap), (∀ x, P x → A x = none ∧ H x ≠ none) ∧ AHeap.le H'' H' ∧ Own (H'.no P) t s v n xs H'' := by
  rcases h with ⟨rfl, rfl, rfl, rfl⟩ | ⟨b, cap, rfl, hb, hn, hc, hlen, rfl⟩
  · refine ⟨fun _ => False, H'.no fun _ => False, fun x h => h.elim, no_le _ _, .inl ⟨rfl, rfl, rfl, rfl⟩⟩
  · refine ⟨fun x => x = b, (H'.no fun x => x = b).set b ⟨xs, true, t, cap * s⟩, fun x hx => ⟨by rw [hx]; exact hb, by rw [hx, set_same]; simp⟩, fun x k hx => ?_, .inr ⟨b, cap, rfl, no_in rfl, hn, hc, hlen, rfl⟩⟩
    by_cases hxb : x = b
    · subst hxb
      rw [set_same] at hx
      obtain rfl := Option.some.inj hx
      exact hl x _ (set_same _ _ _)
    · rw [set_ne hxb, no_out (B := fun x => x = b) hxb] at hx
      exact ⟨k, hx, rfl, rfl, rfl, fun _ _ h => h⟩
theorem ACalls.mono {P : Program} {w0 : World} {f : Nat} {args : List Value} {H H' : AHeap} {K : Value → AHeap → Prop} (h : ACalls P w0 f args H' K) (hl : AHeap.le H' H) : ACalls P w0 f args H K :=
  ⟨h.1, fun w hs => h.2 w (hs.mono hl)⟩
end Go.Proofs.Ytfjhjfddgdokgaa
