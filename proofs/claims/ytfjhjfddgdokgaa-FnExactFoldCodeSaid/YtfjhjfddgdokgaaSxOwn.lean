/- Rows of the call's own: append to them, drop what is no longer read. -/
import Derived.Test.YtfjhjfddgdokgaaSxList
import Derived.Laws.BitsAllLaws
namespace Go.Proofs.Ytfjhjfddgdokgaa
set_option linter.all false
open Go Go.RowKit
section
variable {P : Program} {w0 : World} {K : Value → AHeap → Prop} {z : List Value} {t e : TypeId} {bytes n m xc size : Nat} {v : Value} {xs news : List Value} {H H1 A B : AHeap}
theorem Own.bound (h : Own H1 e size v n xs H) : n ≤ maxLen := by
  rcases h with ⟨rfl, rfl, rfl, rfl⟩ | ⟨b, cap, rfl, hb, hn, hc, hl, rfl⟩
  · exact Nat.zero_le _
  · omega
theorem Own.len (h : Own H1 e size v n xs H) : xs.length = n * size := by
  rcases h with ⟨rfl, rfl, rfl, rfl⟩ | ⟨b, cap, rfl, hb, hn, hc, hl, rfl⟩
  · simp
  · exact hl
theorem Own.weaken (h : Own B e size v n xs H) (hl : AHeap.le A B) : ∃ H', AHeap.le H' H ∧ Own A e size v n xs H' := by
  rcases h with ⟨rfl, rfl, rfl, rfl⟩ | ⟨b, cap, rfl, hb, hn, hc, hl', rfl⟩
  · exact ⟨_, hl, .inl ⟨rfl, rfl, rfl, rfl⟩⟩
  · exact ⟨_, hl.set b _, .inr ⟨b, cap, rfl, hl.none hb, hn, hc, hl', rfl⟩⟩
theorem Own.drop {b : Nat} {k : Blk} (h : Own (H1.set b k) e size v n xs H) (hb : H1 b = none) : ∃ H', AHeap.le H' H ∧ Own H1 e size v n xs H' := h.weaken ((AHeap.le.refl H1).fresh hb k)
theorem Own.none' (h : Own H1 e size v n xs H) {b : Nat} (hb : H b = none) : H1 b = none := h.le.none hb
theorem has_fresh (h : Own H1 e size v n xs H) {b : Nat} (hb : H b = none) (k : Blk) : Has (H.set b k) e size v n xs (H1.set b k) := by
  rcases h with ⟨rfl, rfl, rfl, rfl⟩ | ⟨b', cap, rfl, hb', hn, hc, hl', rfl⟩
  · exact .inl ⟨rfl, rfl, rfl, rfl⟩
  · have hne : ¬ b' = b := by rintro rfl; simp [AHeap.set] at hb
    refine .inr ⟨b', cap, _, rfl, by rw [set_ne hne, set_same], rfl, rfl, rfl, hn, hc, by simp [hl'], by rw [← hl']; simp, ?_⟩
    funext i
    by_cases hi : i = b'
    · subst hi; simp [AHeap.del, AHeap.set, hne, hb']
    · simp [AHeap.del, AHeap.set, hi]
theorem fl_five {b : Nat} {x0 x1 x2 x3 x4 : Value} {o : Bool} {c : Nat} (hl : AHeap.le (A.set b ⟨[x0, x1, x2, x3, x4], o, t, c⟩) B) :
    B.cell (some ⟨b, 0, none⟩) = some x0 ∧ B.cell (some ⟨b, 1, none⟩) = some x1 ∧ B.cell (some ⟨b, 2, none⟩) = some x2 ∧ B.cell (some ⟨b, 3, none⟩) = some x3 ∧ B.cell (some ⟨b, 4, none⟩) = some x4 :=
  ⟨hl.cell (by rw [cell_same]; rfl), hl.cell (by rw [cell_same]; rfl), hl.cell (by rw [cell_same]; rfl), hl.cell (by rw [cell_same]; rfl), hl.cell (by rw [cell_same]; rfl)⟩
theorem mk_intro {k k' : IntKind} {n : Nat} {D : Value → AHeap → Prop} (hb : bytes * n ≤ 281474976710656) (hn : n ≤ 9223372036854775807) (h : ∀ b, H b = none → D (.slice (some ⟨b, 0, none⟩) n n) (H.set b ⟨repl z n, true, t, n * z.length⟩)) : mkK z t bytes (.int k n) (.int k' n) D H := by
  refine ⟨by omega, by omega, ?_, by omega, ?_⟩
  · have : ((bytes * n : Nat) : Int) ≤ 281474976710656 := by omega
    simpa using this
  · rw [Int.toNat_natCast]; exact h
theorem Own.fresh (h : Own H1 e size v n xs H) {b : Nat} (hb : H b = none) (k : Blk) : Own (H1.set b k) e size v n xs (H.set b k) := by
  rcases h with ⟨rfl, rfl, rfl, rfl⟩ | ⟨b', cap, rfl, hb', hn, hc, hl', rfl⟩
  · exact .inl ⟨rfl, rfl, rfl, rfl⟩
  · have hne : ¬ b' = b := by rintro rfl; simp [AHeap.set] at hb
    exact .inr ⟨b', cap, rfl, by rw [set_ne hne]; exact hb', hn, hc, hl', (set_comm (fun e => hne e.symm)).symm ▸ rfl⟩
theorem fl_three {b : Nat} {x0 x1 x2 : Value} {o : Bool} {c : Nat} (hl : AHeap.le (A.set b ⟨[x0, x1, x2], o, t, c⟩) B) :
    B.cell (some ⟨b, 0, none⟩) = some x0 ∧ B.cell (some ⟨b, 1, none⟩) = some x1 ∧ B.cell (some ⟨b, 2, none⟩) = some x2 :=
  ⟨hl.cell (by rw [cell_same]; rfl), hl.cell (by rw [cell_same]; rfl), hl.cell (by rw [cell_same]; rfl)⟩
theorem ret_own {c cp x : Nat} {vs : List Value} (h : ∀ v H', Own H e size v n xs H' → K v H') {H0 : AHeap} (hl : AHeap.le H H0) (hx : H x = none) {n' : Nat} (he : n' = n) (hv : vs = xs) (hn : vs.length = n * size) (hnc : n ≤ c) (hc : c ≤ maxLen) (hcp : cp = c * size) :
    ∃ H', AHeap.le H' (H0.set x ⟨vs, true, e, cp⟩) ∧ K (.slice (some ⟨x, 0, none⟩) n' c) H' := by
  subst hv hcp he
  exact ⟨_, hl.set x _, h _ _ (.inr ⟨x, c, rfl, hx, hnc, hc, hn, rfl⟩)⟩
theorem app_lit (ho : Own H1 t z.length v n xs H) {b : Nat} (hb : H b = none) {o : Bool} {t' : TypeId} {c : Nat} (hl : news.length = m * z.length)
    (h1 : ∀ v ∈ news, v.oneCell' = true) (hn : n + m ≤ maxLen) (hB : (n + m) * bytes ≤ 140737488355328)
    (h : ∀ v' H', Own (H1.set b ⟨news, o, t', c⟩) t z.length v' (n + m) (xs ++ news) H' → K v' H') : appK P w0 z t bytes v (.slice (some ⟨b, 0, none⟩) m xc) K (H.set b ⟨news, o, t', c⟩) := by
  have hh := has_fresh ho hb ⟨news, o, t', c⟩
  have hs : ∃ a n' c', v = .slice a n' c' ∧ n' = n := by
    rcases ho with ⟨rfl, rfl, rfl, rfl⟩ | ⟨b', cap, rfl, hb', hn, hc, hl', rfl⟩
    · exact ⟨_, _, _, rfl, rfl⟩
    · exact ⟨_, _, _, rfl, rfl⟩
  obtain ⟨a, n', c', rfl, rfl⟩ := hs
  refine .inr ⟨xs, _, news, .inl hh, hl, fun j v hv => ?_, h1, hn, hB, h⟩
  exact Fl.blk _ _ _ _ (fun _ _ h => h) j v hv
theorem app_read {H0 : AHeap} (ho : Own H1 t z.length v n xs H0) (hl : AHeap.le H0 H) {xa : Option Addr} (hr : Fl H xa news) (hlen : news.length = m * z.length) (h1 : ∀ v ∈ news, v.oneCell' = true) (hn : n + m ≤ maxLen) (hB : (n + m) * bytes ≤ 140737488355328)
    (h : ∀ v' B' H', AHeap.le H1 B' → Own B' t z.length v' (n + m) (xs ++ news) H' → K v' H') : appK P w0 z t bytes v (.slice xa m xc) K H := by
  rcases ho with ⟨rfl, rfl, rfl, rfl⟩ | ⟨b, cap, rfl, hb, hnc, hc, hl', rfl⟩
  · exact .inr ⟨[], H, news, .inl (.inl ⟨rfl, rfl, rfl, rfl⟩), hlen, hr, h1, hn, hB, fun v' H' ho' => h v' H H' hl ho'⟩
  · obtain ⟨k, hk, hko, hkt, hkc, hkr⟩ := hl b _ (set_same _ _ _)
    have hlen' : n * z.length ≤ k.cells.length := by
      rcases Nat.eq_zero_or_pos (n * z.length) with h0 | h0
      · omega
      · have := hkr (n * z.length - 1) _ (List.getElem?_eq_getElem (by simp only; omega))
        have := (List.getElem?_eq_some_iff.1 this).1
        omega
    refine .inr ⟨xs, H.del b, news, .inl (.inr ⟨b, cap, k, rfl, hk, hko, hkt, hkc, hnc, hc, hlen', ?_, rfl⟩), hlen, hr, h1, hn, hB, fun v' H' ho' => h v' _ H' (AHeap.le.del (((AHeap.le.refl H1).fresh hb _).trans hl) hb) ho'⟩
    apply List.ext_getElem?
    intro j
    rw [List.getElem?_take]
    split
    · rename_i hj
      rw [List.getElem?_eq_getElem (by omega)]
      exact (hkr j _ (List.getElem?_eq_getElem (by simp only; omega))).symm
    · rw [List.getElem?_eq_none (by omega)]
end
end Go.Proofs.Ytfjhjfddgdokgaa
