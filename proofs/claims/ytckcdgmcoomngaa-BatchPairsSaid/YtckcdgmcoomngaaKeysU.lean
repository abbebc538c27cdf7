/- The reference's keys stand in rising order; rising lists of the same texts are one. -/
import Derived.Test.YtckcdgmcoomngaaKeys7
import Derived.Sort.Walk0
set_option linter.unusedVariables false
set_option linter.unusedSimpArgs false
namespace Go.Proofs.Ytckcdgmcoomngaa
open Go.RowKit
open Go.Proofs.YtckcdgmcoomngaaW.PrintWords

theorem foldT (x : ByteArray) : ∀ (r q : List ByteArray), r.foldl (insStep x) (true, q) = (true, q ++ r) := by
  intro r
  induction r with
  | nil => intro q; simp
  | cons y r ih =>
    intro q
    rw [List.foldl_cons, show insStep x (true, q) y = (true, q ++ [y]) from rfl, ih]
    simp
theorem insF (x : ByteArray) : ∀ (r p : List ByteArray), (∀ y ∈ p, ltS x y = false) → ∃ p1 p2, p ++ r = p1 ++ p2 ∧ (if (r.foldl (insStep x) (false, p)).1 = true then (r.foldl (insStep x) (false, p)).2 else (r.foldl (insStep x) (false, p)).2 ++ [x]) = p1 ++ x :: p2 ∧
    (∀ y ∈ p1, ltS x y = false) ∧ (∀ z t, p2 = z :: t → ltS x z = true) := by
  intro r
  induction r with
  | nil => intro p hp; exact ⟨p, [], by simp, by simp, hp, fun z t h => by cases h⟩
  | cons y r ih =>
    intro p hp
    rw [List.foldl_cons]
    cases hy : ltS x y
    · have hs : insStep x (false, p) y = (false, p ++ [y]) := by unfold insStep; rw [hy]; rfl
      rw [hs]
      obtain ⟨p1, p2, h1, h2, h3, h4⟩ := ih (p ++ [y]) (fun z hz => by
        rcases List.mem_append.1 hz with hz | hz
        · exact hp z hz
        · rw [List.mem_singleton.1 hz]; exact hy)
      exact ⟨p1, p2, by rw [← h1]; simp, h2, h3, h4⟩
    · have hs : insStep x (false, p) y = (true, p ++ [x] ++ [y]) := by unfold insStep; rw [hy]; rfl
      rw [hs, foldT]
      exact ⟨p, y :: r, rfl, by simp, hp, fun z t h => by cases h; exact hy⟩
theorem ltS_iff (a b : ByteArray) : ltS a b = true ↔ a.toList < b.toList := by
  unfold ltS
  rw [bytesLess_eq]
  exact decide_eq_true_iff
theorem ltS_no (a b : ByteArray) : ltS a b = false ↔ ¬ a.toList < b.toList := by
  rw [← ltS_iff]
  simp
def Rising (l : List ByteArray) : Prop := l.Pairwise (fun a b => a.toList < b.toList)
theorem lt_of_not {a b : List UInt8} (h : ¬ a < b) (hn : b ≠ a) : b < a := by
  rcases List.le_iff_lt_or_eq.1 (List.not_lt.1 h) with h | h
  · exact h
  · exact absurd h hn
theorem insL_rising {x : ByteArray} {out : List ByteArray} (h : Rising out) (hx : x ∉ out) : Rising (insL x out) := by
  obtain ⟨p1, p2, h1, h2, h3, h4⟩ := insF x out [] (fun y hy => by cases hy)
  rw [List.nil_append] at h1
  have he : insL x out = p1 ++ x :: p2 := h2
  rw [he]
  unfold Rising at h ⊢
  rw [h1] at h hx
  obtain ⟨g1, g2, g3⟩ := List.pairwise_append.1 h
  have q2 : ∀ z ∈ p2, x.toList < z.toList := by
    cases p2 with
    | nil => intro z hz; cases hz
    | cons z t =>
      have hz := (ltS_iff _ _).1 (h4 z t rfl)
      intro y hy
      rcases List.mem_cons.1 hy with rfl | hy
      · exact hz
      · exact List.lt_trans hz ((List.pairwise_cons.1 g2).1 y hy)
  have q1 : ∀ y ∈ p1, y.toList < x.toList := fun y hy => lt_of_not ((ltS_no _ _).1 (h3 y hy)) (fun e => hx (List.mem_append_left _ (by rw [← toList_inj e]; exact hy)))
  refine List.pairwise_append.2 ⟨g1, List.pairwise_cons.2 ⟨q2, g2⟩, fun a ha b hb => ?_⟩
  rcases List.mem_cons.1 hb with rfl | hb
  · exact q1 a ha
  · exact List.lt_trans (q1 a ha) (q2 b hb)
theorem keysF_rising : ∀ (L : List Cmd) (out : List ByteArray), Rising out → Rising (L.foldl keyStep out) := by
  intro L
  induction L with
  | nil => intro out h; exact h
  | cons c L ih =>
    intro out h
    rw [List.foldl_cons]
    refine ih _ ?_
    by_cases hc : c.2.1 ∈ out
    · rw [show keyStep out c = out from by unfold keyStep; rw [cdec_true hc]; rfl]
      exact h
    · rw [show keyStep out c = insL c.2.1 out from by unfold keyStep; rw [cdec_false hc]; rfl]
      exact insL_rising h hc
theorem keysR_rising (L : List Cmd) : Rising (keysR L) := keysF_rising L [] List.Pairwise.nil
theorem rising_one : ∀ (a b : List ByteArray), Rising a → Rising b → (∀ s, s ∈ a ↔ s ∈ b) → a = b := by
  intro a
  induction a with
  | nil =>
    intro b _ _ h
    cases b with
    | nil => rfl
    | cons y b => exact absurd ((h y).2 (List.mem_cons_self ..)) (by simp)
  | cons x a ih =>
    intro b ha hb h
    cases b with
    | nil => exact absurd ((h x).1 (List.mem_cons_self ..)) (by simp)
    | cons y b =>
      obtain ⟨a1, a2⟩ := List.pairwise_cons.1 ha
      obtain ⟨b1, b2⟩ := List.pairwise_cons.1 hb
      have hxy : x = y := by
        rcases List.mem_cons.1 ((h x).1 (List.mem_cons_self ..)) with e | e
        · exact e
        · rcases List.mem_cons.1 ((h y).2 (List.mem_cons_self ..)) with e' | e'
          · exact e'.symm
          · exact absurd (List.lt_trans (a1 y e') (b1 x e)) (List.lt_irrefl _)
      subst hxy
      rw [ih b a2 b2 (fun s => ?_)]
      constructor
      · intro hs
        rcases List.mem_cons.1 ((h s).1 (List.mem_cons_of_mem _ hs)) with e | e
        · subst e; exact absurd (a1 s hs) (List.lt_irrefl _)
        · exact e
      · intro hs
        rcases List.mem_cons.1 ((h s).2 (List.mem_cons_of_mem _ hs)) with e | e
        · subst e; exact absurd (b1 s hs) (List.lt_irrefl _)
        · exact e
end Go.Proofs.Ytckcdgmcoomngaa
