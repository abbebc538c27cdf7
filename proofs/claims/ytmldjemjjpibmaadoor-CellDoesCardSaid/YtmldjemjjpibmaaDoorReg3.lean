/- A drawing region, step by step: an operation that yields in every world that meets S is taken first; S is kept behind every operation but the late ones, each of which waits for what is taken, or for another late one. No program in sight. -/
import Derived.Test.YtmldjemjjpibmaaDoorReg2
set_option linter.unusedVariables false
set_option linter.unusedSimpArgs false
namespace Go.Proofs.YtmldjemjjpibmaaDoor

section
variable {P : Program} {ops : Array Oper} {Q : Exit → Act → World → Prop} {md : Region.Mode} {S : World → Prop} {s : List Nat}

theorem late_abs {p : Prop} {b : Bool} (h : b = false) : b = true → p := fun h' => by rw [h] at h'; cases h'
/-- No late operation is listed. -/
def noLate (s : List Nat) (listed : Array Bool) : Bool := s.all fun j => !listed.getD j true
/-- No late operation is listed; each waits for number i, or for a late one. -/
def lateOk (md : Region.Mode) (ops : Array Oper) (s : List Nat) (listed : Array Bool) (i : Nat) : Bool :=
  !s.contains i && s.all fun j => (!listed.getD j true) && (match ops[j]? with
    | some o => o.after.any fun e => Region.binds md e && (e.on == i || s.contains e.on)
    | none => true)

def wpAnyT (P : Program) (md : Region.Mode) (ops : Array Oper) (Q : Exit → Act → World → Prop) (s : List Nat) (S : World → Prop) : Nat → Array Bool → Act → World → Prop
  | 0, listed, a, w => Region.ready md ops listed = [] ∧ Q .normal a w
  | fuel + 1, listed, a, w =>
    (Region.ready md ops listed = [] → Q .normal a w) ∧
    ∀ i ∈ Region.ready md ops listed, wpOp P ops Q i (fun a' w' => (noLate s (listed.setIfInBounds i true) = true → S w') ∧ wpAnyT P md ops Q s S fuel (listed.setIfInBounds i true) a' w') a w

theorem wpAny_of_T : ∀ (fuel : Nat) (listed : Array Bool) (a : Act) (w : World), wpAnyT P md ops Q s S fuel listed a w → wpAny P md ops Q fuel listed a w
  | 0, _, _, _, h => h
  | fuel + 1, _, _, _, h => ⟨h.1, fun i hi => wpOp_mono (fun a' w' h' => wpAny_of_T fuel _ a' w' h'.2) (h.2 i hi)⟩

theorem wpAnyT_mono {S' : World → Prop} (hSS : ∀ w, S' w → S w) :
    ∀ (fuel : Nat) (listed : Array Bool) (a : Act) (w : World), wpAnyT P md ops Q s S' fuel listed a w → wpAnyT P md ops Q s S fuel listed a w
  | 0, _, _, _, h => h
  | fuel + 1, _, _, _, h => ⟨h.1, fun i hi => wpOp_mono (fun a' w' h' => ⟨fun hn => hSS _ (h'.1 hn), wpAnyT_mono hSS fuel _ a' w' h'.2⟩) (h.2 i hi)⟩

theorem noLate_set {i : Nat} (hi : ¬ i ∈ s) (listed : Array Bool) : noLate s (listed.setIfInBounds i true) = noLate s listed := by
  unfold noLate
  rw [Bool.eq_iff_iff, List.all_eq_true, List.all_eq_true]
  refine forall_congr' fun l => forall_congr' fun hl => ?_
  have hne : i ≠ l := fun e => hi (e ▸ hl)
  rw [getD_set_ne true hne]
theorem lateOk_spec {listed : Array Bool} {i : Nat} (h : lateOk md ops s listed i = true) : (¬ i ∈ s) ∧ noLate s listed = true ∧ ∀ j, j ∈ s → ∀ o, ops[j]? = some o → ∃ e, e ∈ o.after ∧ Region.binds md e = true ∧ (e.on = i ∨ e.on ∈ s) := by
  unfold lateOk at h
  rw [Bool.and_eq_true, List.all_eq_true] at h
  refine ⟨by simpa using h.1, List.all_eq_true.2 fun j hj => ?_, fun j hj o ho => ?_⟩
  · have := h.2 j hj
    rw [Bool.and_eq_true] at this
    exact this.1
  · have := h.2 j hj
    rw [ho, Bool.and_eq_true] at this
    have h2 := this.2
    simp only [Array.any_eq_true, Bool.and_eq_true, Bool.or_eq_true, beq_iff_eq, List.contains_iff_mem] at h2
    obtain ⟨n, hn, hb, he⟩ := h2
    exact ⟨_, Array.getElem_mem hn, hb, he⟩

theorem wpAnyT_first {i : Nat} {oi : Oper} {v : Value} (hi : ops[i]? = some oi) (hsel : ∀ (j : Nat) (o : Oper) cs b, ops[j]? = some o → o.op ≠ .select cs b)
    (hQ : ∀ c a w, Q (.panic c) (a.put oi.dst v) w → Q (.panic c) a w) :
    ∀ (fuel : Nat) (listed : Array Bool) (a : Act) (w : World),
      (∀ j oj, ops[j]? = some oj → j ≠ i → listed.getD j true = false → (∀ e ∈ oj.after, Region.binds md e = true → e.on ≠ i) → oi.apart ops oj = true) →
      i ∈ Region.ready md ops listed → lateOk md ops s listed i = true → YieldsIf P ops S oi v a → S w →
      wpAnyT P md ops Q s S fuel (listed.setIfInBounds i true) (a.put oi.dst v) w → wpAnyT P md ops Q s S (fuel + 1) listed a w := by
  intro fuel
  induction fuel with
  | zero =>
    intro listed a w _ hr hwait hy hS H
    refine ⟨fun h => (by rw [h] at hr; cases hr), fun j hj => ?_⟩
    by_cases hji : j = i
    · subst hji; exact hy.wpOp hi hS ⟨fun _ => hS, H⟩
    · have := ready_mono hj hji
      rw [H.1] at this
      cases this
  | succ fuel ih =>
    intro listed a w hfree hr hwait hy hS H
    refine ⟨fun h => (by rw [h] at hr; cases hr), fun j hj => ?_⟩
    by_cases hji : j = i
    · subst hji; exact hy.wpOp hi hS ⟨fun _ => hS, H⟩
    · have h1 := H.2 j (ready_mono hj hji)
      obtain ⟨hjun, oj, hoj, hall⟩ := mem_ready.1 hj
      have hnot : ∀ e ∈ oj.after, Region.binds md e = true → e.on ≠ i := fun e he hb heq => by
        have h1 := hall e he hb
        have h0 := (mem_ready.1 hr).1
        rw [heq] at h1
        rcases Nat.lt_or_ge i listed.size with h' | h'
        · simp [h'] at h0 h1; rw [h0] at h1; cases h1
        · simp [Array.getElem?_eq_none h'] at h1
      obtain ⟨hni, hnl, hdep⟩ := lateOk_spec hwait
      have hun' : ∀ l, l ∈ s → listed.getD l true = false := fun l hl => by
        have := List.all_eq_true.1 hnl l hl
        simpa using this
      have hjs : ¬ j ∈ s := fun hj' => by
        obtain ⟨e, hmem, hb, he⟩ := hdep j hj' oj hoj
        rcases he with he | he
        · exact hnot _ hmem hb he
        · have h1 := hall _ hmem hb
          have h0 := hun' _ he
          rcases Nat.lt_or_ge e.on listed.size with h' | h'
          · simp [h'] at h0 h1; rw [h0] at h1; cases h1
          · simp [Array.getElem?_eq_none h'] at h1
      have hnj : noLate s (listed.setIfInBounds j true) = true := by rw [noLate_set hjs]; exact hnl
      have hnij : noLate s ((listed.setIfInBounds i true).setIfInBounds j true) = true := by rw [noLate_set hjs, noLate_set hni]; exact hnl
      have hwait' : lateOk md ops s (listed.setIfInBounds j true) i = true := by
        unfold lateOk at hwait ⊢
        rw [Bool.and_eq_true, List.all_eq_true] at hwait ⊢
        refine ⟨hwait.1, fun l hl => ?_⟩
        have h3 := hwait.2 l hl
        have hne : j ≠ l := fun e => hjs (e ▸ hl)
        rw [getD_set_ne true hne]
        exact h3
      have h2 := wpOp_putIf hoj (hfree j oj hoj hji hjun hnot) (fun cs b => hsel i oi cs b hi) (fun cs b => hsel j oj cs b hoj) hQ hy h1
      have hfree' : ∀ k ok, ops[k]? = some ok → k ≠ i → (listed.setIfInBounds j true).getD k true = false →
          (∀ e ∈ ok.after, Region.binds md e = true → e.on ≠ i) → oi.apart ops ok = true := fun k ok hk hki hun hno => by
        refine hfree k ok hk hki ?_ hno
        by_cases hjk : j = k
        · subst hjk; exact hjun
        · rw [getD_set_ne true hjk] at hun; exact hun
      refine wpOp_mono (fun a' w' h3 => ⟨fun _ => h3.2.1 hnij, ih (listed.setIfInBounds j true) a' w' hfree' (ready_mono hr (Ne.symm hji)) hwait' h3.1 (h3.2.1 hnij) ?_⟩) h2
      rw [Array.setIfInBounds_comm _ _ hji]
      exact h3.2.2
theorem wpAnyT_free {i : Nat} {oi : Oper} {v : Value} (hi : ops[i]? = some oi) (hsel : ∀ (j : Nat) (o : Oper) cs b, ops[j]? = some o → o.op ≠ .select cs b)
    (hQ : ∀ c a w, Q (.panic c) (a.put oi.dst v) w → Q (.panic c) a w) :
    ∀ (fuel : Nat) (listed : Array Bool) (a : Act) (w : World),
      (∀ j oj, ops[j]? = some oj → j ≠ i → listed.getD j true = false → (∀ e ∈ oj.after, Region.binds md e = true → e.on ≠ i) → oi.apart ops oj = true) →
      i ∈ Region.ready md ops listed → ¬ i ∈ s → YieldsIf P ops (fun _ => True) oi v a → (noLate s listed = true → S w) →
      wpAnyT P md ops Q s S fuel (listed.setIfInBounds i true) (a.put oi.dst v) w → wpAnyT P md ops Q s S (fuel + 1) listed a w := by
  intro fuel
  induction fuel with
  | zero =>
    intro listed a w _ hr hwait hy hS H
    refine ⟨fun h => (by rw [h] at hr; cases hr), fun j hj => ?_⟩
    by_cases hji : j = i
    · subst hji; exact hy.wpOp hi trivial ⟨fun h => hS (by rwa [noLate_set hwait] at h), H⟩
    · have := ready_mono hj hji
      rw [H.1] at this
      cases this
  | succ fuel ih =>
    intro listed a w hfree hr hwait hy hS H
    refine ⟨fun h => (by rw [h] at hr; cases hr), fun j hj => ?_⟩
    by_cases hji : j = i
    · subst hji; exact hy.wpOp hi trivial ⟨fun h => hS (by rwa [noLate_set hwait] at h), H⟩
    · have h1 := H.2 j (ready_mono hj hji)
      obtain ⟨hjun, oj, hoj, hall⟩ := mem_ready.1 hj
      have hnot : ∀ e ∈ oj.after, Region.binds md e = true → e.on ≠ i := fun e he hb heq => by
        have h1 := hall e he hb
        have h0 := (mem_ready.1 hr).1
        rw [heq] at h1
        rcases Nat.lt_or_ge i listed.size with h' | h'
        · simp [h'] at h0 h1; rw [h0] at h1; cases h1
        · simp [Array.getElem?_eq_none h'] at h1
      have hnij : noLate s (listed.setIfInBounds j true) = true → noLate s ((listed.setIfInBounds i true).setIfInBounds j true) = true := fun h => by
        rw [Array.setIfInBounds_comm _ _ (Ne.symm hji), noLate_set hwait]; exact h
      have h2 := wpOp_putIf hoj (hfree j oj hoj hji hjun hnot) (fun cs b => hsel i oi cs b hi) (fun cs b => hsel j oj cs b hoj) hQ hy h1
      have hfree' : ∀ k ok, ops[k]? = some ok → k ≠ i → (listed.setIfInBounds j true).getD k true = false →
          (∀ e ∈ ok.after, Region.binds md e = true → e.on ≠ i) → oi.apart ops ok = true := fun k ok hk hki hun hno => by
        refine hfree k ok hk hki ?_ hno
        by_cases hjk : j = k
        · subst hjk; exact hjun
        · rw [getD_set_ne true hjk] at hun; exact hun
      refine wpOp_mono (fun a' w' h3 => ⟨fun h => h3.2.1 (hnij h), ih (listed.setIfInBounds j true) a' w' hfree' (ready_mono hr (Ne.symm hji)) hwait h3.1 (fun h => h3.2.1 (hnij h)) ?_⟩) h2
      rw [Array.setIfInBounds_comm _ _ hji]
      exact h3.2.2
end

section
variable {P : Program} {Q : Exit → Act → World → Prop} {md : Region.Mode} {S : World → Prop} {s : List Nat}

theorem rt_start (s : List Nat) (S : World → Prop) (n : Nat) {id : Nat} {l : List Oper} {a : Act} {w : World} (hm : P.follows .mixedOrders = true) (hn : l.length = n)
    (h : wpAnyT P .any l.toArray Q s S n (Array.replicate n false) a w.drew) : (Code.region id l.toArray true).wp P Q a w := by
  subst hn
  exact wp_region_any hm (wpAny_of_T _ _ _ _ h)

theorem rt_take (i : Nat) {l : List Oper} {oi : Oper} {v : Value} {fuel : Nat} {listed : Array Bool} {a : Act} {w : World} (hi : l[i]? = some oi)
    (hs : Region.noSelect l.toArray = true) (hf : Region.free md l.toArray listed i = true) (hr : (Region.ready md l.toArray listed).contains i = true) (hwait : lateOk md l.toArray s listed i = true)
    (hQ : ∀ c a w, Q (.panic c) (a.put oi.dst v) w → Q (.panic c) a w) (hw : Region.wanted oi (yielded l.toArray a.tmps) = true) (hS : S w)
    (hy : ∀ w', S w' → (execOp a.eval oi).run P w' = .ok (.value v) w')
    (h : wpAnyT P md l.toArray Q s S fuel (listed.setIfInBounds i true) (a.put oi.dst v) w) : wpAnyT P md l.toArray Q s S (fuel + 1) listed a w :=
  wpAnyT_first (by rw [List.getElem?_toArray]; exact hi) (Region.noSelect_spec hs) hQ fuel listed a w (Region.free_spec (by rw [List.getElem?_toArray]; exact hi) hf) (by simpa using hr) hwait (.inl ⟨hw, hy⟩) hS h

theorem rt_free (i : Nat) {l : List Oper} {oi : Oper} {v : Value} {fuel : Nat} {listed : Array Bool} {a : Act} {w : World} (hi : l[i]? = some oi)
    (hs : Region.noSelect l.toArray = true) (hf : Region.free md l.toArray listed i = true) (hr : (Region.ready md l.toArray listed).contains i = true) (hni : s.contains i = false)
    (hQ : ∀ c a w, Q (.panic c) (a.put oi.dst v) w → Q (.panic c) a w) (hw : Region.wanted oi (yielded l.toArray a.tmps) = true) (hS : noLate s listed = true → S w)
    (hy : ∀ w', (execOp a.eval oi).run P w' = .ok (.value v) w')
    (h : wpAnyT P md l.toArray Q s S fuel (listed.setIfInBounds i true) (a.put oi.dst v) w) : wpAnyT P md l.toArray Q s S (fuel + 1) listed a w :=
  wpAnyT_free (by rw [List.getElem?_toArray]; exact hi) (Region.noSelect_spec hs) hQ fuel listed a w (Region.free_spec (by rw [List.getElem?_toArray]; exact hi) hf) (by simpa using hr) (by simpa using hni) (.inl ⟨hw, fun w' _ => hy w'⟩) hS h

theorem rt_skip (i : Nat) {l : List Oper} {oi : Oper} {fuel : Nat} {listed : Array Bool} {a : Act} {w : World} (hi : l[i]? = some oi)
    (hs : Region.noSelect l.toArray = true) (hf : Region.free md l.toArray listed i = true) (hr : (Region.ready md l.toArray listed).contains i = true) (hni : s.contains i = false)
    (hQ : ∀ c a w, Q (.panic c) (a.put oi.dst undef) w → Q (.panic c) a w) (hw : Region.wanted oi (yielded l.toArray a.tmps) = false) (hS : noLate s listed = true → S w)
    (h : wpAnyT P md l.toArray Q s S fuel (listed.setIfInBounds i true) (a.put oi.dst undef) w) : wpAnyT P md l.toArray Q s S (fuel + 1) listed a w :=
  wpAnyT_free (by rw [List.getElem?_toArray]; exact hi) (Region.noSelect_spec hs) hQ fuel listed a w (Region.free_spec (by rw [List.getElem?_toArray]; exact hi) hf) (by simpa using hr) (by simpa using hni) (.inr ⟨hw, rfl⟩) hS h

def AllNextt (P : Program) (md : Region.Mode) (l : List Oper) (Q : Exit → Act → World → Prop) (s : List Nat) (S : World → Prop) (fuel : Nat) (listed : Array Bool) (a : Act) (w : World) (rs : List Nat) : Prop :=
  ∀ i ∈ rs, wpOp P l.toArray Q i (fun a' w' => ∃ S', (∀ x, S' x → S x) ∧ (noLate s (listed.setIfInBounds i true) = true → S' w') ∧ wpAnyT P md l.toArray Q s S' fuel (listed.setIfInBounds i true) a' w') a w

theorem AllNextt.nil {l : List Oper} {fuel : Nat} {listed : Array Bool} {a : Act} {w : World} : AllNextt P md l Q s S fuel listed a w [] := fun _ h => by cases h

theorem AllNextt.cons {l : List Oper} {fuel : Nat} {listed : Array Bool} {a : Act} {w : World} {i : Nat} {o : Oper} {rs : List Nat} (ho : l[i]? = some o)
    (h : ∀ K' : Act → World → Prop, Shut (∀ (S' : World → Prop) a w', (∀ x, S' x → S x) → (noLate s (listed.setIfInBounds i true) = true → S' w') → wpAnyT P md l.toArray Q s S' fuel (listed.setIfInBounds i true) a w' → K' a w') → if Region.wanted o (yielded l.toArray a.tmps) = true then Oper.wp P o a w K' Q else K' (a.put o.dst undef) w)
    (hs : AllNextt P md l Q s S fuel listed a w rs) : AllNextt P md l Q s S fuel listed a w (i :: rs) := fun j hj => by
  rcases List.mem_cons.1 hj with rfl | hj
  · exact wpOp_step (by rw [List.getElem?_toArray]; exact ho) (fun K' hK => h K' (fun S' a w h1 h2 hW => hK a w ⟨S', h1, h2, hW⟩))
  · exact hs j hj

theorem rt_ready (rs : List Nat) {l : List Oper} {fuel : Nat} {listed : Array Bool} {a : Act} {w : World} (hr : Region.ready md l.toArray listed = rs) (hne : rs ≠ [])
    (h : AllNextt P md l Q s S fuel listed a w rs) : wpAnyT P md l.toArray Q s S (fuel + 1) listed a w :=
  ⟨fun h0 => absurd (hr ▸ h0) hne, hr ▸ fun i hi => wpOp_mono (fun a' w' ⟨S', h1, h2, h3⟩ => ⟨fun hn => h1 _ (h2 hn), wpAnyT_mono h1 _ _ _ _ h3⟩) (h i hi)⟩

/-- One operation alone may come up. -/
theorem rt_one (i : Nat) {l : List Oper} {o : Oper} {fuel : Nat} {listed : Array Bool} {a : Act} {w : World} (ho : l[i]? = some o) (hr : Region.ready md l.toArray listed = [i])
    (h : ∀ K' : Act → World → Prop, Shut (∀ (S' : World → Prop) a w', (∀ x, S' x → S x) → (noLate s (listed.setIfInBounds i true) = true → S' w') → wpAnyT P md l.toArray Q s S' fuel (listed.setIfInBounds i true) a w' → K' a w') → if Region.wanted o (yielded l.toArray a.tmps) = true then Oper.wp P o a w K' Q else K' (a.put o.dst undef) w) :
    wpAnyT P md l.toArray Q s S (fuel + 1) listed a w :=
  rt_ready [i] hr (by simp) (AllNextt.cons ho h AllNextt.nil)

theorem rt_done {l : List Oper} {listed : Array Bool} {a : Act} {w : World} {fuel : Nat} (hr : Region.ready md l.toArray listed = []) (h : Q .normal a w) : wpAnyT P md l.toArray Q s S fuel listed a w :=
  match fuel with
  | 0 => ⟨hr, h⟩
  | _ + 1 => ⟨fun _ => h, by rw [hr]; simp⟩
end
end Go.Proofs.YtmldjemjjpibmaaDoor
