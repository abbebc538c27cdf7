/- A drawing region with calls, step by step, the second form: a base world w0; an operation that yields in every world later than w0 may be taken first; behind a call the base may be moved up. No program in sight. -/
import Derived.Test.YtlpigldogglmcaaRegion
set_option linter.unusedVariables false
set_option linter.unusedSimpArgs false
namespace Go.Proofs.Ytlpigldogglmcaa

section
variable {P : Program} {Q : Exit → Act → World → Prop} {md : Region.Mode} {w0 : World}

theorem rh_start (n : Nat) {id : Nat} {l : List Oper} {a : Act} {w : World} (hm : P.follows .mixedOrders = true) (hn : l.length = n)
    (h : wpAnyH P .any l.toArray Q (Later w.drew) n (Array.replicate n false) a w.drew) : (Code.region id l.toArray true).wp P Q a w := by
  subst hn
  exact wp_region_held hm h

theorem rh_take (i : Nat) {l : List Oper} {oi : Oper} {v : Value} {fuel : Nat} {listed : Array Bool} {a : Act} {w : World} (hi : l[i]? = some oi)
    (hs : Region.noSelect l.toArray = true) (hf : Region.free md l.toArray listed i = true) (hr : (Region.ready md l.toArray listed).contains i = true)
    (hQ : ∀ c a w, Q (.panic c) (a.put oi.dst v) w → Q (.panic c) a w) (hw : Region.wanted oi (yielded l.toArray a.tmps) = true) (hS : Later w0 w)
    (hy : ∀ w', Later w0 w' → (execOp a.eval oi).run P w' = .ok (.value v) w')
    (h : wpAnyH P md l.toArray Q (Later w0) fuel (listed.setIfInBounds i true) (a.put oi.dst v) w) : wpAnyH P md l.toArray Q (Later w0) (fuel + 1) listed a w :=
  wpAnyH_take (by rw [List.getElem?_toArray]; exact hi) hs hf hr hQ (.inl ⟨hw, hy⟩) hS h

theorem rh_skip (i : Nat) {l : List Oper} {oi : Oper} {fuel : Nat} {listed : Array Bool} {a : Act} {w : World} (hi : l[i]? = some oi)
    (hs : Region.noSelect l.toArray = true) (hf : Region.free md l.toArray listed i = true) (hr : (Region.ready md l.toArray listed).contains i = true)
    (hQ : ∀ c a w, Q (.panic c) (a.put oi.dst undef) w → Q (.panic c) a w) (hw : Region.wanted oi (yielded l.toArray a.tmps) = false) (hS : Later w0 w)
    (h : wpAnyH P md l.toArray Q (Later w0) fuel (listed.setIfInBounds i true) (a.put oi.dst undef) w) : wpAnyH P md l.toArray Q (Later w0) (fuel + 1) listed a w :=
  wpAnyH_take (by rw [List.getElem?_toArray]; exact hi) hs hf hr hQ (.inr ⟨hw, rfl⟩) hS h

def AllNexth (P : Program) (md : Region.Mode) (l : List Oper) (Q : Exit → Act → World → Prop) (w0 : World) (fuel : Nat) (listed : Array Bool) (a : Act) (w : World) (rs : List Nat) : Prop :=
  ∀ i ∈ rs, wpOp P l.toArray Q i (fun a' w' => ∃ wb, Later w0 wb ∧ Later wb w' ∧ wpAnyH P md l.toArray Q (Later wb) fuel (listed.setIfInBounds i true) a' w') a w

theorem AllNexth.nil {l : List Oper} {fuel : Nat} {listed : Array Bool} {a : Act} {w : World} : AllNexth P md l Q w0 fuel listed a w [] := fun _ h => by cases h

theorem AllNexth.cons {l : List Oper} {fuel : Nat} {listed : Array Bool} {a : Act} {w : World} {i : Nat} {o : Oper} {rs : List Nat} (ho : l[i]? = some o)
    (h : ∀ K' : Act → World → Prop, Shut (∀ a wb w', Later w0 wb → Later wb w' → wpAnyH P md l.toArray Q (Later wb) fuel (listed.setIfInBounds i true) a w' → K' a w') → if Region.wanted o (yielded l.toArray a.tmps) = true then Oper.wp P o a w K' Q else K' (a.put o.dst undef) w)
    (hs : AllNexth P md l Q w0 fuel listed a w rs) : AllNexth P md l Q w0 fuel listed a w (i :: rs) := fun j hj => by
  rcases List.mem_cons.1 hj with rfl | hj
  · exact wpOp_step (by rw [List.getElem?_toArray]; exact ho) (fun K' hK => h K' (fun a wb w h1 h2 hW => hK a w ⟨wb, h1, h2, hW⟩))
  · exact hs j hj

theorem rh_ready (rs : List Nat) {l : List Oper} {fuel : Nat} {listed : Array Bool} {a : Act} {w : World} (hr : Region.ready md l.toArray listed = rs) (hne : rs ≠ [])
    (h : AllNexth P md l Q w0 fuel listed a w rs) : wpAnyH P md l.toArray Q (Later w0) (fuel + 1) listed a w :=
  wpAnyH_all hr hne fun i hi => wpOp_mono (fun a' w' ⟨wb, h1, h2, h3⟩ => ⟨h1.trans h2, wpAnyH_mono (fun _ hx => Fr.trans h1 hx) _ _ _ _ h3⟩) (h i hi)

/-- One operation alone may come up. -/
theorem rh_one (i : Nat) {l : List Oper} {o : Oper} {fuel : Nat} {listed : Array Bool} {a : Act} {w : World} (ho : l[i]? = some o) (hr : Region.ready md l.toArray listed = [i])
    (h : ∀ K' : Act → World → Prop, Shut (∀ a wb w', Later w0 wb → Later wb w' → wpAnyH P md l.toArray Q (Later wb) fuel (listed.setIfInBounds i true) a w' → K' a w') → if Region.wanted o (yielded l.toArray a.tmps) = true then Oper.wp P o a w K' Q else K' (a.put o.dst undef) w) :
    wpAnyH P md l.toArray Q (Later w0) (fuel + 1) listed a w :=
  rh_ready [i] hr (by simp) (AllNexth.cons ho h AllNexth.nil)

theorem rh_done {l : List Oper} {listed : Array Bool} {a : Act} {w : World} {S : World → Prop} {fuel : Nat} (hr : Region.ready md l.toArray listed = []) (h : Q .normal a w) : wpAnyH P md l.toArray Q S fuel listed a w :=
  wpAnyH_done hr h fuel
end
end Go.Proofs.Ytlpigldogglmcaa
