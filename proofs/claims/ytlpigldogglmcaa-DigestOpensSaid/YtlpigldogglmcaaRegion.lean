/- A drawn region with calls, step by step: an operation that yields in every later world may be taken first; a call gives its contract, and from there on "later" means: later than the call's end. No program in sight. -/
import Derived.Test.YtlpigldogglmcaaBase
import Derived.Deep.RegionHeld
set_option linter.unusedVariables false
set_option linter.unusedSimpArgs false
namespace Go.Proofs.Ytlpigldogglmcaa

section
variable {P : Program} {Q : Exit → Act → World → Prop} {md : Region.Mode}

/-- Later worlds, in which no old block has changed. -/
abbrev Later (w : World) : World → Prop := Fr (fun _ => False) w

theorem wpAnyH_mono {ops : Array Oper} {S S' : World → Prop} (hSS : ∀ w, S' w → S w) :
    ∀ (fuel : Nat) (listed : Array Bool) (a : Act) (w : World), wpAnyH P md ops Q S' fuel listed a w → wpAnyH P md ops Q S fuel listed a w
  | 0, _, _, _, h => h
  | fuel + 1, _, _, _, h => ⟨h.1, fun i hi => wpOp_mono (fun a' w' h' => ⟨hSS _ h'.1, wpAnyH_mono hSS fuel _ a' w' h'.2⟩) (h.2 i hi)⟩

theorem rg_start (n : Nat) {id : Nat} {l : List Oper} {a : Act} {w : World} (hm : P.follows .mixedOrders = true) (hn : l.length = n)
    (h : wpAnyH P .any l.toArray Q (Later w.drew) n (Array.replicate n false) a w.drew) : (Code.region id l.toArray true).wp P Q a w := by
  subst hn
  exact wp_region_held hm h

theorem rg_take (i : Nat) {l : List Oper} {oi : Oper} {v : Value} {fuel : Nat} {listed : Array Bool} {a : Act} {w : World} (hi : l[i]? = some oi)
    (hs : Region.noSelect l.toArray = true) (hf : Region.free md l.toArray listed i = true) (hr : (Region.ready md l.toArray listed).contains i = true)
    (hQ : ∀ c a w, Q (.panic c) (a.put oi.dst v) w → Q (.panic c) a w) (hw : Region.wanted oi (yielded l.toArray a.tmps) = true)
    (hy : ∀ w', Later w w' → (execOp a.eval oi).run P w' = .ok (.value v) w')
    (h : wpAnyH P md l.toArray Q (Later w) fuel (listed.setIfInBounds i true) (a.put oi.dst v) w) : wpAnyH P md l.toArray Q (Later w) (fuel + 1) listed a w :=
  wpAnyH_take (by rw [List.getElem?_toArray]; exact hi) hs hf hr hQ (.inl ⟨hw, hy⟩) (Fr.refl _ _) h

theorem rg_skip (i : Nat) {l : List Oper} {oi : Oper} {fuel : Nat} {listed : Array Bool} {a : Act} {w : World} (hi : l[i]? = some oi)
    (hs : Region.noSelect l.toArray = true) (hf : Region.free md l.toArray listed i = true) (hr : (Region.ready md l.toArray listed).contains i = true)
    (hQ : ∀ c a w, Q (.panic c) (a.put oi.dst undef) w → Q (.panic c) a w) (hw : Region.wanted oi (yielded l.toArray a.tmps) = false)
    (h : wpAnyH P md l.toArray Q (Later w) fuel (listed.setIfInBounds i true) (a.put oi.dst undef) w) : wpAnyH P md l.toArray Q (Later w) (fuel + 1) listed a w :=
  wpAnyH_take (by rw [List.getElem?_toArray]; exact hi) hs hf hr hQ (.inr ⟨hw, rfl⟩) (Fr.refl _ _) h

def AllNext (P : Program) (md : Region.Mode) (l : List Oper) (Q : Exit → Act → World → Prop) (fuel : Nat) (listed : Array Bool) (a : Act) (w : World) (rs : List Nat) : Prop :=
  ∀ i ∈ rs, wpOp P l.toArray Q i (fun a' w' => Later w w' ∧ wpAnyH P md l.toArray Q (Later w') fuel (listed.setIfInBounds i true) a' w') a w

theorem AllNext.nil {l : List Oper} {fuel : Nat} {listed : Array Bool} {a : Act} {w : World} : AllNext P md l Q fuel listed a w [] := fun _ h => by cases h

theorem AllNext.cons {l : List Oper} {fuel : Nat} {listed : Array Bool} {a : Act} {w : World} {i : Nat} {o : Oper} {rs : List Nat} (ho : l[i]? = some o)
    (h : ∀ K' : Act → World → Prop, Shut (∀ a w', Later w w' → wpAnyH P md l.toArray Q (Later w') fuel (listed.setIfInBounds i true) a w' → K' a w') → if Region.wanted o (yielded l.toArray a.tmps) = true then Oper.wp P o a w K' Q else K' (a.put o.dst undef) w)
    (hs : AllNext P md l Q fuel listed a w rs) : AllNext P md l Q fuel listed a w (i :: rs) := fun j hj => by
  rcases List.mem_cons.1 hj with rfl | hj
  · exact wpOp_step (by rw [List.getElem?_toArray]; exact ho) (fun K' hK => h K' (fun a w hS hW => hK a w ⟨hS, hW⟩))
  · exact hs j hj

theorem rg_ready (rs : List Nat) {l : List Oper} {fuel : Nat} {listed : Array Bool} {a : Act} {w : World} (hr : Region.ready md l.toArray listed = rs) (hne : rs ≠ [])
    (h : AllNext P md l Q fuel listed a w rs) : wpAnyH P md l.toArray Q (Later w) (fuel + 1) listed a w :=
  wpAnyH_all hr hne fun i hi => wpOp_mono (fun a' w' h' => ⟨h'.1, wpAnyH_mono (fun _ hx => Fr.trans h'.1 hx) _ _ _ _ h'.2⟩) (h i hi)

/-- One call alone may come up. -/
theorem rg_one (i : Nat) {l : List Oper} {o : Oper} {fuel : Nat} {listed : Array Bool} {a : Act} {w : World} (ho : l[i]? = some o) (hr : Region.ready md l.toArray listed = [i])
    (h : ∀ K' : Act → World → Prop, Shut (∀ a w', Later w w' → wpAnyH P md l.toArray Q (Later w') fuel (listed.setIfInBounds i true) a w' → K' a w') → if Region.wanted o (yielded l.toArray a.tmps) = true then Oper.wp P o a w K' Q else K' (a.put o.dst undef) w) :
    wpAnyH P md l.toArray Q (Later w) (fuel + 1) listed a w :=
  rg_ready [i] hr (by simp) (AllNext.cons ho h AllNext.nil)

theorem rg_done {l : List Oper} {listed : Array Bool} {a : Act} {w : World} {S : World → Prop} {fuel : Nat} (hr : Region.ready md l.toArray listed = []) (h : Q .normal a w) : wpAnyH P md l.toArray Q S fuel listed a w :=
  wpAnyH_done hr h fuel
end
end Go.Proofs.Ytlpigldogglmcaa
