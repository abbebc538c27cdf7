/- Texts of Cod, merged (4 of 27): Reg3, CmdD, IdS, Cmds. -/
import Derived.Test.YtelfpnpplknlpaaGCod3
import Derived.Laws.Strings
set_option linter.unusedVariables false
set_option linter.unusedSimpArgs false
/- A drawing region, step by step: an operation that yields in every world that meets S is taken first; S is kept behind every operation but the late ones, each of which waits for what is taken, or for another late one. No program in sight. -/
namespace Go.Proofs.Ytelfpnpplknlpaa

section
variable {P : Program} {ops : Array Oper} {Q : Exit → Act → World → Prop} {md : Region.Mode} {S : World → Prop} {s : List Nat}

theorem late_abs {p : Prop} {b : Bool} (h : b = false) : b = true → p := fun h' => by rw [h] at h'; cases h'
/-- No late operation is listed. -/
def noLate (s : List Nat) (listed : Array Bool) : Bool := s.all fun j => !listed.getD j true
/-- No late operation is listed; each waits for number i, or for a late one. -/
def lateOk (md : Region.Mode) (ops : Array Oper) (s : List Nat) (listed : Array Bool) (i : Nat) : Bool :=
  !s.contains i && s.all fun j => (!listed.getD j true) && (match ops[j]? with
    | some o => o.after.any fun e => Region.binds md e && (e.on == i || s.contains e.on)
    | none => true)

def wpAnyT (P : Program) (md : Region.Mode) (ops : Array Oper) (Q : Exit → Act → World → Prop) (s : List Nat) (S : World → Prop) : Nat → Array Bool → Act → World → Prop
  | 0, listed, a, w => Region.ready md ops listed = [] ∧ Q .normal a w
  | fuel + 1, listed, a, w =>
    (Region.ready md ops listed = [] → Q .normal a w) ∧
    ∀ i ∈ Region.ready md ops listed, wpOp P ops Q i (fun a' w' => (noLate s (listed.setIfInBounds i true) = true → S w') ∧ wpAnyT P md ops Q s S fuel (listed.setIfInBounds i true) a' w') a w

theorem wpAny_of_T : ∀ (fuel : Nat) (listed : Array Bool) (a : Act) (w : World), wpAnyT P md ops Q s S fuel listed a w → wpAny P md ops Q fuel listed a w
  | 0, _, _, _, h => h
  | fuel + 1, _, _, _, h => ⟨h.1, fun i hi => wpOp_mono (fun a' w' h' => wpAny_of_T fuel _ a' w' h'.2) (h.2 i hi)⟩

theorem wpAnyT_mono {S' : World → Prop} (hSS : ∀ w, S' w → S w) :
    ∀ (fuel : Nat) (listed : Array Bool) (a : Act) (w : World), wpAnyT P md ops Q s S' fuel listed a w → wpAnyT P md ops Q s S fuel listed a w
  | 0, _, _, _, h => h
  | fuel + 1, _, _, _, h => ⟨h.1, fun i hi => wpOp_mono (fun a' w' h' => ⟨fun hn => hSS _ (h'.1 hn), wpAnyT_mono hSS fuel _ a' w' h'.2⟩) (h.2 i hi)⟩

theorem noLate_set {i : Nat} (hi : ¬ i ∈ s) (listed : Array Bool) : noLate s (listed.setIfInBounds i true) = noLate s listed := by
  unfold noLate
  rw [Bool.eq_iff_iff, List.all_eq_true, List.all_eq_true]
  refine forall_congr' fun l => forall_congr' fun hl => ?_
  have hne : i ≠ l := fun e => hi (e ▸ hl)
  rw [getD_set_ne true hne]
theorem lateOk_spec {listed : Array Bool} {i : Nat} (h : lateOk md ops s listed i = true) : (¬ i ∈ s) ∧ noLate s listed = true ∧ ∀ j, j ∈ s → ∀ o, ops[j]? = some o → ∃ e, e ∈ o.after ∧ Region.binds md e = true ∧ (e.on = i ∨ e.on ∈ s) := by
  unfold lateOk at h
  rw [Bool.and_eq_true, List.all_eq_true] at h
  refine ⟨by simpa using h.1, List.all_eq_true.2 fun j hj => ?_, fun j hj o ho => ?_⟩
  · have := h.2 j hj
    rw [Bool.and_eq_true] at this
    exact this.1
  · have := h.2 j hj
    rw [ho, Bool.and_eq_true] at this
    have h2 := this.2
    simp only [Array.any_eq_true, Bool.and_eq_true, Bool.or_eq_true, beq_iff_eq, List.contains_iff_mem] at h2
    obtain ⟨n, hn, hb, he⟩ := h2
    exact ⟨_, Array.getElem_mem hn, hb, he⟩

theorem wpAnyT_first {i : Nat} {oi : Oper} {v : Value} (hi : ops[i]? = some oi) (hsel : ∀ (j : Nat) (o : Oper) cs b, ops[j]? = some o → o.op ≠ .select cs b)
    (hQ : ∀ c a w, Q (.panic c) (a.put oi.dst v) w → Q (.panic c) a w) :
    ∀ (fuel : Nat) (listed : Array Bool) (a : Act) (w : World),
      (∀ j oj, ops[j]? = some oj → j ≠ i → listed.getD j true = false → (∀ e ∈ oj.after, Region.binds md e = true → e.on ≠ i) → oi.apart ops oj = true) →
      i ∈ Region.ready md ops listed → lateOk md ops s listed i = true → YieldsIf P ops S oi v a → S w →
      wpAnyT P md ops Q s S fuel (listed.setIfInBounds i true) (a.put oi.dst v) w → wpAnyT P md ops Q s S (fuel + 1) listed a w := by
  intro fuel
  induction fuel with
  | zero =>
    intro listed a w _ hr hwait hy hS H
    refine ⟨fun h => (by rw [h] at hr; cases hr), fun j hj => ?_⟩
    by_cases hji : j = i
    · subst hji; exact hy.wpOp hi hS ⟨fun _ => hS, H⟩
    · have := ready_mono hj hji
      rw [H.1] at this
      cases this
  | succ fuel ih =>
    intro listed a w hfree hr hwait hy hS H
    refine ⟨fun h => (by rw [h] at hr; cases hr), fun j hj => ?_⟩
    by_cases hji : j = i
    · subst hji; exact hy.wpOp hi hS ⟨fun _ => hS, H⟩
    · have h1 := H.2 j (ready_mono hj hji)
      obtain ⟨hjun, oj, hoj, hall⟩ := mem_ready.1 hj
      have hnot : ∀ e ∈ oj.after, Region.binds md e = true → e.on ≠ i := fun e he hb heq => by
        have h1 := hall e he hb
        have h0 := (mem_ready.1 hr).1
        rw [heq] at h1
        rcases Nat.lt_or_ge i listed.size with h' | h'
        · simp [h'] at h0 h1; rw [h0] at h1; cases h1
        · simp [Array.getElem?_eq_none h'] at h1
      obtain ⟨hni, hnl, hdep⟩ := lateOk_spec hwait
      have hun' : ∀ l, l ∈ s → listed.getD l true = false := fun l hl => by
        have := List.all_eq_true.1 hnl l hl
        simpa using this
      have hjs : ¬ j ∈ s := fun hj' => by
        obtain ⟨e, hmem, hb, he⟩ := hdep j hj' oj hoj
        rcases he with he | he
        · exact hnot _ hmem hb he
        · have h1 := hall _ hmem hb
          have h0 := hun' _ he
          rcases Nat.lt_or_ge e.on listed.size with h' | h'
          · simp [h'] at h0 h1; rw [h0] at h1; cases h1
          · simp [Array.getElem?_eq_none h'] at h1
      have hnj : noLate s (listed.setIfInBounds j true) = true := by rw [noLate_set hjs]; exact hnl
      have hnij : noLate s ((listed.setIfInBounds i true).setIfInBounds j true) = true := by rw [noLate_set hjs, noLate_set hni]; exact hnl
      have hwait' : lateOk md ops s (listed.setIfInBounds j true) i = true := by
        unfold lateOk at hwait ⊢
        rw [Bool.and_eq_true, List.all_eq_true] at hwait ⊢
        refine ⟨hwait.1, fun l hl => ?_⟩
        have h3 := hwait.2 l hl
        have hne : j ≠ l := fun e => hjs (e ▸ hl)
        rw [getD_set_ne true hne]
        exact h3
      have h2 := wpOp_putIf hoj (hfree j oj hoj hji hjun hnot) (fun cs b => hsel i oi cs b hi) (fun cs b => hsel j oj cs b hoj) hQ hy h1
      have hfree' : ∀ k ok, ops[k]? = some ok → k ≠ i → (listed.setIfInBounds j true).getD k true = false →
          (∀ e ∈ ok.after, Region.binds md e = true → e.on ≠ i) → oi.apart ops ok = true := fun k ok hk hki hun hno => by
        refine hfree k ok hk hki ?_ hno
        by_cases hjk : j = k
        · subst hjk; exact hjun
        · rw [getD_set_ne true hjk] at hun; exact hun
      refine wpOp_mono (fun a' w' h3 => ⟨fun _ => h3.2.1 hnij, ih (listed.setIfInBounds j true) a' w' hfree' (ready_mono hr (Ne.symm hji)) hwait' h3.1 (h3.2.1 hnij) ?_⟩) h2
      rw [Array.setIfInBounds_comm _ _ hji]
      exact h3.2.2
theorem wpAnyT_free {i : Nat} {oi : Oper} {v : Value} (hi : ops[i]? = some oi) (hsel : ∀ (j : Nat) (o : Oper) cs b, ops[j]? = some o → o.op ≠ .select cs b)
    (hQ : ∀ c a w, Q (.panic c) (a.put oi.dst v) w → Q (.panic c) a w) :
    ∀ (fuel : Nat) (listed : Array Bool) (a : Act) (w : World),
      (∀ j oj, ops[j]? = some oj → j ≠ i → listed.getD j true = false → (∀ e ∈ oj.after, Region.binds md e = true → e.on ≠ i) → oi.apart ops oj = true) →
      i ∈ Region.ready md ops listed → ¬ i ∈ s → YieldsIf P ops (fun _ => True) oi v a → (noLate s listed = true → S w) →
      wpAnyT P md ops Q s S fuel (listed.setIfInBounds i true) (a.put oi.dst v) w → wpAnyT P md ops Q s S (fuel + 1) listed a w := by
  intro fuel
  induction fuel with
  | zero =>
    intro listed a w _ hr hwait hy hS H
    refine ⟨fun h => (by rw [h] at hr; cases hr), fun j hj => ?_⟩
    by_cases hji : j = i
    · subst hji; exact hy.wpOp hi trivial ⟨fun h => hS (by rwa [noLate_set hwait] at h), H⟩
    · have := ready_mono hj hji
      rw [H.1] at this
      cases this
  | succ fuel ih =>
    intro listed a w hfree hr hwait hy hS H
    refine ⟨fun h => (by rw [h] at hr; cases hr), fun j hj => ?_⟩
    by_cases hji : j = i
    · subst hji; exact hy.wpOp hi trivial ⟨fun h => hS (by rwa [noLate_set hwait] at h), H⟩
    · have h1 := H.2 j (ready_mono hj hji)
      obtain ⟨hjun, oj, hoj, hall⟩ := mem_ready.1 hj
      have hnot : ∀ e ∈ oj.after, Region.binds md e = true → e.on ≠ i := fun e he hb heq => by
        have h1 := hall e he hb
        have h0 := (mem_ready.1 hr).1
        rw [heq] at h1
        rcases Nat.lt_or_ge i listed.size with h' | h'
        · simp [h'] at h0 h1; rw [h0] at h1; cases h1
        · simp [Array.getElem?_eq_none h'] at h1
      have hnij : noLate s (listed.setIfInBounds j true) = true → noLate s ((listed.setIfInBounds i true).setIfInBounds j true) = true := fun h => by
        rw [Array.setIfInBounds_comm _ _ (Ne.symm hji), noLate_set hwait]; exact h
      have h2 := wpOp_putIf hoj (hfree j oj hoj hji hjun hnot) (fun cs b => hsel i oi cs b hi) (fun cs b => hsel j oj cs b hoj) hQ hy h1
      have hfree' : ∀ k ok, ops[k]? = some ok → k ≠ i → (listed.setIfInBounds j true).getD k true = false →
          (∀ e ∈ ok.after, Region.binds md e = true → e.on ≠ i) → oi.apart ops ok = true := fun k ok hk hki hun hno => by
        refine hfree k ok hk hki ?_ hno
        by_cases hjk : j = k
        · subst hjk; exact hjun
        · rw [getD_set_ne true hjk] at hun; exact hun
      refine wpOp_mono (fun a' w' h3 => ⟨fun h => h3.2.1 (hnij h), ih (listed.setIfInBounds j true) a' w' hfree' (ready_mono hr (Ne.symm hji)) hwait h3.1 (fun h => h3.2.1 (hnij h)) ?_⟩) h2
      rw [Array.setIfInBounds_comm _ _ hji]
      exact h3.2.2
end

section
variable {P : Program} {Q : Exit → Act → World → Prop} {md : Region.Mode} {S : World → Prop} {s : List Nat}

theorem rt_start (s : List Nat) (S : World → Prop) (n : Nat) {id : Nat} {l : List Oper} {a : Act} {w : World} (hm : P.follows .mixedOrders = true) (hn : l.length = n)
    (h : wpAnyT P .any l.toArray Q s S n (Array.replicate n false) a w.drew) : (Code.region id l.toArray true).wp P Q a w := by
  subst hn
  exact wp_region_any hm (wpAny_of_T _ _ _ _ h)

theorem rt_take (i : Nat) {l : List Oper} {oi : Oper} {v : Value} {fuel : Nat} {listed : Array Bool} {a : Act} {w : World} (hi : l[i]? = some oi)
    (hs : Region.noSelect l.toArray = true) (hf : Region.free md l.toArray listed i = true) (hr : (Region.ready md l.toArray listed).contains i = true) (hwait : lateOk md l.toArray s listed i = true)
    (hQ : ∀ c a w, Q (.panic c) (a.put oi.dst v) w → Q (.panic c) a w) (hw : Region.wanted oi (yielded l.toArray a.tmps) = true) (hS : S w)
    (hy : ∀ w', S w' → (execOp a.eval oi).run P w' = .ok (.value v) w')
    (h : wpAnyT P md l.toArray Q s S fuel (listed.setIfInBounds i true) (a.put oi.dst v) w) : wpAnyT P md l.toArray Q s S (fuel + 1) listed a w :=
  wpAnyT_first (by rw [List.getElem?_toArray]; exact hi) (Region.noSelect_spec hs) hQ fuel listed a w (Region.free_spec (by rw [List.getElem?_toArray]; exact hi) hf) (by simpa using hr) hwait (.inl ⟨hw, hy⟩) hS h

theorem rt_free (i : Nat) {l : List Oper} {oi : Oper} {v : Value} {fuel : Nat} {listed : Array Bool} {a : Act} {w : World} (hi : l[i]? = some oi)
    (hs : Region.noSelect l.toArray = true) (hf : Region.free md l.toArray listed i = true) (hr : (Region.ready md l.toArray listed).contains i = true) (hni : s.contains i = false)
    (hQ : ∀ c a w, Q (.panic c) (a.put oi.dst v) w → Q (.panic c) a w) (hw : Region.wanted oi (yielded l.toArray a.tmps) = true) (hS : noLate s listed = true → S w)
    (hy : ∀ w', (execOp a.eval oi).run P w' = .ok (.value v) w')
    (h : wpAnyT P md l.toArray Q s S fuel (listed.setIfInBounds i true) (a.put oi.dst v) w) : wpAnyT P md l.toArray Q s S (fuel + 1) listed a w :=
  wpAnyT_free (by rw [List.getElem?_toArray]; exact hi) (Region.noSelect_spec hs) hQ fuel listed a w (Region.free_spec (by rw [List.getElem?_toArray]; exact hi) hf) (by simpa using hr) (by simpa using hni) (.inl ⟨hw, fun w' _ => hy w'⟩) hS h

theorem rt_skip (i : Nat) {l : List Oper} {oi : Oper} {fuel : Nat} {listed : Array Bool} {a : Act} {w : World} (hi : l[i]? = some oi)
    (hs : Region.noSelect l.toArray = true) (hf : Region.free md l.toArray listed i = true) (hr : (Region.ready md l.toArray listed).contains i = true) (hni : s.contains i = false)
    (hQ : ∀ c a w, Q (.panic c) (a.put oi.dst undef) w → Q (.panic c) a w) (hw : Region.wanted oi (yielded l.toArray a.tmps) = false) (hS : noLate s listed = true → S w)
    (h : wpAnyT P md l.toArray Q s S fuel (listed.setIfInBounds i true) (a.put oi.dst undef) w) : wpAnyT P md l.toArray Q s S (fuel + 1) listed a w :=
  wpAnyT_free (by rw [List.getElem?_toArray]; exact hi) (Region.noSelect_spec hs) hQ fuel listed a w (Region.free_spec (by rw [List.getElem?_toArray]; exact hi) hf) (by simpa using hr) (by simpa using hni) (.inr ⟨hw, rfl⟩) hS h

def AllNextt (P : Program) (md : Region.Mode) (l : List Oper) (Q : Exit → Act → World → Prop) (s : List Nat) (S : World → Prop) (fuel : Nat) (listed : Array Bool) (a : Act) (w : World) (rs : List Nat) : Prop :=
  ∀ i ∈ rs, wpOp P l.toArray Q i (fun a' w' => ∃ S', (∀ x, S' x → S x) ∧ (noLate s (listed.setIfInBounds i true) = true → S' w') ∧ wpAnyT P md l.toArray Q s S' fuel (listed.setIfInBounds i true) a' w') a w

theorem AllNextt.nil {l : List Oper} {fuel : Nat} {listed : Array Bool} {a : Act} {w : World} : AllNextt P md l Q s S fuel listed a w [] := fun _ h => by cases h

theorem AllNextt.cons {l : List Oper} {fuel : Nat} {listed : Array Bool} {a : Act} {w : World} {i : Nat} {o : Oper} {rs : List Nat} (ho : l[i]? = some o)
    (h : ∀ K' : Act → World → Prop, Shut (∀ (S' : World → Prop) a w', (∀ x, S' x → S x) → (noLate s (listed.setIfInBounds i true) = true → S' w') → wpAnyT P md l.toArray Q s S' fuel (listed.setIfInBounds i true) a w' → K' a w') → if Region.wanted o (yielded l.toArray a.tmps) = true then Oper.wp P o a w K' Q else K' (a.put o.dst undef) w)
    (hs : AllNextt P md l Q s S fuel listed a w rs) : AllNextt P md l Q s S fuel listed a w (i :: rs) := fun j hj => by
  rcases List.mem_cons.1 hj with rfl | hj
  · exact wpOp_step (by rw [List.getElem?_toArray]; exact ho) (fun K' hK => h K' (fun S' a w h1 h2 hW => hK a w ⟨S', h1, h2, hW⟩))
  · exact hs j hj

theorem rt_ready (rs : List Nat) {l : List Oper} {fuel : Nat} {listed : Array Bool} {a : Act} {w : World} (hr : Region.ready md l.toArray listed = rs) (hne : rs ≠ [])
    (h : AllNextt P md l Q s S fuel listed a w rs) : wpAnyT P md l.toArray Q s S (fuel + 1) listed a w :=
  ⟨fun h0 => absurd (hr ▸ h0) hne, hr ▸ fun i hi => wpOp_mono (fun a' w' ⟨S', h1, h2, h3⟩ => ⟨fun hn => h1 _ (h2 hn), wpAnyT_mono h1 _ _ _ _ h3⟩) (h i hi)⟩

/-- One operation alone may come up. -/
theorem rt_one (i : Nat) {l : List Oper} {o : Oper} {fuel : Nat} {listed : Array Bool} {a : Act} {w : World} (ho : l[i]? = some o) (hr : Region.ready md l.toArray listed = [i])
    (h : ∀ K' : Act → World → Prop, Shut (∀ (S' : World → Prop) a w', (∀ x, S' x → S x) → (noLate s (listed.setIfInBounds i true) = true → S' w') → wpAnyT P md l.toArray Q s S' fuel (listed.setIfInBounds i true) a w' → K' a w') → if Region.wanted o (yielded l.toArray a.tmps) = true then Oper.wp P o a w K' Q else K' (a.put o.dst undef) w) :
    wpAnyT P md l.toArray Q s S (fuel + 1) listed a w :=
  rt_ready [i] hr (by simp) (AllNextt.cons ho h AllNextt.nil)

theorem rt_done {l : List Oper} {listed : Array Bool} {a : Act} {w : World} {fuel : Nat} (hr : Region.ready md l.toArray listed = []) (h : Q .normal a w) : wpAnyT P md l.toArray Q s S fuel listed a w :=
  match fuel with
  | 0 => ⟨hr, h⟩
  | _ + 1 => ⟨fun _ => h, by rw [hr]; simp⟩
end
end Go.Proofs.Ytelfpnpplknlpaa
/- Commands: what their cells are. -/
namespace Go.Proofs.Ytelfpnpplknlpaa
open Go.RowKit
open Go.Proofs.YtelfpnpplknlpaaW.PrintWords

noncomputable def cdec (p : Prop) : Bool := @decide p (Classical.propDecidable p)
theorem cdec_true {p : Prop} (h : p) : cdec p = true := by unfold cdec; exact @decide_eq_true p (Classical.propDecidable p) h
theorem cdec_false {p : Prop} (h : ¬ p) : cdec p = false := by unfold cdec; exact @decide_eq_false p (Classical.propDecidable p) h
abbrev Cmd := Int × ByteArray × Nat
abbrev cmdV (a : Cmd) : Value := .agg #[.int .i64 a.1, .string a.2.1, .float .f64 a.2.2]
def cmdK : Kd Cmd := Kd.pair (Kd.int .i64) (Kd.pair Kd.string kfloat)
def CmdOk (a : Cmd) : Prop := a.2.2 < 18446744073709551616
theorem cmdK_M (w : World) (base : Nat) (ok : Nat → Prop) (a : Cmd) : cmdK.M w base ok a [.int .i64 a.1, .string a.2.1, .float .f64 a.2.2] := ⟨[.int .i64 a.1], [.string a.2.1, .float .f64 a.2.2], rfl, rfl, [.string a.2.1], [.float .f64 a.2.2], rfl, rfl, rfl⟩
theorem cmdK_K {w : World} {a : Cmd} {c : List Value} (h : cmdK.K w a c) : c = [.int .i64 a.1, .string a.2.1, .float .f64 a.2.2] := by
  obtain ⟨c0, c1, rfl, h0, c2, c3, rfl, h1, h2⟩ := h
  rw [show c0 = [.int .i64 a.1] from h0, show c2 = [.string a.2.1] from h1, show c3 = [.float .f64 a.2.2] from h2]
  rfl
def cmx (L : List Cmd) (i : Nat) : Cmd := L.getD i (0, ByteArray.empty, 0)
theorem cmx_eq {L : List Cmd} {i : Nat} (h : i < L.length) : cmx L i = L[i] := by unfold cmx; rw [List.getD_eq_getElem?_getD, List.getElem?_eq_getElem h]; rfl
theorem cmx_get {L : List Cmd} {i : Nat} (h : i < L.length) : L[i]? = some (cmx L i) := by rw [cmx_eq h, List.getElem?_eq_getElem h]
theorem cmx_mem {L : List Cmd} {i : Nat} (h : i < L.length) : cmx L i ∈ L := by rw [cmx_eq h]; exact List.getElem_mem h
theorem cmds_at {w : World} {A : Option Addr} {n : Nat} {L : List Cmd} (h : cmdK.C w A n L) {i : Nat} (hi : i < n) :
    ∃ b off, A = some ⟨b, off, none⟩ ∧ w.cell? ⟨b, off + i * 3, none⟩ = some (.int .i64 (cmx L i).1) ∧ w.cell? ⟨b, off + i * 3 + 1, none⟩ = some (.string (cmx L i).2.1) ∧ w.cell? ⟨b, off + i * 3 + 1 + 1, none⟩ = some (.float .f64 (cmx L i).2.2) := by
  obtain ⟨b, off, c, hi', hA, hc, hk, hcell⟩ := C_at h (by decide) hi
  rw [← cmx_eq hi'] at hk
  have hk := cmdK_K hk
  subst hk
  have hs : cmdK.sz = 3 := rfl
  rw [hs] at hcell
  exact ⟨b, off, hA, hcell 0 _ rfl, hcell 1 _ rfl, hcell 2 _ rfl⟩
theorem toList_inj {a b : ByteArray} (h : a.toList = b.toList) : a = b := by
  rw [ByteArray.toList_eq, ByteArray.toList_eq] at h
  exact ByteArray.ext (Array.ext' h)
theorem beq_list {a b : ByteArray} : (a.toList == b.toList) = cdec (a = b) := by
  by_cases h : a = b
  · subst h; rw [cdec_true rfl]; simp
  · rw [cdec_false h, beq_eq_false_iff_ne]; exact fun e => h (toList_inj e)
def cmdS (a b : Cmd) : Prop := a.1 = b.1 ∧ a.2.1 = b.2.1 ∧ key a.2.2 = key b.2.2
end Go.Proofs.Ytelfpnpplknlpaa
/- Lists of ids: what the reference's Same tells. -/
namespace Go.Proofs.Ytelfpnpplknlpaa
open Go.RowKit
open Go.Proofs.YtelfpnpplknlpaaW.PrintWords

set_option maxHeartbeats 1000000 in
theorem ids_same (A A' : Option Addr) (n c n' c' : Nat) (L L' : List (Int × Int)) (w : World) (h : idK.C w A n L) (h' : idK.C w A' n' L') (hn : n ≤ 9223372036854775807) (hn' : n' ≤ 9223372036854775807) :
    Calls Try.prog 21 #[.slice A n c, .slice A' n' c'] w fun r w' => r = .returned (.bool (decide (L = L'))) ∧ Fr (fun _ => False) w w' := by
  have hl : L.length = n := h.1
  have hl' : L'.length = n' := h'.1
  have HL := Lib.hid hl
  have HL' := Lib.hid hl'
  have HC := Lib.hid h
  have HC' := Lib.hid h'
  clear hl hl' h h'
  by_cases hnn : n = n'
  · subst hnn
    go_enter Try.func21, Try.ntmps21
    go_wp2
    go_loopw [5] (fun i wr => ∃ k : Nat, k ≤ n ∧ i = .int .i64 k ∧ L.take k = L'.take k ∧ Fr (fun _ => False) w wr) (fun i _ => n - (intOf i).toNat)
    case atStart => exact ⟨0, Nat.zero_le _, rfl, by simp, Fr.refl _ _⟩
    case round =>
      obtain ⟨k, hk, rfl, hno, hG⟩ := hrel
      replace hno := Lib.hid hno
      replace hG := Lib.hid hG
      rcases Nat.lt_or_ge k n with hlt | hge
      · obtain ⟨b, off, rfl, h0, h1⟩ := ids_at (Kd.C_below HC.out (hG.out.below (fun _ _ h => h))) hlt
        obtain ⟨b', off', rfl, h0', h1'⟩ := ids_at (Kd.C_below HC'.out (hG.out.below (fun _ _ h => h))) hlt
        have he := fun w => neqId (ida L k).1 (ida L k).2 (ida L' k).1 (ida L' k).2 w
        have g1 := Lib.hid (ida_get (L := L) (i := k) (by rw [HL.out]; exact hlt))
        have g2 := Lib.hid (ida_get (L := L') (i := k) (by rw [HL'.out]; exact hlt))
        by_cases hq : ida L k = ida L' k
        · have hqd : decide (((ida L k).1, (ida L k).2) = ((ida L' k).1, (ida L' k).2)) = true := decide_eq_true hq
          simp only [hqd, Bool.not_true] at he
          replace hq := Lib.hid hq
          clear hqd
          go_wp2
          go_quiet (fail)
          go_wp2
          go_roundw
          case rel => exact ⟨k + 1, by omega, by go_num, by rw [List.take_add_one, List.take_add_one, g1.out, g2.out, hno.out, hq.out], hG.out.drewN _⟩
          case measure => simp [intOf]; omega
        · have hqd : decide (((ida L k).1, (ida L k).2) = ((ida L' k).1, (ida L' k).2)) = false := decide_eq_false hq
          simp only [hqd, Bool.not_false] at he
          replace hq := Lib.hid hq
          clear hqd
          go_wp2
          go_quiet (fail)
          go_wp2
          go_ret
          refine ⟨ret_bool (decide_eq_false fun e => hq.out ?_).symm, hG.out.drewN _⟩
          rw [e]
      · go_wp2
        go_ret
        refine ⟨ret_bool (decide_eq_true ?_).symm, hG.out⟩
        have := hno.out
        rwa [List.take_of_length_le (by rw [HL.out]; exact hge), List.take_of_length_le (by rw [HL'.out]; exact hge)] at this
  · have t : ((n : Int) == (n' : Int)) = false := by simp; omega
    have t2 : ((n : Int) != (n' : Int)) = true := by simp; omega
    go_enter Try.func21, Try.ntmps21
    go_wp2
    go_ret
    exact ⟨ret_bool (decide_eq_false fun e => hnn (by rw [← HL.out, ← HL'.out, e])).symm, Fr.refl _ _⟩
end Go.Proofs.Ytelfpnpplknlpaa
/- Commands: which are the same, as the references tell. -/
namespace Go.Proofs.Ytelfpnpplknlpaa
open Go.RowKit
open Go.Proofs.YtelfpnpplknlpaaW.PrintWords

set_option maxHeartbeats 1000000 in
theorem ref_cmd (a b : Cmd) (w : World) (ha : CmdOk a) (hb : CmdOk b) : Calls Try.prog 46 #[cmdV a, cmdV b] w fun r w' => r = .returned (.bool (cdec (cmdS a b))) ∧ Fr (fun _ => False) w w' := by
  obtain ⟨a1, a2, a3⟩ := a
  obtain ⟨b1, b2, b3⟩ := b
  have hF := ((Fr.refl (fun _ => False) w).alloc (.cells #[.int .i64 a1, .string a2, .float .f64 a3] 58)).alloc (.cells #[.int .i64 b1, .string b2, .float .f64 b3] 58)
  have hse := beq_list (a := a2) (b := b2)
  have HA := Lib.hid ha
  have HB := Lib.hid hb
  clear ha hb
  by_cases h1 : a1 = b1
  · have t1 : (a1 == b1) = true := by simp [h1]
    by_cases h2 : a2 = b2
    · rw [cdec_true h2] at hse
      have hd : cdec (cmdS (a1, a2, a3) (b1, b2, b3)) = decide (key a3 = key b3) := by
        by_cases h3 : key a3 = key b3
        · rw [decide_eq_true h3]; exact cdec_true ⟨h1, h2, h3⟩
        · rw [decide_eq_false h3]; exact cdec_false fun h => h3 h.2.2
      rw [hd]
      have H1 := Lib.hid h1
      have H2 := Lib.hid h2
      clear h1 h2 hd
      go_enter Try.func46, Try.ntmps46
      go_wp2_with fail
      refine (ref_same a3 b3 _ HA.out HB.out).mono ?_
      rintro r w1 ⟨rfl, rfl⟩
      go_wp2_with fail
      go_ret
      exact ⟨rfl, hF⟩
    · rw [cdec_false h2] at hse
      rw [cdec_false (show ¬ cmdS (a1, a2, a3) (b1, b2, b3) from fun h => h2 h.2.1)]
      clear h1 h2
      go_enter Try.func46, Try.ntmps46
      go_wp2_with fail
      go_ret
      exact ⟨rfl, hF⟩
  · have t1 : (a1 == b1) = false := by simp [h1]
    rw [cdec_false (show ¬ cmdS (a1, a2, a3) (b1, b2, b3) from fun h => h1 h.1)]
    clear h1
    go_enter Try.func46, Try.ntmps46
    go_wp2_with fail
    go_ret
    exact ⟨rfl, hF⟩
def cmdsS (L L' : List Cmd) : Prop := L.length = L'.length ∧ ∀ i, i < L.length → cmdS (cmx L i) (cmx L' i)
theorem cmdsS_refl (L : List Cmd) : cmdsS L L := ⟨rfl, fun _ _ => ⟨rfl, rfl, rfl⟩⟩
set_option maxRecDepth 100000 in
set_option maxHeartbeats 1000000 in
theorem ref_cmds (A A' : Option Addr) (n c n' c' : Nat) (L L' : List Cmd) (w : World) (h : cmdK.C w A n L) (h' : cmdK.C w A' n' L') (hn : n ≤ 9223372036854775807) (hn' : n' ≤ 9223372036854775807) (hL : ∀ x ∈ L, CmdOk x) (hL' : ∀ x ∈ L', CmdOk x) :
    Calls Try.prog 22 #[.slice A n c, .slice A' n' c'] w fun r w' => r = .returned (.bool (cdec (cmdsS L L'))) ∧ Fr (fun _ => False) w w' := by
  have HL := Lib.hid (show L.length = n from h.1)
  have HL' := Lib.hid (show L'.length = n' from h'.1)
  have HC := Lib.hid h
  have HC' := Lib.hid h'
  have HO := Lib.hid hL
  have HO' := Lib.hid hL'
  clear h h' hL hL'
  by_cases hnn : n = n'
  · subst hnn
    go_enter Try.func22, Try.ntmps22
    go_wp2_with fail
    go_loopw [5] (fun i wr => ∃ k : Nat, k ≤ n ∧ i = .int .i64 k ∧ (∀ j, j < k → cmdS (cmx L j) (cmx L' j)) ∧ Fr (fun _ => False) w wr) (fun i _ => n - (intOf i).toNat)
    case atStart => exact ⟨0, Nat.zero_le _, rfl, fun _ h => by omega, Fr.refl _ _⟩
    case round =>
      obtain ⟨k, hk, rfl, hno, hG⟩ := hrel
      replace hno := Lib.hid hno
      replace hG := Lib.hid hG
      rcases Nat.lt_or_ge k n with hlt | hge
      · obtain ⟨b, off, rfl, h0, h1, h2⟩ := cmds_at (Kd.C_below HC.out (hG.out.below (fun _ _ h => h))) hlt
        obtain ⟨b', off', rfl, h0', h1', h2'⟩ := cmds_at (Kd.C_below HC'.out (hG.out.below (fun _ _ h => h))) hlt
        obtain ⟨St, hSt⟩ : ∃ St : World → Prop, St = Fr (fun _ => False) wr := ⟨_, rfl⟩
        have HT := Lib.hid (show ∀ w', Fr (fun _ => False) wr w' → At St w' from fun w' h => by unfold At; rw [hSt]; exact h)
        have e0 : ∀ w', At St w' → w'.cell? ⟨b, off + k * 3, none⟩ = some (.int .i64 (cmx L k).1) := fun w' h => by replace h := h.out; rw [hSt] at h; exact h.cell h0 (fun h => h)
        have e1 : ∀ w', At St w' → w'.cell? ⟨b, off + k * 3 + 1, none⟩ = some (.string (cmx L k).2.1) := fun w' h => by replace h := h.out; rw [hSt] at h; exact h.cell h1 (fun h => h)
        have e2 : ∀ w', At St w' → w'.cell? ⟨b, off + k * 3 + 1 + 1, none⟩ = some (.float .f64 (cmx L k).2.2) := fun w' h => by replace h := h.out; rw [hSt] at h; exact h.cell h2 (fun h => h)
        have e0' : ∀ w', At St w' → w'.cell? ⟨b', off' + k * 3, none⟩ = some (.int .i64 (cmx L' k).1) := fun w' h => by replace h := h.out; rw [hSt] at h; exact h.cell h0' (fun h => h)
        have e1' : ∀ w', At St w' → w'.cell? ⟨b', off' + k * 3 + 1, none⟩ = some (.string (cmx L' k).2.1) := fun w' h => by replace h := h.out; rw [hSt] at h; exact h.cell h1' (fun h => h)
        have e2' : ∀ w', At St w' → w'.cell? ⟨b', off' + k * 3 + 1 + 1, none⟩ = some (.float .f64 (cmx L' k).2.2) := fun w' h => by replace h := h.out; rw [hSt] at h; exact h.cell h2' (fun h => h)
        have hT0 := HT.out wr.drew (Fr.refl _ _).drew
        have q1 := Lib.hid (HO.out _ (cmx_mem (i := k) (by rw [HL.out]; exact hlt)))
        have q2 := Lib.hid (HO'.out _ (cmx_mem (i := k) (by rw [HL'.out]; exact hlt)))
        clear hSt h0 h1 h2 h0' h1' h2'
        by_cases hq : cmdS (cmx L k) (cmx L' k)
        · replace hq := Lib.hid hq
          go_wp2_with fail
          refine rt_start [] (At St) 10 (by kernel_rfl) rfl ?_
          refine rt_free 0 (v := ?_) rfl (by kernel_rfl) (by kernel_rfl) (by kernel_rfl) (by kernel_rfl) (fun _ _ _ h => h) (by rfl) (fun _ => by first | assumption | exact HS0 _ rfl | exact HT.out _ (by repeat (first | exact Fr.refl _ _ | apply Fr.drew | refine Fr.alloc ?_ _))) ?_ ?_
          rotate_left 1
          · intro w; go_simp <;> with_reducible rfl
          try simp only [Act.put, List.setIfInBounds_toArray, List.set_cons_zero, List.set_cons_succ]
          refine rt_free 1 (v := ?_) rfl (by kernel_rfl) (by kernel_rfl) (by kernel_rfl) (by kernel_rfl) (fun _ _ _ h => h) (by rfl) (fun _ => by first | assumption | exact HS0 _ rfl | exact HT.out _ (by repeat (first | exact Fr.refl _ _ | apply Fr.drew | refine Fr.alloc ?_ _))) ?_ ?_
          rotate_left 1
          · intro w; go_simp <;> with_reducible rfl
          try simp only [Act.put, List.setIfInBounds_toArray, List.set_cons_zero, List.set_cons_succ]
          refine rt_free 2 (v := ?_) rfl (by kernel_rfl) (by kernel_rfl) (by kernel_rfl) (by kernel_rfl) (fun _ _ _ h => h) (by rfl) (fun _ => by first | assumption | exact HS0 _ rfl | exact HT.out _ (by repeat (first | exact Fr.refl _ _ | apply Fr.drew | refine Fr.alloc ?_ _))) ?_ ?_
          rotate_left 1
          · intro w; go_simp <;> with_reducible rfl
          try simp only [Act.put, List.setIfInBounds_toArray, List.set_cons_zero, List.set_cons_succ]
          refine rt_take 3 (v := ?_) rfl (by kernel_rfl) (by kernel_rfl) (by kernel_rfl) (by kernel_rfl) (fun _ _ _ h => h) (by rfl) (by first | assumption | exact HS0 _ rfl | exact HT.out _ (by repeat (first | exact Fr.refl _ _ | apply Fr.drew | refine Fr.alloc ?_ _))) ?_ ?_
          rotate_left 1
          · intro w hSw; go_simp <;> with_reducible rfl
          try simp only [Act.put, List.setIfInBounds_toArray, List.set_cons_zero, List.set_cons_succ]
          refine rt_free 4 (v := ?_) rfl (by kernel_rfl) (by kernel_rfl) (by kernel_rfl) (by kernel_rfl) (fun _ _ _ h => h) (by rfl) (fun _ => by first | assumption | exact HS0 _ rfl | exact HT.out _ (by repeat (first | exact Fr.refl _ _ | apply Fr.drew | refine Fr.alloc ?_ _))) ?_ ?_
          rotate_left 1
          · intro w; go_simp <;> with_reducible rfl
          try simp only [Act.put, List.setIfInBounds_toArray, List.set_cons_zero, List.set_cons_succ]
          refine rt_free 5 (v := ?_) rfl (by kernel_rfl) (by kernel_rfl) (by kernel_rfl) (by kernel_rfl) (fun _ _ _ h => h) (by rfl) (fun _ => by first | assumption | exact HS0 _ rfl | exact HT.out _ (by repeat (first | exact Fr.refl _ _ | apply Fr.drew | refine Fr.alloc ?_ _))) ?_ ?_
          rotate_left 1
          · intro w; go_simp <;> with_reducible rfl
          try simp only [Act.put, List.setIfInBounds_toArray, List.set_cons_zero, List.set_cons_succ]
          refine rt_free 6 (v := ?_) rfl (by kernel_rfl) (by kernel_rfl) (by kernel_rfl) (by kernel_rfl) (fun _ _ _ h => h) (by rfl) (fun _ => by first | assumption | exact HS0 _ rfl | exact HT.out _ (by repeat (first | exact Fr.refl _ _ | apply Fr.drew | refine Fr.alloc ?_ _))) ?_ ?_
          rotate_left 1
          · intro w; go_simp <;> with_reducible rfl
          try simp only [Act.put, List.setIfInBounds_toArray, List.set_cons_zero, List.set_cons_succ]
          refine rt_take 7 (v := ?_) rfl (by kernel_rfl) (by kernel_rfl) (by kernel_rfl) (by kernel_rfl) (fun _ _ _ h => h) (by rfl) (by first | assumption | exact HS0 _ rfl | exact HT.out _ (by repeat (first | exact Fr.refl _ _ | apply Fr.drew | refine Fr.alloc ?_ _))) ?_ ?_
          rotate_left 1
          · intro w hSw; go_simp <;> with_reducible rfl
          try simp only [Act.put, List.setIfInBounds_toArray, List.set_cons_zero, List.set_cons_succ]
          refine rt_one 8 rfl (by kernel_rfl) (fun K hK => ?_)
          go_simp
          refine (ref_cmd (cmx L k) (cmx L' k) _ q1.out q2.out).mono ?_
          rintro r w1 ⟨rfl, hF1⟩
          rw [cdec_true hq.out]
          have F1 : Fr (fun _ => False) wr w1 := (Fr.refl _ _).drew.trans hF1
          have hT1 := HT.out _ F1
          go_wp2_with fail
          refine hK.out (At St) _ _ (fun _ h => h) (fun _ => by (assumption)) ?_
          clear hK K
          try simp only [Act.put, List.setIfInBounds_toArray, List.set_cons_zero, List.set_cons_succ]
          refine rt_free 9 (v := ?_) rfl (by kernel_rfl) (by kernel_rfl) (by kernel_rfl) (by kernel_rfl) (fun _ _ _ h => h) (by rfl) (fun _ => by first | assumption | exact HS0 _ rfl | exact HT.out _ (by repeat (first | exact Fr.refl _ _ | apply Fr.drew | refine Fr.alloc ?_ _))) ?_ ?_
          rotate_left 1
          · intro w; go_simp <;> with_reducible rfl
          try simp only [Act.put, List.setIfInBounds_toArray, List.set_cons_zero, List.set_cons_succ]
          refine rt_done (by kernel_rfl) ?_
          have F1' := Lib.hid F1
          clear hT0 hT1 F1 hF1 e0 e1 e2 e0' e1' e2'
          go_wp2_with fail
          go_roundw
          case rel => exact ⟨k + 1, by omega, by go_num, fun j hj => by
            rcases Nat.lt_or_ge j k with h' | h'
            · exact hno.out j h'
            · rw [show j = k by omega]; exact hq.out, hG.out.trans F1'.out⟩
          case measure => simp [intOf]; omega
        · replace hq := Lib.hid hq
          go_wp2_with fail
          refine rt_start [] (At St) 10 (by kernel_rfl) rfl ?_
          refine rt_free 0 (v := ?_) rfl (by kernel_rfl) (by kernel_rfl) (by kernel_rfl) (by kernel_rfl) (fun _ _ _ h => h) (by rfl) (fun _ => by first | assumption | exact HS0 _ rfl | exact HT.out _ (by repeat (first | exact Fr.refl _ _ | apply Fr.drew | refine Fr.alloc ?_ _))) ?_ ?_
          rotate_left 1
          · intro w; go_simp <;> with_reducible rfl
          try simp only [Act.put, List.setIfInBounds_toArray, List.set_cons_zero, List.set_cons_succ]
          refine rt_free 1 (v := ?_) rfl (by kernel_rfl) (by kernel_rfl) (by kernel_rfl) (by kernel_rfl) (fun _ _ _ h => h) (by rfl) (fun _ => by first | assumption | exact HS0 _ rfl | exact HT.out _ (by repeat (first | exact Fr.refl _ _ | apply Fr.drew | refine Fr.alloc ?_ _))) ?_ ?_
          rotate_left 1
          · intro w; go_simp <;> with_reducible rfl
          try simp only [Act.put, List.setIfInBounds_toArray, List.set_cons_zero, List.set_cons_succ]
          refine rt_free 2 (v := ?_) rfl (by kernel_rfl) (by kernel_rfl) (by kernel_rfl) (by kernel_rfl) (fun _ _ _ h => h) (by rfl) (fun _ => by first | assumption | exact HS0 _ rfl | exact HT.out _ (by repeat (first | exact Fr.refl _ _ | apply Fr.drew | refine Fr.alloc ?_ _))) ?_ ?_
          rotate_left 1
          · intro w; go_simp <;> with_reducible rfl
          try simp only [Act.put, List.setIfInBounds_toArray, List.set_cons_zero, List.set_cons_succ]
          refine rt_take 3 (v := ?_) rfl (by kernel_rfl) (by kernel_rfl) (by kernel_rfl) (by kernel_rfl) (fun _ _ _ h => h) (by rfl) (by first | assumption | exact HS0 _ rfl | exact HT.out _ (by repeat (first | exact Fr.refl _ _ | apply Fr.drew | refine Fr.alloc ?_ _))) ?_ ?_
          rotate_left 1
          · intro w hSw; go_simp <;> with_reducible rfl
          try simp only [Act.put, List.setIfInBounds_toArray, List.set_cons_zero, List.set_cons_succ]
          refine rt_free 4 (v := ?_) rfl (by kernel_rfl) (by kernel_rfl) (by kernel_rfl) (by kernel_rfl) (fun _ _ _ h => h) (by rfl) (fun _ => by first | assumption | exact HS0 _ rfl | exact HT.out _ (by repeat (first | exact Fr.refl _ _ | apply Fr.drew | refine Fr.alloc ?_ _))) ?_ ?_
          rotate_left 1
          · intro w; go_simp <;> with_reducible rfl
          try simp only [Act.put, List.setIfInBounds_toArray, List.set_cons_zero, List.set_cons_succ]
          refine rt_free 5 (v := ?_) rfl (by kernel_rfl) (by kernel_rfl) (by kernel_rfl) (by kernel_rfl) (fun _ _ _ h => h) (by rfl) (fun _ => by first | assumption | exact HS0 _ rfl | exact HT.out _ (by repeat (first | exact Fr.refl _ _ | apply Fr.drew | refine Fr.alloc ?_ _))) ?_ ?_
          rotate_left 1
          · intro w; go_simp <;> with_reducible rfl
          try simp only [Act.put, List.setIfInBounds_toArray, List.set_cons_zero, List.set_cons_succ]
          refine rt_free 6 (v := ?_) rfl (by kernel_rfl) (by kernel_rfl) (by kernel_rfl) (by kernel_rfl) (fun _ _ _ h => h) (by rfl) (fun _ => by first | assumption | exact HS0 _ rfl | exact HT.out _ (by repeat (first | exact Fr.refl _ _ | apply Fr.drew | refine Fr.alloc ?_ _))) ?_ ?_
          rotate_left 1
          · intro w; go_simp <;> with_reducible rfl
          try simp only [Act.put, List.setIfInBounds_toArray, List.set_cons_zero, List.set_cons_succ]
          refine rt_take 7 (v := ?_) rfl (by kernel_rfl) (by kernel_rfl) (by kernel_rfl) (by kernel_rfl) (fun _ _ _ h => h) (by rfl) (by first | assumption | exact HS0 _ rfl | exact HT.out _ (by repeat (first | exact Fr.refl _ _ | apply Fr.drew | refine Fr.alloc ?_ _))) ?_ ?_
          rotate_left 1
          · intro w hSw; go_simp <;> with_reducible rfl
          try simp only [Act.put, List.setIfInBounds_toArray, List.set_cons_zero, List.set_cons_succ]
          refine rt_one 8 rfl (by kernel_rfl) (fun K hK => ?_)
          go_simp
          refine (ref_cmd (cmx L k) (cmx L' k) _ q1.out q2.out).mono ?_
          rintro r w1 ⟨rfl, hF1⟩
          rw [cdec_false hq.out]
          have F1 : Fr (fun _ => False) wr w1 := (Fr.refl _ _).drew.trans hF1
          have hT1 := HT.out _ F1
          go_wp2_with fail
          refine hK.out (At St) _ _ (fun _ h => h) (fun _ => by (assumption)) ?_
          clear hK K
          try simp only [Act.put, List.setIfInBounds_toArray, List.set_cons_zero, List.set_cons_succ]
          refine rt_free 9 (v := ?_) rfl (by kernel_rfl) (by kernel_rfl) (by kernel_rfl) (by kernel_rfl) (fun _ _ _ h => h) (by rfl) (fun _ => by first | assumption | exact HS0 _ rfl | exact HT.out _ (by repeat (first | exact Fr.refl _ _ | apply Fr.drew | refine Fr.alloc ?_ _))) ?_ ?_
          rotate_left 1
          · intro w; go_simp <;> with_reducible rfl
          try simp only [Act.put, List.setIfInBounds_toArray, List.set_cons_zero, List.set_cons_succ]
          refine rt_done (by kernel_rfl) ?_
          have F1' := Lib.hid F1
          clear hT0 hT1 F1 hF1 e0 e1 e2 e0' e1' e2'
          go_wp2_with fail
          go_ret
          exact ⟨ret_bool (cdec_false fun e => hq.out (e.2 k (by rw [HL.out]; exact hlt))).symm, hG.out.trans F1'.out⟩
      · go_wp2_with fail
        go_ret
        exact ⟨ret_bool (cdec_true ⟨by rw [HL.out, HL'.out], fun j hj => hno.out j (by rw [HL.out] at hj; omega)⟩).symm, hG.out⟩
  · have t : ((n : Int) == (n' : Int)) = false := by simp; omega
    have t2 : ((n : Int) != (n' : Int)) = true := by simp; omega
    go_enter Try.func22, Try.ntmps22
    go_wp2_with fail
    go_ret
    exact ⟨ret_bool (cdec_false fun e => hnn (by rw [← HL.out, ← HL'.out, e.1])).symm, Fr.refl _ _⟩
end Go.Proofs.Ytelfpnpplknlpaa
