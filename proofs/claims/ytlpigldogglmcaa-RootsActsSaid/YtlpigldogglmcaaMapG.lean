/- Maps, raw: what a lookup, an update, clear and make do to a map's block, whatever the keys are. -/
import Derived.Test.YtlpigldogglmcaaBase
import Derived.Maps.Keyed
import Derived.DeepKeys3
set_option linter.unusedVariables false
set_option linter.unusedSimpArgs false
namespace Go.Proofs.Ytlpigldogglmcaa
open Go.RowKit

structure KEnc (P : Program) (kt : TypeId) (κ : Type) where
  enc : κ → Value
  ok : κ → Prop
  law : Maps.Keyed P kt
  key : ∀ {a : κ}, ok a → ∃ l, keyOf P kt (enc a) = some l
  inj : ∀ {a b : κ}, enc a = enc b → a = b

/-- Block m is a map in which just the keys of f stand, with f's values. -/
def MapAs {P : Program} {kt : TypeId} {κ β : Type} (K : KEnc P kt κ) (venc : β → Value) (w : World) (m : Nat) (f : κ → Option β) : Prop :=
  ∃ es clock, w.heap[m]? = some (.map es clock) ∧ (∀ e ∈ es.toList, ∃ a b, K.ok a ∧ e.key = K.enc a ∧ e.val = venc b ∧ f a = some b) ∧
    (∀ (i j : Nat) (e e' : MapEntry), es.toList[i]? = some e → es.toList[j]? = some e' → e.key = e'.key → i = j) ∧
    (∀ a, (∀ e ∈ es.toList, e.key ≠ K.enc a) → f a = none)

namespace MapAs
variable {P : Program} {kt : TypeId} {κ β : Type} {K : KEnc P kt κ} {venc : β → Value} {w w' : World} {m : Nat} {f : κ → Option β} {S : Nat → Prop}
theorem lt (h : MapAs K venc w m f) : m < w.heap.size := by
  obtain ⟨es, clock, hb, _⟩ := h
  exact (Array.getElem?_eq_some_iff.1 hb).1
theorem block (h : MapAs K venc w m f) (hb : w'.heap[m]? = w.heap[m]?) : MapAs K venc w' m f := by
  obtain ⟨es, clock, h0, r⟩ := h
  exact ⟨es, clock, hb.trans h0, r⟩
theorem fr (h : MapAs K venc w m f) (hF : Fr S w w') (hn : ¬ S m) : MapAs K venc w' m f := h.block (hF.block m h.lt hn)
theorem drew (h : MapAs K venc w m f) : MapAs K venc w.drew m f := h
theorem alloc (h : MapAs K venc w m f) (o : Obj) : MapAs K venc (w.alloc o) m f := h.block (Below.heap_alloc w o m h.lt)
theorem far (h : MapAs K venc w m f) {p : Addr} (hp : m ≠ p.block) (u : Value) : MapAs K venc (w.setCell p u) m f := h.block (Below.heap_setCell w p u m hp)
theorem ne_blk (h : MapAs K venc w m f) {g : Nat} {t : TypeId} {cs : Array Value} (hB : Blk w g t cs) : g ≠ m := by
  rintro rfl
  obtain ⟨es, clock, h0, _⟩ := h
  unfold Blk at hB
  rw [h0] at hB
  injection hB with hB
  cases hB
theorem congr {f' : κ → Option β} (h : MapAs K venc w m f) (hf : ∀ a, f a = f' a) : MapAs K venc w m f' := by
  have : f = f' := funext hf
  rwa [← this]
theorem keys {es : Array MapEntry} (hall : ∀ e ∈ es.toList, ∃ a b, K.ok a ∧ e.key = K.enc a ∧ e.val = venc b ∧ f a = some b) : ∀ e ∈ es.toList, ∃ l, keyOf P kt e.key = some l := fun e he => by
  obtain ⟨b, _, hb, hk, _⟩ := hall e he
  rw [hk]; exact K.key hb
theorem run_lookup (h : MapAs K venc w m f) {t et : TypeId} (ht : P.underlying t = some (.map kt et)) {z : Value} (hz : (zeroValue et).run P w = .ok z w) {a : κ} (ha : K.ok a) (ok : Bool) :
    (Instr.lookup t (.map (some m)) (K.enc a) ok).run P w = .ok (if ok then .tuple #[(f a).elim z venc, .bool (f a).isSome] else (f a).elim z venc) w := by
  obtain ⟨es, clock, hb, hall, hd, hno⟩ := h
  obtain ⟨l, hl⟩ := K.key ha
  have hck := K.law.check w es.isEmpty hl
  rcases K.law.find w hl es.toList (keys hall) with ⟨h1, h2⟩ | ⟨j, e, h1, h2, h3⟩
  · have hf := hno a h2
    cases ok <;> simp [Instr.lookup, run_underlying ht, MapKept.run_getObj_map hb, hck, h1, hz, hf]
  · obtain ⟨b, v, _, hk, hv, hf⟩ := hall e (List.mem_of_getElem? h2)
    have hba : b = a := K.inj (hk.symm.trans h3)
    subst hba
    cases ok <;> simp [Instr.lookup, run_underlying ht, MapKept.run_getObj_map hb, hck, h1, hv, hf]
theorem lookup (h : MapAs K venc w m f) {t et : TypeId} (ht : P.underlying t = some (.map kt et)) {z : Value} (hz : (zeroValue et).run P w = .ok z w) {a : κ} (ha : K.ok a) :
    (Instr.lookup t (.map (some m)) (K.enc a) false).run P w = .ok ((f a).elim z venc) w := h.run_lookup ht hz ha false
/-- m[a] = b. -/
theorem update [DecidableEq κ] (h : MapAs K venc w m f) {t et : TypeId} (ht : P.underlying t = some (.map kt et)) {a : κ} (ha : K.ok a) (b : β) :
    ∃ w', (Instr.mapUpdate t (.map (some m)) (K.enc a) (venc b)).run P w = .ok () w' ∧ MapAs K venc w' m (fun x => if x = a then some b else f x) ∧ Fr (· = m) w w' ∧ w'.heap.size = w.heap.size := by
  obtain ⟨es, clock, hb, hall, hd, hno⟩ := h
  obtain ⟨l, hl⟩ := K.key ha
  have hck := K.law.check w false hl
  have frm : ∀ o, Fr (· = m) w { w with heap := w.heap.setIfInBounds m o } := fun o => ⟨rfl, rfl, rfl, by simp, fun k _ hn => (MapKept.heap_set hb).2 k hn⟩
  rcases K.law.find w hl es.toList (keys hall) with ⟨h1, h2⟩ | ⟨j, e, h1, h2, h3⟩
  · refine ⟨{ w with heap := w.heap.setIfInBounds m (.map (es.push { key := K.enc a, val := venc b, born := clock }) (clock + 1)) }, ?_, ⟨_, _, (MapKept.heap_set hb).1, ?_, ?_, ?_⟩, frm _, by simp⟩
    · simp [Instr.mapUpdate, run_underlying ht, MapKept.run_getObj_map hb, hck, h1, MapKept.run_setObj_map _ hb]
    · intro e he
      simp only [Array.toList_push, List.mem_append, List.mem_singleton] at he
      rcases he with he | rfl
      · obtain ⟨a', b', k1, k2, k3, k4⟩ := hall e he
        refine ⟨a', b', k1, k2, k3, ?_⟩
        have : a' ≠ a := fun x => h2 e he (by rw [k2, x])
        simp [this, k4]
      · exact ⟨a, b, ha, rfl, rfl, by simp⟩
    · intro i j e e' hi hj hk
      simp only [Array.toList_push, List.getElem?_append] at hi hj
      split at hi <;> split at hj
      · exact hd i j e e' hi hj hk
      · have hj' : e' = { key := K.enc a, val := venc b, born := clock } := by
          have := List.mem_of_getElem? hj
          simpa using this
        exact absurd (hk.trans (by rw [hj'])) (h2 e (List.mem_of_getElem? hi))
      · have hi' : e = { key := K.enc a, val := venc b, born := clock } := by
          have := List.mem_of_getElem? hi
          simpa using this
        exact absurd (hk.symm.trans (by rw [hi'])) (h2 e' (List.mem_of_getElem? hj))
      · have hi2 := (List.getElem?_eq_some_iff.1 hi).1
        have hj2 := (List.getElem?_eq_some_iff.1 hj).1
        simp at hi2 hj2
        simp only [Array.length_toList] at *
        omega
    · intro x hx
      simp only [Array.toList_push, List.mem_append, List.mem_singleton] at hx
      have hne : x ≠ a := fun e => hx _ (.inr rfl) (by rw [e])
      simp [hne, hno x (fun e he => hx e (.inl he))]
  · obtain ⟨a0, v0, k1, k2, k3, k4⟩ := hall e (List.mem_of_getElem? h2)
    have hst := K.law.stays w hl
    have hej : es[j]? = some e := by simpa using h2
    have hget : ∀ i x, (es.modify j fun e => { e with key := K.enc a, val := venc b }).toList[i]? = some x → (i = j ∧ x = { e with key := K.enc a, val := venc b }) ∨ (i ≠ j ∧ es.toList[i]? = some x) := by
      intro i x hx
      simp only [Array.toList_modify, List.getElem?_modify] at hx
      by_cases hij : j = i
      · subst hij
        simp [h2] at hx
        exact .inl ⟨rfl, hx.symm⟩
      · simp [hij] at hx
        exact .inr ⟨fun h => hij h.symm, by simpa using hx⟩
    refine ⟨{ w with heap := w.heap.setIfInBounds m (.map (es.modify j fun e => { e with key := K.enc a, val := venc b }) clock) }, ?_, ⟨_, _, (MapKept.heap_set hb).1, ?_, ?_, ?_⟩, frm _, by simp⟩
    · simp [Instr.mapUpdate, run_underlying ht, MapKept.run_getObj_map hb, hck, h1, hej, h3, hst, MapKept.run_setObj_map _ hb]
    · intro x hx
      obtain ⟨i, hi⟩ := List.getElem?_of_mem hx
      rcases hget i x hi with ⟨_, rfl⟩ | ⟨hij, hi'⟩
      · exact ⟨a, b, ha, rfl, rfl, by simp⟩
      · obtain ⟨a', b', l1, l2, l3, l4⟩ := hall x (List.mem_of_getElem? hi')
        refine ⟨a', b', l1, l2, l3, ?_⟩
        have : a' ≠ a := fun y => hij (hd i j x e hi' h2 (by rw [l2, y, h3]))
        simp [this, l4]
    · intro i i' x x' hi hi' hk
      rcases hget i x hi with ⟨rfl, rfl⟩ | ⟨hij, hi2⟩ <;> rcases hget i' x' hi' with ⟨rfl, rfl⟩ | ⟨hij', hi2'⟩
      · rfl
      · exact absurd (hd i' _ x' e hi2' h2 (hk.symm.trans h3.symm)) hij'
      · exact absurd (hd i _ x e hi2 h2 (hk.trans h3.symm)) hij
      · exact hd i i' x x' hi2 hi2' hk
    · intro x hx
      have hmem : ({ e with key := K.enc a, val := venc b } : MapEntry) ∈ (es.modify j fun e => { e with key := K.enc a, val := venc b }).toList := by
        apply List.mem_of_getElem? (i := j)
        simp [Array.toList_modify, List.getElem?_modify, h2]
      have hne : x ≠ a := fun y => hx _ hmem (by rw [y])
      simp only [if_neg hne]
      refine hno x (fun y hy => ?_)
      obtain ⟨i, hi⟩ := List.getElem?_of_mem hy
      by_cases hij : i = j
      · subst hij
        rw [h2] at hi
        cases hi
        rw [h3]
        exact fun z => hne (K.inj z.symm)
      · refine hx y (List.mem_of_getElem? (i := i) ?_)
        have hji : ¬ j = i := fun h => hij h.symm
        simp [Array.toList_modify, List.getElem?_modify, hji, hi]
/-- clear(m). -/
theorem clear (h : MapAs K venc w m f) {t et ty : TypeId} (ht : P.underlying t = some (.map kt et)) :
    ∃ w', (Builtin.clear_ #[t] ty #[.map (some m)]).run P w = .ok (.tuple #[]) w' ∧ MapAs K venc w' m (fun _ => none) ∧ Fr (· = m) w w' ∧ w'.heap.size = w.heap.size := by
  obtain ⟨es, clock, hb, hall, hd, hno⟩ := h
  refine ⟨{ w with heap := w.heap.setIfInBounds m (.map #[] clock) }, ?_, ⟨#[], clock, (MapKept.heap_set hb).1, by simp, by simp, fun _ _ => rfl⟩, ⟨rfl, rfl, rfl, by simp, fun k _ hn => (MapKept.heap_set hb).2 k hn⟩, by simp⟩
  simp [Builtin.clear_, run_underlying ht, MapKept.run_getObj_map hb, MapKept.run_setObj_map _ hb, Result.andThen]
theorem new (K : KEnc P kt κ) (venc : β → Value) (w : World) : MapAs K venc (w.alloc (.map #[] 0)) w.heap.size (fun _ => none) :=
  ⟨#[], 0, heap_alloc_new w _, by simp, by simp, fun _ _ => rfl⟩
end MapAs
end Go.Proofs.Ytlpigldogglmcaa
