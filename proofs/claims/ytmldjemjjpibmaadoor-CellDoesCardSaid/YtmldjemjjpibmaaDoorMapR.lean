/- Maps, raw, with their stamps: look-up, update, range, whatever the keys are. -/
import Derived.Test.YtmldjemjjpibmaaDoorBase
import Derived.Maps.Keyed
import Derived.Maps.Range
import Derived.DeepKeys3
set_option linter.unusedVariables false
set_option linter.unusedSimpArgs false
namespace Go.Proofs.YtmldjemjjpibmaaDoor
open Go.RowKit

structure KEnc (P : Program) (kt : TypeId) (κ : Type) where
  enc : κ → Value
  ok : κ → Prop
  law : Maps.Keyed P kt
  key : ∀ {a : κ}, ok a → ∃ l, keyOf P kt (enc a) = some l
  inj : ∀ {a b : κ}, enc a = enc b → a = b

/-- The entries are just those of f; their stamps lie below the clock. -/
structure Ents {P : Program} {kt : TypeId} {κ β : Type} (K : KEnc P kt κ) (venc : β → Value) (f : κ → Option β) (es : List MapEntry) (clock : Nat) : Prop where
  all : ∀ e ∈ es, ∃ a b, K.ok a ∧ e.key = K.enc a ∧ e.val = venc b ∧ f a = some b
  dis : ∀ (i j : Nat) (e e' : MapEntry), es[i]? = some e → es[j]? = some e' → e.key = e'.key → i = j
  no : ∀ a, (∀ e ∈ es, e.key ≠ K.enc a) → f a = none
  low : ∀ e ∈ es, e.born < clock
  nod : (es.map (·.born)).Nodup

/-- Block m is a map in which just the keys of f stand, with f's values. -/
def MapIn {P : Program} {kt : TypeId} {κ β : Type} (K : KEnc P kt κ) (venc : β → Value) (w : World) (m : Nat) (f : κ → Option β) : Prop :=
  ∃ es clock, w.heap[m]? = some (.map es clock) ∧ Ents K venc f es.toList clock

/-- A loop over map m stands at iterator r; left: the keys that are still to come. -/
def MapIt {P : Program} {kt : TypeId} {κ β : Type} (K : KEnc P kt κ) (venc : β → Value) (w : World) (m r : Nat) (f : κ → Option β) (left : κ → Prop) (cnt : Nat) : Prop :=
  ∃ es clock since seen c0, w.heap[m]? = some (.map es clock) ∧ Ents K venc f es.toList clock ∧ w.heap[r]? = some (.mapIter (some m) since seen c0) ∧ (∀ x ∈ es.toList, x.born < since) ∧ since ≤ c0 ∧ since ≤ clock ∧
    (leftOf es seen).size = cnt ∧ (∀ e ∈ es.toList, ∀ a, e.key = K.enc a → (left a ↔ seen.contains e.born = false)) ∧ ∀ a, left a → (f a).isSome = true

section
variable {P : Program} {kt : TypeId} {κ β : Type} {K : KEnc P kt κ} {venc : β → Value} {w w' : World} {m r : Nat} {f : κ → Option β} {S : Nat → Prop} {left : κ → Prop} {cnt : Nat}

theorem Ents.keys {es : List MapEntry} {clock : Nat} (h : Ents K venc f es clock) : ∀ e ∈ es, ∃ l, keyOf P kt e.key = some l := fun e he => by
  obtain ⟨b, _, hb, hk, _⟩ := h.all e he
  rw [hk]; exact K.key hb
theorem Ents.mem {es : List MapEntry} {clock : Nat} (h : Ents K venc f es clock) {a : κ} (ha : (f a).isSome = true) : ∃ e ∈ es, e.key = K.enc a :=
  Classical.byContradiction fun hn => by
    rw [h.no a (fun e he hk => hn ⟨e, he, hk⟩)] at ha
    cases ha
theorem Ents.eq_of_key {es : List MapEntry} {clock : Nat} (h : Ents K venc f es clock) {e e' : MapEntry} (he : e ∈ es) (he' : e' ∈ es) (hk : e.key = e'.key) : e = e' := by
  obtain ⟨i, hi⟩ := List.getElem?_of_mem he
  obtain ⟨j, hj⟩ := List.getElem?_of_mem he'
  have := h.dis i j e e' hi hj hk
  subst this
  rw [hi] at hj
  exact Option.some.inj hj
theorem Ents.eq_of_born {es : List MapEntry} {clock : Nat} (h : Ents K venc f es clock) {e e' : MapEntry} (he : e ∈ es) (he' : e' ∈ es) (hk : e.born = e'.born) : e = e' := born_inj h.nod he he' hk

namespace MapIn
theorem lt (h : MapIn K venc w m f) : m < w.heap.size := by
  obtain ⟨es, clock, hb, _⟩ := h
  exact (Array.getElem?_eq_some_iff.1 hb).1
theorem block (h : MapIn K venc w m f) (hb : w'.heap[m]? = w.heap[m]?) : MapIn K venc w' m f := by
  obtain ⟨es, clock, h0, r⟩ := h
  exact ⟨es, clock, hb.trans h0, r⟩
theorem fr (h : MapIn K venc w m f) (hF : Fr S w w') (hn : ¬ S m) : MapIn K venc w' m f := h.block (hF.block m h.lt hn)
theorem drew (h : MapIn K venc w m f) : MapIn K venc w.drew m f := h
theorem alloc (h : MapIn K venc w m f) (o : Obj) : MapIn K venc (w.alloc o) m f := h.block (Below.heap_alloc w o m h.lt)
theorem far (h : MapIn K venc w m f) {p : Addr} (hp : m ≠ p.block) (u : Value) : MapIn K venc (w.setCell p u) m f := h.block (Below.heap_setCell w p u m hp)
theorem ne_blk (h : MapIn K venc w m f) {g : Nat} {t : TypeId} {cs : Array Value} (hB : Blk w g t cs) : g ≠ m := by
  rintro rfl
  obtain ⟨es, clock, h0, _⟩ := h
  unfold Blk at hB
  rw [h0] at hB
  injection hB with hB
  cases hB
theorem at_ (h : MapIn K venc w m f) : ∃ es clock, w.heap[m]? = some (.map es clock) := by
  obtain ⟨es, clock, h, _⟩ := h
  exact ⟨es, clock, h⟩
theorem congr {f' : κ → Option β} (h : MapIn K venc w m f) (hf : ∀ a, f a = f' a) : MapIn K venc w m f' := by
  have : f = f' := funext hf
  rwa [← this]
theorem new (K : KEnc P kt κ) (venc : β → Value) (w : World) : MapIn K venc (w.alloc (.map #[] 0)) w.heap.size (fun _ => none) :=
  ⟨#[], 0, heap_alloc_new w _, ⟨by simp, by simp, fun _ _ => rfl, by simp, by simp⟩⟩
theorem run_lookup (h : MapIn K venc w m f) {t et : TypeId} (ht : P.underlying t = some (.map kt et)) {z : Value} (hz : (zeroValue et).run P w = .ok z w) {a : κ} (ha : K.ok a) (ok : Bool) :
    (Instr.lookup t (.map (some m)) (K.enc a) ok).run P w = .ok (if ok then .tuple #[(f a).elim z venc, .bool (f a).isSome] else (f a).elim z venc) w := by
  obtain ⟨es, clock, hb, hE⟩ := h
  obtain ⟨l, hl⟩ := K.key ha
  have hck := K.law.check w es.isEmpty hl
  rcases K.law.find w hl es.toList hE.keys with ⟨h1, h2⟩ | ⟨j, e, h1, h2, h3⟩
  · have hf := hE.no a h2
    cases ok <;> simp [Instr.lookup, run_underlying ht, MapKept.run_getObj_map hb, hck, h1, hz, hf]
  · obtain ⟨b, v, _, hk, hv, hf⟩ := hE.all e (List.mem_of_getElem? h2)
    have hba : b = a := K.inj (hk.symm.trans h3)
    subst hba
    cases ok <;> simp [Instr.lookup, run_underlying ht, MapKept.run_getObj_map hb, hck, h1, hv, hf]
theorem lookup (h : MapIn K venc w m f) {t et : TypeId} (ht : P.underlying t = some (.map kt et)) {z : Value} (hz : (zeroValue et).run P w = .ok z w) {a : κ} (ha : K.ok a) :
    (Instr.lookup t (.map (some m)) (K.enc a) false).run P w = .ok ((f a).elim z venc) w := h.run_lookup ht hz ha false
/-- m[a] = b. -/
theorem update [DecidableEq κ] (h : MapIn K venc w m f) {t et : TypeId} (ht : P.underlying t = some (.map kt et)) {a : κ} (ha : K.ok a) (b : β) :
    ∃ w', (Instr.mapUpdate t (.map (some m)) (K.enc a) (venc b)).run P w = .ok () w' ∧ MapIn K venc w' m (fun x => if x = a then some b else f x) ∧ Fr (· = m) w w' ∧ w'.heap.size = w.heap.size := by
  obtain ⟨es, clock, hb, hE⟩ := h
  have hall := hE.all
  have hd := hE.dis
  have hno := hE.no
  obtain ⟨l, hl⟩ := K.key ha
  have hck := K.law.check w false hl
  have frm : ∀ o, Fr (· = m) w { w with heap := w.heap.setIfInBounds m o } := fun o => ⟨rfl, rfl, rfl, by simp, fun k _ hn => (MapKept.heap_set hb).2 k hn⟩
  rcases K.law.find w hl es.toList hE.keys with ⟨h1, h2⟩ | ⟨j, e, h1, h2, h3⟩
  · refine ⟨{ w with heap := w.heap.setIfInBounds m (.map (es.push { key := K.enc a, val := venc b, born := clock }) (clock + 1)) }, ?_, ⟨_, _, (MapKept.heap_set hb).1, ⟨?_, ?_, ?_, ?_, ?_⟩⟩, frm _, by simp⟩
    · simp [Instr.mapUpdate, run_underlying ht, MapKept.run_getObj_map hb, hck, h1, MapKept.run_setObj_map _ hb]
    · intro e he
      simp only [Array.toList_push, List.mem_append, List.mem_singleton] at he
      rcases he with he | rfl
      · obtain ⟨a', b', k1, k2, k3, k4⟩ := hall e he
        refine ⟨a', b', k1, k2, k3, ?_⟩
        have : a' ≠ a := fun x => h2 e he (by rw [k2, x])
        simp [this, k4]
      · exact ⟨a, b, ha, rfl, rfl, by simp⟩
    · intro i j e e' hi hj hk
      simp only [Array.toList_push, List.getElem?_append] at hi hj
      split at hi <;> split at hj
      · exact hd i j e e' hi hj hk
      · have hj' : e' = { key := K.enc a, val := venc b, born := clock } := by
          have := List.mem_of_getElem? hj
          simpa using this
        exact absurd (hk.trans (by rw [hj'])) (h2 e (List.mem_of_getElem? hi))
      · have hi' : e = { key := K.enc a, val := venc b, born := clock } := by
          have := List.mem_of_getElem? hi
          simpa using this
        exact absurd (hk.symm.trans (by rw [hi'])) (h2 e' (List.mem_of_getElem? hj))
      · have hi2 := (List.getElem?_eq_some_iff.1 hi).1
        have hj2 := (List.getElem?_eq_some_iff.1 hj).1
        simp at hi2 hj2
        simp only [Array.length_toList] at *
        omega
    · intro x hx
      simp only [Array.toList_push, List.mem_append, List.mem_singleton] at hx
      have hne : x ≠ a := fun e => hx _ (.inr rfl) (by rw [e])
      simp [hne, hno x (fun e he => hx e (.inl he))]
    · intro x hx
      simp only [Array.toList_push, List.mem_append, List.mem_singleton] at hx
      rcases hx with hx | rfl
      · have := hE.low x hx
        omega
      · exact Nat.lt_succ_self _
    · simp only [Array.toList_push, List.map_append, List.map_cons, List.map_nil]
      rw [List.nodup_append]
      refine ⟨hE.nod, by simp, ?_⟩
      intro x hx y hy
      simp only [List.mem_singleton] at hy
      obtain ⟨z, hz, rfl⟩ := List.mem_map.1 hx
      have := hE.low z hz
      omega
  · obtain ⟨a0, v0, k1, k2, k3, k4⟩ := hall e (List.mem_of_getElem? h2)
    have hst := K.law.stays w hl
    have hej : es[j]? = some e := by simpa using h2
    have hget : ∀ i x, (es.modify j fun e => { e with key := K.enc a, val := venc b }).toList[i]? = some x → (i = j ∧ x = { e with key := K.enc a, val := venc b }) ∨ (i ≠ j ∧ es.toList[i]? = some x) := by
      intro i x hx
      simp only [Array.toList_modify, List.getElem?_modify] at hx
      by_cases hij : j = i
      · subst hij
        simp [h2] at hx
        exact .inl ⟨rfl, hx.symm⟩
      · simp [hij] at hx
        exact .inr ⟨fun h => hij h.symm, by simpa using hx⟩
    have hborn : (es.modify j fun e => { e with key := K.enc a, val := venc b }).toList.map (·.born) = es.toList.map (·.born) := by
      apply List.ext_getElem?
      intro i
      simp only [List.getElem?_map, Array.toList_modify, List.getElem?_modify]
      split
      · cases es.toList[i]? <;> rfl
      · simp
    refine ⟨{ w with heap := w.heap.setIfInBounds m (.map (es.modify j fun e => { e with key := K.enc a, val := venc b }) clock) }, ?_, ⟨_, _, (MapKept.heap_set hb).1, ⟨?_, ?_, ?_, ?_, ?_⟩⟩, frm _, by simp⟩
    · simp [Instr.mapUpdate, run_underlying ht, MapKept.run_getObj_map hb, hck, h1, hej, h3, hst, MapKept.run_setObj_map _ hb]
    · intro x hx
      obtain ⟨i, hi⟩ := List.getElem?_of_mem hx
      rcases hget i x hi with ⟨_, rfl⟩ | ⟨hij, hi'⟩
      · exact ⟨a, b, ha, rfl, rfl, by simp⟩
      · obtain ⟨a', b', l1, l2, l3, l4⟩ := hall x (List.mem_of_getElem? hi')
        refine ⟨a', b', l1, l2, l3, ?_⟩
        have : a' ≠ a := fun y => hij (hd i j x e hi' h2 (by rw [l2, y, h3]))
        simp [this, l4]
    · intro i i' x x' hi hi' hk
      rcases hget i x hi with ⟨rfl, rfl⟩ | ⟨hij, hi2⟩ <;> rcases hget i' x' hi' with ⟨rfl, rfl⟩ | ⟨hij', hi2'⟩
      · rfl
      · exact absurd (hd i' _ x' e hi2' h2 (hk.symm.trans h3.symm)) hij'
      · exact absurd (hd i _ x e hi2 h2 (hk.trans h3.symm)) hij
      · exact hd i i' x x' hi2 hi2' hk
    · intro x hx
      have hmem : ({ e with key := K.enc a, val := venc b } : MapEntry) ∈ (es.modify j fun e => { e with key := K.enc a, val := venc b }).toList := by
        apply List.mem_of_getElem? (i := j)
        simp [Array.toList_modify, List.getElem?_modify, h2]
      have hne : x ≠ a := fun y => hx _ hmem (by rw [y])
      simp only [if_neg hne]
      refine hno x (fun y hy => ?_)
      obtain ⟨i, hi⟩ := List.getElem?_of_mem hy
      by_cases hij : i = j
      · subst hij
        rw [h2] at hi
        cases hi
        rw [h3]
        exact fun z => hne (K.inj z.symm)
      · refine hx y (List.mem_of_getElem? (i := i) ?_)
        have hji : ¬ j = i := fun h => hij h.symm
        simp [Array.toList_modify, List.getElem?_modify, hji, hi]
    · intro x hx
      obtain ⟨i, hi⟩ := List.getElem?_of_mem hx
      rcases hget i x hi with ⟨_, rfl⟩ | ⟨hij, hi'⟩
      · exact hE.low e (List.mem_of_getElem? h2)
      · exact hE.low x (List.mem_of_getElem? hi')
    · rw [hborn]
      exact hE.nod
/-- range m. -/
theorem range (h : MapIn K venc w m f) {t et : TypeId} (ht : P.underlying t = some (.map kt et)) :
    ∃ w' cnt, (Instr.range t (.map (some m))).run P w = .ok (.pointer (some ⟨w.heap.size, 0, none⟩)) w' ∧ MapIt K venc w' m w.heap.size f (fun a => (f a).isSome = true) cnt ∧ Fr (fun _ => False) w w' ∧ w'.heap.size = w.heap.size + 1 := by
  have hlt := h.lt
  obtain ⟨es, clock, hb, hE⟩ := h
  refine ⟨_, _, run_range_map w t kt et m es clock ht hb, ⟨es, clock, clock, #[], clock, ((MapKept.heap_alloc w _).2 m hlt).trans hb, hE, (MapKept.heap_alloc w _).1, hE.low, Nat.le_refl _, Nat.le_refl _, rfl, ?_, fun a ha => ha⟩, (Fr.refl _ w).alloc _, by simp⟩
  intro e he a hk
  obtain ⟨a', b, _, k2, _, k4⟩ := hE.all e he
  have : a' = a := K.inj (k2.symm.trans hk)
  subst this
  simp [k4]
end MapIn

namespace MapIt
theorem isin (h : MapIt K venc w m r f left cnt) : MapIn K venc w m f := by
  obtain ⟨es, clock, since, seen, c0, h1, h2, _⟩ := h
  exact ⟨es, clock, h1, h2⟩
theorem lt (h : MapIt K venc w m r f left cnt) : r < w.heap.size := by
  obtain ⟨es, clock, since, seen, c0, h1, h2, h3, _⟩ := h
  exact (Array.getElem?_eq_some_iff.1 h3).1
theorem ne (h : MapIt K venc w m r f left cnt) : r ≠ m := by
  obtain ⟨es, clock, since, seen, c0, h1, h2, h3, _⟩ := h
  rintro rfl
  rw [h1] at h3
  cases h3
theorem ne_blk (h : MapIt K venc w m r f left cnt) {g : Nat} {t : TypeId} {cs : Array Value} (hB : Blk w g t cs) : g ≠ r := by
  obtain ⟨es, clock, since, seen, c0, h1, h2, h3, _⟩ := h
  rintro rfl
  unfold Blk at hB
  rw [h3] at hB
  cases hB
theorem fr (h : MapIt K venc w m r f left cnt) (hF : Fr S w w') (hm : ¬ S m) (hr : ¬ S r) : MapIt K venc w' m r f left cnt := by
  have l1 := h.isin.lt
  have l2 := h.lt
  obtain ⟨es, clock, since, seen, c0, h1, h2, h3, rest⟩ := h
  exact ⟨es, clock, since, seen, c0, (hF.block m l1 hm).trans h1, h2, (hF.block r l2 hr).trans h3, rest⟩
theorem left_eq (h : MapIt K venc w m r f left cnt) : w.rangeLeft m r = cnt := by
  obtain ⟨es, clock, since, seen, c0, h1, h2, h3, _, _, _, hc, _⟩ := h
  simp only [World.rangeLeft, h1, h3]
  exact hc
theorem congr {left' : κ → Prop} (h : MapIt K venc w m r f left cnt) (hl : ∀ a, left a ↔ left' a) : MapIt K venc w m r f left' cnt := by
  have : left = left' := funext fun a => propext (hl a)
  rwa [← this]
/-- The step. -/
theorem next (h : MapIt K venc w m r f left cnt) (ty : TypeId) :
    ((∀ a, ¬ left a) ∧ (Instr.next (.pointer (some ⟨r, 0, none⟩)) false ty).run P w = .ok (.tuple #[.bool false]) w) ∨
    ∃ a b w' cnt', K.ok a ∧ left a ∧ f a = some b ∧ (Instr.next (.pointer (some ⟨r, 0, none⟩)) false ty).run P w = .ok (.tuple #[.bool true, K.enc a, venc b]) w' ∧
      MapIt K venc w' m r f (fun x => left x ∧ x ≠ a) cnt' ∧ cnt' < cnt ∧ Fr (· = r) w w' ∧ w'.heap.size = w.heap.size ∧ (Instr.entry (.pointer (some ⟨r, 0, none⟩))).run P w' = .ok (.tuple #[K.enc a, venc b]) w' := by
  have hne := h.ne
  obtain ⟨es, clock, since, seen, c0, hb, hE, hr, hold, hsc, hsk, rfl, hl1, hl2⟩ := h
  rcases run_next_at (P := P) w ty r m since c0 seen es clock hr hb hold hsc with ⟨h0, hrun⟩ | ⟨e, he, w1, hal, hrun⟩
  · refine Or.inl ⟨fun a ha => ?_, hrun⟩
    obtain ⟨e, hem, hk⟩ := hE.mem (hl2 a ha)
    have h1 := (hl1 e hem a hk).1 ha
    rw [all_seen es seen h0 e hem] at h1
    cases h1
  · obtain ⟨hem, hes⟩ := mem_left he
    obtain ⟨a, b, ka, kk, kv, kf⟩ := hE.all e hem
    have hr1 : w1.heap[r]? = some (.mapIter (some m) since seen c0) := by rcases hal with rfl | rfl <;> exact hr
    have hb1 : w1.heap[m]? = some (.map es clock) := by rcases hal with rfl | rfl <;> exact hb
    have hset := MapKept.heap_set (o' := .mapIter (some m) since (seen.push e.born) clock) hr1
    have hb' : (ChangeMaps.setBlock w1 r (.mapIter (some m) since (seen.push e.born) clock)).heap[m]? = some (.map es clock) := (hset.2 m (fun e1 => hne e1.symm)).trans hb1
    have hen := run_entry_at (P := P) _ r m since seen es clock e hset.1 hb' hem hE.nod
    rw [kk, kv] at hrun hen
    refine Or.inr ⟨a, b, _, _, ka, (hl1 e hem a kk).2 hes, kf, hrun, ⟨es, clock, since, seen.push e.born, clock, hb', hE, hset.1, hold, hsk, hsk, rfl, ?_, fun x hx => hl2 x hx.1⟩, left_shrinks es seen e he, ?_, ?_, hen⟩
    · intro x hx a' hk
      show (left a' ∧ a' ≠ a) ↔ _
      rw [hl1 x hx a' hk, contains_push]
      constructor
      · rintro ⟨h1, h2⟩
        have : x.born ≠ e.born := fun hbe => by
          have hxe := hE.eq_of_born hx hem hbe
          subst hxe
          exact h2 (K.inj (hk.symm.trans kk))
        rw [h1]
        simpa using this
      · intro h1
        rw [Bool.or_eq_false_iff] at h1
        refine ⟨h1.1, fun hae => ?_⟩
        subst hae
        have hxe := hE.eq_of_key hx hem (hk.trans kk.symm)
        subst hxe
        simp at h1
    · rcases hal with rfl | rfl <;> exact ⟨rfl, rfl, rfl, by simp [ChangeMaps.setBlock], fun i _ hi => hset.2 i hi⟩
    · rcases hal with rfl | rfl <;> simp [ChangeMaps.setBlock]
end MapIt
end
end Go.Proofs.YtmldjemjjpibmaaDoor
