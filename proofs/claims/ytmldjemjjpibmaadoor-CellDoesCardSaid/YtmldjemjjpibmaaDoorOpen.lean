/- What came in as an argument reads by its kind (Kd of the printed words): from the row's reading to the kinds. -/
import Derived.Test.YtmldjemjjpibmaaDoorBase
import Derived.Test.YtmldjemjjpibmaaDoorWWords
import Derived.ProofKit
import Derived.OpenShut
set_option linter.unusedVariables false
set_option linter.unusedSimpArgs false
namespace Go.Proofs.YtmldjemjjpibmaaDoor
open Go.ChangeShapes Go.WideShapes Go.ChangeAt Go.RowKit
open Go.Proofs.YtmldjemjjpibmaaDoorW.PrintWords

/-- Whatever reads at type t as data is of kind d, and fits (W). -/
def Opens (P : Program) (t : TypeId) {α : Type} (d : Kd α) (W : α → Prop) : Prop :=
  ∀ {H : Type} {enc : TypeId × Value → H} {w : World} {fuel : Nat} {cs : List Value} {x : DataW H × List MemPlace},
    DataW.trod enc P w 0 (fun _ => true) true fuel t cs = some x → ∃ y : α, d.K w y cs ∧ W y

theorem spot_none {w : World} {a : Addr} {v : Value} (h : w.cell? a = some v) : a.spot = none := by
  unfold World.cell? at h
  split at h
  · split at h
    · cases h
    · rename_i hs; simpa using hs
  · cases h
theorem cells_at {w : World} {a : Addr} {n : Nat} {cs : List Value} (h : w.cells? 0 a n = some cs) : cs.length = n ∧ ∀ j u, cs[j]? = some u → w.cell? (a.add j) = some u := by
  unfold World.cells? at h
  rw [if_pos (Nat.zero_le _)] at h
  have hl : cs.length = n := by simpa using mapM_some_length h
  refine ⟨hl, fun j u hj => ?_⟩
  have hlt : j < n := by have := (List.getElem?_eq_some_iff.1 hj).1; omega
  have := mapM_some_get h j j (by simp [hlt])
  rw [this, hj]

theorem opens_int {P : Program} {t : TypeId} {k : IntKind} (ht : P.underlying t = some (.int k)) : Opens P t (Kd.int k) (fun n => (Lit.int k n).wf = true) := by
  intro H enc w fuel cs x h
  obtain ⟨n, rfl, _, hw⟩ := DataW.trod_int ht h
  exact ⟨n, rfl, hw⟩
theorem opens_bool {P : Program} {t : TypeId} (ht : P.underlying t = some .bool) : Opens P t Kd.bool (fun _ => True) := by
  intro H enc w fuel cs x h
  obtain ⟨n, rfl, _⟩ := DataW.trod_bool ht h
  exact ⟨n, rfl, trivial⟩
theorem opens_string {P : Program} {t : TypeId} (ht : P.underlying t = some .string) : Opens P t Kd.string (fun s => s.size ≤ maxLen) := by
  intro H enc w fuel cs x h
  obtain ⟨n, rfl, _, hw⟩ := DataW.trod_string ht h
  exact ⟨n, rfl, hw⟩
def kfloat : Kd Nat := Kd.scalar (Value.float .f64) (fun _ => rfl)
theorem opens_float {P : Program} {t : TypeId} (ht : P.underlying t = some (.float .f64)) : Opens P t kfloat (fun b => b < 2 ^ 64) := by
  intro H enc w fuel cs x h
  cases fuel with
  | zero => simp [DataW.trod] at h
  | succ n =>
    unfold DataW.trod at h
    rw [ht] at h
    split at h <;> simp_all
    rename_i k k' b hk
    obtain ⟨⟨_, hw⟩, _⟩ := h
    subst hk
    exact ⟨b, rfl, by simpa [Lit.wf] using hw⟩

theorem opens_iso {P : Program} {t : TypeId} {α β : Type} {d : Kd α} {W : α → Prop} (h : Opens P t d W) (f : β → α) (g : α → β) (hfg : ∀ x, f (g x) = x) : Opens P t (Kd.iso d f) (fun y => W (f y)) := by
  intro H enc w fuel cs x hx
  obtain ⟨y, hk, hw⟩ := h hx
  exact ⟨g y, by show d.K w (f (g y)) cs; rw [hfg]; exact hk, by show W (f (g y)); rw [hfg]; exact hw⟩

theorem opens_struct2 {P : Program} {t : TypeId} {f0 f1 : Field} {α β : Type} {a : Kd α} {b : Kd β} {Wa : α → Prop} {Wb : β → Prop} (ht : P.underlying t = some (.struct #[f0, f1]))
    (h0 : Opens P f0.type a Wa) (h1 : Opens P f1.type b Wb) (c0 : P.cellsOf f0.type = a.sz) (c1 : P.cellsOf f1.type = b.sz) (o0 : f0.offset = 0) (o1 : f1.offset = a.sz) (ct : P.cellsOf t = a.sz + b.sz) :
    Opens P t (Kd.pair a b) (fun x => Wa x.1 ∧ Wb x.2) := by
  intro H enc w fuel cs x hx
  obtain ⟨xs, n, _, _, hl, hlen, hf⟩ := DataW.trod_struct ht hx
  have g0 := hf 0 f0 rfl
  have g1 := hf 1 f1 rfl
  have hlen' : xs.length = 2 := hlen
  rw [List.getElem?_eq_getElem (by omega)] at g0 g1
  obtain ⟨y0, k0, w0⟩ := h0 g0
  obtain ⟨y1, k1, w1⟩ := h1 g1
  rw [o0, c0, List.drop_zero] at k0
  rw [o1, c1] at k1
  refine ⟨(y0, y1), ⟨_, _, ?_, k0, k1⟩, w0, w1⟩
  rw [List.take_of_length_le (l := cs.drop a.sz) (by rw [List.length_drop]; omega), List.take_append_drop]

theorem opens_array2 {P : Program} {t e : TypeId} {α : Type} {a : Kd α} {Wa : α → Prop} (ht : P.underlying t = some (.array 2 e))
    (h0 : Opens P e a Wa) (c0 : P.cellsOf e = a.sz) (ct : P.cellsOf t = a.sz + a.sz) : Opens P t (Kd.pair a a) (fun x => Wa x.1 ∧ Wa x.2) := by
  intro H enc w fuel cs x hx
  obtain ⟨xs, n, _, _, hl, hlen, hf⟩ := DataW.trod_array ht hx
  have g0 := hf 0 (by omega)
  have g1 := hf 1 (by omega)
  rw [List.getElem?_eq_getElem (by omega)] at g0 g1
  obtain ⟨y0, k0, w0⟩ := h0 g0
  obtain ⟨y1, k1, w1⟩ := h0 g1
  rw [c0, Nat.zero_mul, List.drop_zero] at k0
  rw [c0, Nat.one_mul] at k1
  refine ⟨(y0, y1), ⟨_, _, ?_, k0, k1⟩, w0, w1⟩
  rw [List.take_of_length_le (l := cs.drop a.sz) (by rw [List.length_drop]; omega), List.take_append_drop]

/-- The nested tail of a struct: fields from the i-th on, their cells from offset o on. -/
theorem opens_slice {P : Program} {t e : TypeId} {α : Type} {d : Kd α} {W : α → Prop} (ht : P.underlying t = some (.slice e)) (h : Opens P e d W) (hc : P.cellsOf e = d.sz) :
    Opens P t (Kd.slice e d) (fun l => ∀ y ∈ l, W y) := by
  intro H enc w fuel cs x hx
  rcases DataW.trod_slice ht hx with ⟨rfl, _⟩ | ⟨a, len, cap, elems, rest, n, _, rfl, _, _, hlc, hcm, hel, hall, hrest⟩
  · exact ⟨[], ⟨none, 0, rfl, Nat.le_refl _, Kd.C_nil d w⟩, fun y hy => by cases hy⟩
  · have key : ∀ i, i < len → ∃ y c, c.length = d.sz ∧ d.K w y c ∧ W y ∧ ∀ j u, c[j]? = some u → w.cell? (a.add (i * d.sz + j)) = some u := by
      intro i hi
      have h1 := hall i hi
      rw [List.getElem?_eq_getElem (by omega), Option.bind_eq_some_iff] at h1
      obtain ⟨c, hc1, hc2⟩ := h1
      rw [hc] at hc1
      obtain ⟨y, hk, hw⟩ := h hc2
      obtain ⟨hl, hcell⟩ := cells_at hc1
      exact ⟨y, c, hl, hk, hw, fun j u hj => by have := hcell j u hj; rwa [add_add] at this⟩
    have : ∃ l : List α, l.length = len ∧ ∀ (i : Nat) (y : α), l[i]? = some y → W y ∧ ∃ c, c.length = d.sz ∧ d.K w y c ∧ ∀ j u, c[j]? = some u → w.cell? (a.add (i * d.sz + j)) = some u := by
      clear hall hel hlc hcm hx hrest
      induction len with
      | zero => exact ⟨[], rfl, fun i y hy => by simp at hy⟩
      | succ m ih =>
        obtain ⟨l, hl, hp⟩ := ih (fun i hi => key i (by omega))
        obtain ⟨y, c, h1, h2, h3, h4⟩ := key m (by omega)
        refine ⟨l ++ [y], by simp [hl], fun i z hz => ?_⟩
        rcases Nat.lt_or_ge i l.length with hi | hi
        · rw [List.getElem?_append_left hi] at hz
          exact hp i z hz
        · rw [List.getElem?_append_right hi] at hz
          have hi2 : i = m := by
            have := (List.getElem?_eq_some_iff.1 hz).1
            simp at this
            omega
          subst hi2
          rw [hl, Nat.sub_self] at hz
          have : y = z := by simpa using hz
          subst this
          exact ⟨h3, c, h1, h2, h4⟩
    obtain ⟨l, hl, hp⟩ := this
    refine ⟨l, ⟨some a, cap, by rw [hl], by omega, rfl, ?_, fun _ => ⟨a, rfl, fun j p hj => (hp j p hj).2⟩⟩, fun y hy => ?_⟩
    · simp only [maxLen] at hcm; omega
    · obtain ⟨i, hi, rfl⟩ := List.getElem_of_mem hy
      exact (hp i _ (List.getElem?_eq_getElem hi)).1

/-- An element of a slice that reads: its cells at plain addresses. -/
theorem C_at {α : Type} {d : Kd α} {w : World} {A : Option Addr} {n : Nat} {xs : List α} (h : d.C w A n xs) (hs : 0 < d.sz) {i : Nat} (hi : i < n) :
    ∃ b off c, ∃ hi' : i < xs.length, A = some ⟨b, off, none⟩ ∧ c.length = d.sz ∧ d.K w xs[i] c ∧ ∀ j u, c[j]? = some u → w.cell? ⟨b, off + i * d.sz + j, none⟩ = some u := by
  obtain ⟨ad, rfl, hc⟩ := h.2.2 (by omega)
  have hl : i < xs.length := by have := h.1; omega
  obtain ⟨c, h1, h2, h3⟩ := hc i _ (List.getElem?_eq_getElem hl)
  have hsp : ad.spot = none := by
    obtain ⟨c0, q1, q2, q3⟩ := hc 0 _ (List.getElem?_eq_getElem (by omega))
    have := spot_none (q3 0 c0[0] (List.getElem?_eq_getElem (by omega)))
    simpa [Addr.add] using this
  obtain ⟨b, off, sp⟩ := ad
  simp only at hsp
  subst hsp
  refine ⟨b, off, c, hl, rfl, h1, h2, fun j u hj => ?_⟩
  have := h3 j u hj
  rw [add_at] at this
  rw [Nat.add_assoc]
  exact this
/-- An argument that is a slice. -/
theorem open_arg_slice {P : Program} {t e : TypeId} {α : Type} {d : Kd α} {W : α → Prop} (ht : P.underlying t = some (.slice e)) (h : Opens P e d W) (hc : P.cellsOf e = d.sz)
    {H : Type} {enc : TypeId × Value → H} {w : World} {r : Reach} {b0 : Nat} {v : Value} {x : DataW H} {ps : List MemPlace}
    (hv : Value.okWide P w r b0 t v) (hx : DataW.Trod enc P w 0 (fun _ => true) true t v x ps) :
    ∃ A c l, v = .slice A (List.length l) c ∧ l.length ≤ c ∧ d.C w A l.length l ∧ ∀ y ∈ l, W y := by
  obtain ⟨a0, len, cap, rfl⟩ := okWide_slice ht hv
  obtain ⟨fuel, hf⟩ := hx
  obtain ⟨l, ⟨A, c, he, hl, hC⟩, hW⟩ := opens_slice ht h hc hf
  have he' : Value.slice a0 len cap = .slice A l.length c := by simpa [Value.cells] using he
  exact ⟨A, c, l, he', hl, hC, hW⟩
end Go.Proofs.YtmldjemjjpibmaaDoor
