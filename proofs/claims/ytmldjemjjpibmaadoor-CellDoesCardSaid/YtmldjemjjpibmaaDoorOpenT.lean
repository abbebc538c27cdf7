/- Structs of three and four fields, read as pairs of pairs. -/
import Derived.Test.YtmldjemjjpibmaaDoorOpen
set_option linter.unusedVariables false
set_option linter.unusedSimpArgs false
namespace Go.Proofs.YtmldjemjjpibmaaDoor
open Go.ChangeShapes Go.WideShapes Go.ChangeAt Go.RowKit
open Go.Proofs.YtmldjemjjpibmaaDoorW.PrintWords

theorem opens_struct3 {P : Program} {t : TypeId} {f0 f1 f2 : Field} {α β γ : Type} {a : Kd α} {b : Kd β} {c : Kd γ} {Wa : α → Prop} {Wb : β → Prop} {Wc : γ → Prop} (ht : P.underlying t = some (.struct #[f0, f1, f2]))
    (h0 : Opens P f0.type a Wa) (h1 : Opens P f1.type b Wb) (h2 : Opens P f2.type c Wc) (c0 : P.cellsOf f0.type = a.sz) (c1 : P.cellsOf f1.type = b.sz) (c2 : P.cellsOf f2.type = c.sz)
    (o0 : f0.offset = 0) (o1 : f1.offset = a.sz) (o2 : f2.offset = a.sz + b.sz) (ct : P.cellsOf t = a.sz + b.sz + c.sz) :
    Opens P t (Kd.pair a (Kd.pair b c)) (fun x => Wa x.1 ∧ Wb x.2.1 ∧ Wc x.2.2) := by
  intro H enc w fuel cs x hx
  obtain ⟨xs, n, _, _, hl, hlen, hf⟩ := DataW.trod_struct ht hx
  have g0 := hf 0 f0 rfl
  have g1 := hf 1 f1 rfl
  have g2 := hf 2 f2 rfl
  have hlen' : xs.length = 3 := hlen
  rw [List.getElem?_eq_getElem (by omega)] at g0 g1 g2
  obtain ⟨y0, k0, w0⟩ := h0 g0
  obtain ⟨y1, k1, w1⟩ := h1 g1
  obtain ⟨y2, k2, w2⟩ := h2 g2
  rw [o0, c0, List.drop_zero] at k0
  rw [o1, c1] at k1
  rw [o2, c2, ← List.drop_drop] at k2
  refine ⟨(y0, y1, y2), ⟨_, _, ?_, k0, _, _, rfl, k1, k2⟩, w0, w1, w2⟩
  rw [List.take_of_length_le (l := (cs.drop a.sz).drop b.sz) (by rw [List.length_drop, List.length_drop]; omega), List.take_append_drop, List.take_append_drop]
theorem opens_struct4 {P : Program} {t : TypeId} {f0 f1 f2 f3 : Field} {α β γ δ : Type} {a : Kd α} {b : Kd β} {c : Kd γ} {d : Kd δ} {Wa : α → Prop} {Wb : β → Prop} {Wc : γ → Prop} {Wd : δ → Prop} (ht : P.underlying t = some (.struct #[f0, f1, f2, f3]))
    (h0 : Opens P f0.type a Wa) (h1 : Opens P f1.type b Wb) (h2 : Opens P f2.type c Wc) (h3 : Opens P f3.type d Wd) (c0 : P.cellsOf f0.type = a.sz) (c1 : P.cellsOf f1.type = b.sz) (c2 : P.cellsOf f2.type = c.sz) (c3 : P.cellsOf f3.type = d.sz)
    (o0 : f0.offset = 0) (o1 : f1.offset = a.sz) (o2 : f2.offset = a.sz + b.sz) (o3 : f3.offset = a.sz + b.sz + c.sz) (ct : P.cellsOf t = a.sz + b.sz + c.sz + d.sz) :
    Opens P t (Kd.pair a (Kd.pair b (Kd.pair c d))) (fun x => Wa x.1 ∧ Wb x.2.1 ∧ Wc x.2.2.1 ∧ Wd x.2.2.2) := by
  intro H enc w fuel cs x hx
  obtain ⟨xs, n, _, _, hl, hlen, hf⟩ := DataW.trod_struct ht hx
  have g0 := hf 0 f0 rfl
  have g1 := hf 1 f1 rfl
  have g2 := hf 2 f2 rfl
  have g3 := hf 3 f3 rfl
  have hlen' : xs.length = 4 := hlen
  rw [List.getElem?_eq_getElem (by omega)] at g0 g1 g2 g3
  obtain ⟨y0, k0, w0⟩ := h0 g0
  obtain ⟨y1, k1, w1⟩ := h1 g1
  obtain ⟨y2, k2, w2⟩ := h2 g2
  obtain ⟨y3, k3, w3⟩ := h3 g3
  rw [o0, c0, List.drop_zero] at k0
  rw [o1, c1] at k1
  rw [o2, c2, ← List.drop_drop] at k2
  rw [o3, c3, ← List.drop_drop, ← List.drop_drop] at k3
  refine ⟨(y0, y1, y2, y3), ⟨_, _, ?_, k0, _, _, rfl, k1, _, _, rfl, k2, k3⟩, w0, w1, w2, w3⟩
  rw [List.take_of_length_le (l := ((cs.drop a.sz).drop b.sz).drop c.sz) (by rw [List.length_drop, List.length_drop, List.length_drop]; omega), List.take_append_drop, List.take_append_drop, List.take_append_drop]
end Go.Proofs.YtmldjemjjpibmaaDoor
