/- Texts of VaultApplies, merged (33 of 33): OpenT, OpenS, OpenC, OpenW, Law. -/
import Derived.Test.YtepfhcimmbkilaaGVaultApplies2
import Derived.Test.YtepfhcimmbkilaaGVaultApplies3
import Derived.Test.YtepfhcimmbkilaaGVaultApplies16
import Derived.Test.YtepfhcimmbkilaaGVaultApplies1
import Derived.ProofKit
import Derived.OpenShut
set_option linter.unusedVariables false
set_option linter.unusedSimpArgs false
/- Structs of three and four fields, read as pairs of pairs. -/
namespace Go.Proofs.Ytepfhcimmbkilaa
open Go.ChangeShapes Go.WideShapes Go.ChangeAt Go.RowKit
open Go.Proofs.YtepfhcimmbkilaaW.PrintWords

theorem opens_struct3 {P : Program} {t : TypeId} {f0 f1 f2 : Field} {α β γ : Type} {a : Kd α} {b : Kd β} {c : Kd γ} {Wa : α → Prop} {Wb : β → Prop} {Wc : γ → Prop} (ht : P.underlying t = some (.struct #[f0, f1, f2]))
    (h0 : Opens P f0.type a Wa) (h1 : Opens P f1.type b Wb) (h2 : Opens P f2.type c Wc) (c0 : P.cellsOf f0.type = a.sz) (c1 : P.cellsOf f1.type = b.sz) (c2 : P.cellsOf f2.type = c.sz)
    (o0 : f0.offset = 0) (o1 : f1.offset = a.sz) (o2 : f2.offset = a.sz + b.sz) (ct : P.cellsOf t = a.sz + b.sz + c.sz) :
    Opens P t (Kd.pair a (Kd.pair b c)) (fun x => Wa x.1 ∧ Wb x.2.1 ∧ Wc x.2.2) := by
  intro H enc w fuel cs x hx
  obtain ⟨xs, n, _, _, hl, hlen, hf⟩ := DataW.trod_struct ht hx
  have g0 := hf 0 f0 rfl
  have g1 := hf 1 f1 rfl
  have g2 := hf 2 f2 rfl
  have hlen' : xs.length = 3 := hlen
  rw [List.getElem?_eq_getElem (by omega)] at g0 g1 g2
  obtain ⟨y0, k0, w0⟩ := h0 g0
  obtain ⟨y1, k1, w1⟩ := h1 g1
  obtain ⟨y2, k2, w2⟩ := h2 g2
  rw [o0, c0, List.drop_zero] at k0
  rw [o1, c1] at k1
  rw [o2, c2, ← List.drop_drop] at k2
  refine ⟨(y0, y1, y2), ⟨_, _, ?_, k0, _, _, rfl, k1, k2⟩, w0, w1, w2⟩
  rw [List.take_of_length_le (l := (cs.drop a.sz).drop b.sz) (by rw [List.length_drop, List.length_drop]; omega), List.take_append_drop, List.take_append_drop]
theorem opens_struct4 {P : Program} {t : TypeId} {f0 f1 f2 f3 : Field} {α β γ δ : Type} {a : Kd α} {b : Kd β} {c : Kd γ} {d : Kd δ} {Wa : α → Prop} {Wb : β → Prop} {Wc : γ → Prop} {Wd : δ → Prop} (ht : P.underlying t = some (.struct #[f0, f1, f2, f3]))
    (h0 : Opens P f0.type a Wa) (h1 : Opens P f1.type b Wb) (h2 : Opens P f2.type c Wc) (h3 : Opens P f3.type d Wd) (c0 : P.cellsOf f0.type = a.sz) (c1 : P.cellsOf f1.type = b.sz) (c2 : P.cellsOf f2.type = c.sz) (c3 : P.cellsOf f3.type = d.sz)
    (o0 : f0.offset = 0) (o1 : f1.offset = a.sz) (o2 : f2.offset = a.sz + b.sz) (o3 : f3.offset = a.sz + b.sz + c.sz) (ct : P.cellsOf t = a.sz + b.sz + c.sz + d.sz) :
    Opens P t (Kd.pair a (Kd.pair b (Kd.pair c d))) (fun x => Wa x.1 ∧ Wb x.2.1 ∧ Wc x.2.2.1 ∧ Wd x.2.2.2) := by
  intro H enc w fuel cs x hx
  obtain ⟨xs, n, _, _, hl, hlen, hf⟩ := DataW.trod_struct ht hx
  have g0 := hf 0 f0 rfl
  have g1 := hf 1 f1 rfl
  have g2 := hf 2 f2 rfl
  have g3 := hf 3 f3 rfl
  have hlen' : xs.length = 4 := hlen
  rw [List.getElem?_eq_getElem (by omega)] at g0 g1 g2 g3
  obtain ⟨y0, k0, w0⟩ := h0 g0
  obtain ⟨y1, k1, w1⟩ := h1 g1
  obtain ⟨y2, k2, w2⟩ := h2 g2
  obtain ⟨y3, k3, w3⟩ := h3 g3
  rw [o0, c0, List.drop_zero] at k0
  rw [o1, c1] at k1
  rw [o2, c2, ← List.drop_drop] at k2
  rw [o3, c3, ← List.drop_drop, ← List.drop_drop] at k3
  refine ⟨(y0, y1, y2, y3), ⟨_, _, ?_, k0, _, _, rfl, k1, _, _, rfl, k2, k3⟩, w0, w1, w2, w3⟩
  rw [List.take_of_length_le (l := ((cs.drop a.sz).drop b.sz).drop c.sz) (by rw [List.length_drop, List.length_drop, List.length_drop]; omega), List.take_append_drop, List.take_append_drop, List.take_append_drop]
end Go.Proofs.Ytepfhcimmbkilaa
/- Arguments that are strings, floats; bounds of numbers. -/
namespace Go.Proofs.Ytepfhcimmbkilaa
open Go.ChangeShapes Go.WideShapes Go.ChangeAt Go.RowKit
open Go.Proofs.YtepfhcimmbkilaaW.PrintWords

/-- An argument of one cell. -/
theorem open_arg_string {P : Program} {t : TypeId} (ht : P.underlying t = some .string)
    {H : Type} {enc : TypeId × Value → H} {w : World} {r : Reach} {b0 : Nat} {v : Value} {x : DataW H} {ps : List MemPlace}
    (hv : Value.okWide P w r b0 t v) (hx : DataW.Trod enc P w 0 (fun _ => true) true t v x ps) :
    ∃ s, v = .string s ∧ s.size ≤ maxLen := by
  obtain ⟨s, rfl⟩ := okWide_string ht hv
  obtain ⟨fuel, hf⟩ := hx
  obtain ⟨s', h, hW⟩ := opens_string ht hf
  have h' : [Value.string s] = [.string s'] := h
  injection h' with h1 _
  injection h1 with h2
  subst h2
  exact ⟨s, rfl, hW⟩
theorem okWide_float {P : Program} {w : World} {r : Reach} {base : Nat} {t : TypeId} {v : Value} (ht : P.underlying t = some (.float .f64)) (h : Value.okWide P w r base t v) : ∃ b, v = .float .f64 b := by
  cases v <;> simp_all [Value.okWide, Cell.okWide, Cell.ok]
  all_goals (try (rename_i k b; cases k <;> simp_all))
theorem open_arg_float {P : Program} {t : TypeId} (ht : P.underlying t = some (.float .f64))
    {H : Type} {enc : TypeId × Value → H} {w : World} {r : Reach} {b0 : Nat} {v : Value} {x : DataW H} {ps : List MemPlace}
    (hv : Value.okWide P w r b0 t v) (hx : DataW.Trod enc P w 0 (fun _ => true) true t v x ps) :
    ∃ b, v = .float .f64 b ∧ b < 2 ^ 64 := by
  obtain ⟨s, rfl⟩ := okWide_float ht hv
  obtain ⟨fuel, hf⟩ := hx
  obtain ⟨s', h, hW⟩ := opens_float ht hf
  have h' : [Value.float .f64 s] = [.float .f64 s'] := h
  injection h' with h1 _
  injection h1 with _ h2
  subst h2
  exact ⟨s, rfl, hW⟩
theorem bnd_u8 {n : Int} (h : (Lit.int .u8 n).wf = true) : 0 ≤ n ∧ n ≤ 255 := by
  simpa [Lit.wf, IntKind.min, IntKind.max, IntKind.signed, IntKind.bits] using h
theorem bnd_i64 {n : Int} (h : (Lit.int .i64 n).wf = true) : -9223372036854775808 ≤ n ∧ n ≤ 9223372036854775807 := by
  simpa [Lit.wf, IntKind.min, IntKind.max, IntKind.signed, IntKind.bits] using h
theorem bnd_u64 {n : Int} (h : (Lit.int .u64 n).wf = true) : ∃ m : Nat, n = m ∧ m < 18446744073709551616 := by
  have h1 : 0 ≤ n ∧ n ≤ 18446744073709551615 := by simpa [Lit.wf, IntKind.min, IntKind.max, IntKind.signed, IntKind.bits] using h
  exact ⟨n.toNat, by omega, by omega⟩
theorem maxLen_le {n : Nat} (h : n ≤ maxLen) : n ≤ 9223372036854775807 := by simp only [maxLen] at h; omega
end Go.Proofs.Ytepfhcimmbkilaa
/- Ids and commands as arguments. -/
namespace Go.Proofs.Ytepfhcimmbkilaa
open Go.ChangeShapes Go.WideShapes Go.ChangeAt Go.RowKit
open Go.Proofs.YtepfhcimmbkilaaW.PrintWords

theorem opens_id : Opens Try.prog 27 idK IdOk :=
  opens_struct2 Try.underlying27 (opens_int Try.underlying3) (opens_int Try.underlying3) (by kernel_rfl) (by kernel_rfl) rfl rfl (by kernel_rfl)
theorem Opens.imp {P : Program} {t : TypeId} {α : Type} {d : Kd α} {W W' : α → Prop} (h : Opens P t d W) (hw : ∀ x, W x → W' x) : Opens P t d W' := fun hx => by
  obtain ⟨y, hk, h1⟩ := h hx
  exact ⟨y, hk, hw y h1⟩
theorem opens_cmd : Opens Try.prog 37 cmdK (fun x => (Lit.int .i64 x.1).wf = true ∧ x.2.1.size ≤ maxLen ∧ x.2.2 < 2 ^ 64) :=
  opens_struct3 Try.underlying37 (opens_int Try.underlying3) (opens_string Try.underlying9) (opens_float Try.underlying35) (by kernel_rfl) (by kernel_rfl) (by kernel_rfl) rfl rfl rfl (by kernel_rfl)
end Go.Proofs.Ytepfhcimmbkilaa
/- Writers and items as arguments. -/
namespace Go.Proofs.Ytepfhcimmbkilaa
open Go.ChangeShapes Go.WideShapes Go.ChangeAt Go.RowKit
open Go.Proofs.YtepfhcimmbkilaaW.PrintWords

theorem opens_wr : Opens Try.prog 67 wrK (fun x => IdOk x.1 ∧ (Lit.int .i64 x.2).wf = true) :=
  opens_struct2 Try.underlying67 opens_id (opens_int Try.underlying3) (by kernel_rfl) (by kernel_rfl) rfl rfl (by kernel_rfl)
theorem opens_item : Opens Try.prog 30 itemK (fun x => IdOk x.1 ∧ ∀ y ∈ x.2, (Lit.int .i64 y.1).wf = true ∧ y.2.1.size ≤ maxLen ∧ y.2.2 < 2 ^ 64) :=
  opens_struct2 Try.underlying30 opens_id (opens_slice Try.underlying28 opens_cmd (by kernel_rfl)) (by kernel_rfl) (by kernel_rfl) rfl rfl (by kernel_rfl)
end Go.Proofs.Ytepfhcimmbkilaa
/- What every law's row asks: a call that returns true and changes no block that was there meets the row. -/
namespace Go.Proofs.Ytepfhcimmbkilaa
open Go.ChangeShapes Go.WideShapes Go.ChangeAt Go.RowKit

theorem own : ownKnob Try.prog.godebug = none := by kernel_rfl
theorem laidOut : laidOutB Try.prog = true := by kernel_rfl

theorem trodAll_below {H : Type} {enc : TypeId × Value → H} {P : Program} (hl : laidOutB P = true) {W W' : World} (hb : Below W.heap.size W W') :
    ∀ (ts : List TypeId) (vs : List Value) (ds : List (DataW H)) (ps : List MemPlace), (ts.all fun t => P.readableRec t && decide (t < P.types.size)) = true →
      DataW.TrodAll enc P W 0 (fun _ => true) true ts vs ds ps → (∀ x ∈ ps, x.block < W.heap.size) → DataW.TrodAll enc P W' 0 (fun b => decide (b < W.heap.size)) true ts vs ds ps
  | [], [], [], ps, _, h, _ => h
  | t :: ts, v :: vs, d :: ds, ps, hr, h, hlt => by
    obtain ⟨p, q, h1, h2, rfl⟩ := h
    simp only [List.all_cons, Bool.and_eq_true, decide_eq_true_eq] at hr
    exact ⟨p, q, Below.trod hl hr.1.1 hr.1.2 h1 hb (fun x hx => hlt x (List.mem_append_left _ hx)),
      trodAll_below hl hb ts vs ds q (by simpa using hr.2) h2 (fun x hx => hlt x (List.mem_append_right _ hx)), rfl⟩

theorem law_post {H : Type} {enc : TypeId × Value → H} {P : Program} {f : Func} {s : ChangeSpec} {W W' : World} {args : Array Value} {ds gs : List (DataW H)} {before : List MemPlace} {T : TypeId}
    (hl : laidOutB P = true) (hr : (f.params.toList.all fun t => P.readableRec t && decide (t < P.types.size)) = true) (hres : f.resultTypes.toList = [T]) (hT : P.underlying T = some .bool)
    (hn : f.resultTypes.size = 1) (hvars : s.vars = []) (hfn : ∀ x : List (DataW H), x = ds → s.fn H (x ++ []) = { results := [.lit (.bool true)], args := ds })
    (hW : DataW.Whole enc P f.params.toList s.vars false W args.toList ds gs before) (hb : Below W.heap.size W W') :
    s.post enc P f false true false false W args (.bool true) W' := by
  have hW' := hW
  obtain ⟨p, q, hA, hV, rfl, hfz, hnd⟩ := hW
  have hlt := hW'.lt
  rw [hvars] at hV
  obtain ⟨rfl, rfl⟩ := trodVars_none hV
  have e : s.fn H (ds ++ []) = { results := [.lit (.bool true)], args := ds } := hfn ds rfl
  refine ⟨ds, [], p ++ [], [], p, [], hW', ?_, ?_, ?_, hb.frame _, fun h => by cases h⟩
  · rw [e, hres, hn]
    exact trodAll_mk1 (shut_bool hT true)
  · rw [e]
    exact trodAll_below hl hb _ _ _ _ hr hA (fun x hx => hlt x (List.mem_append_left _ hx))
  · rw [e, hvars]
    rfl
end Go.Proofs.Ytepfhcimmbkilaa
