/- Lists of ids: what an element's cells are, equality. -/
import Derived.Test.YtmldjemjjpibmaaDoorBase
import Derived.Test.YtmldjemjjpibmaaDoorOpen
import Derived.Deep.QuietTactic
import Derived.BigQuiet
set_option linter.unusedVariables false
set_option linter.unusedSimpArgs false
namespace Go.Proofs.YtmldjemjjpibmaaDoor
open Go.RowKit
open Go.Proofs.YtmldjemjjpibmaaDoorW.PrintWords

abbrev idV (a : Int × Int) : Value := .agg #[.int .i64 a.1, .int .i64 a.2]
def IdOk (a : Int × Int) : Prop := (Lit.int .i64 a.1).wf = true ∧ (Lit.int .i64 a.2).wf = true
def idK : Kd (Int × Int) := Kd.pair (Kd.int .i64) (Kd.int .i64)
theorem idK_M (w : World) (base : Nat) (ok : Nat → Prop) (a : Int × Int) : idK.M w base ok a [.int .i64 a.1, .int .i64 a.2] := ⟨[.int .i64 a.1], [.int .i64 a.2], rfl, rfl, rfl⟩
theorem idK_K {w : World} {a : Int × Int} {c : List Value} (h : idK.K w a c) : c = [.int .i64 a.1, .int .i64 a.2] := by
  obtain ⟨c0, c1, rfl, h0, h1⟩ := h
  rw [show c0 = [.int .i64 a.1] from h0, show c1 = [.int .i64 a.2] from h1]
  rfl
def ida (L : List (Int × Int)) (i : Nat) : Int × Int := L.getD i (0, 0)
theorem ida_eq {L : List (Int × Int)} {i : Nat} (h : i < L.length) : ida L i = L[i] := by unfold ida; rw [List.getD_eq_getElem?_getD, List.getElem?_eq_getElem h]; rfl
theorem ida_get {L : List (Int × Int)} {i : Nat} (h : i < L.length) : L[i]? = some (ida L i) := by rw [ida_eq h, List.getElem?_eq_getElem h]
theorem ids_at {w : World} {A : Option Addr} {n : Nat} {L : List (Int × Int)} (h : idK.C w A n L) {i : Nat} (hi : i < n) :
    ∃ b off, A = some ⟨b, off, none⟩ ∧ w.cell? ⟨b, off + i * 2, none⟩ = some (.int .i64 (ida L i).1) ∧ w.cell? ⟨b, off + i * 2 + 1, none⟩ = some (.int .i64 (ida L i).2) := by
  obtain ⟨b, off, c, hi', hA, hc, hk, hcell⟩ := C_at h (by decide) hi
  rw [← ida_eq hi'] at hk
  have hk := idK_K hk
  subst hk
  have hs : idK.sz = 2 := rfl
  rw [hs] at hcell
  exact ⟨b, off, hA, hcell 0 _ rfl, hcell 1 _ rfl⟩
end Go.Proofs.YtmldjemjjpibmaaDoor
