/- Commands: what their cells are. -/
import Derived.Test.YtmldjemjjpibmaaDoorFlt
import Derived.Test.YtmldjemjjpibmaaDoorIdD
import Derived.Test.YtmldjemjjpibmaaDoorReg3
import Derived.Laws.Strings
set_option linter.unusedVariables false
set_option linter.unusedSimpArgs false
namespace Go.Proofs.YtmldjemjjpibmaaDoor
open Go.RowKit
open Go.Proofs.YtmldjemjjpibmaaDoorW.PrintWords

noncomputable def cdec (p : Prop) : Bool := @decide p (Classical.propDecidable p)
theorem cdec_true {p : Prop} (h : p) : cdec p = true := by unfold cdec; exact @decide_eq_true p (Classical.propDecidable p) h
theorem cdec_false {p : Prop} (h : ¬ p) : cdec p = false := by unfold cdec; exact @decide_eq_false p (Classical.propDecidable p) h
abbrev Cmd := Int × ByteArray × Nat
abbrev cmdV (a : Cmd) : Value := .agg #[.int .i64 a.1, .string a.2.1, .float .f64 a.2.2]
def cmdK : Kd Cmd := Kd.pair (Kd.int .i64) (Kd.pair Kd.string kfloat)
def CmdOk (a : Cmd) : Prop := a.2.2 < 18446744073709551616
theorem cmdK_M (w : World) (base : Nat) (ok : Nat → Prop) (a : Cmd) : cmdK.M w base ok a [.int .i64 a.1, .string a.2.1, .float .f64 a.2.2] := ⟨[.int .i64 a.1], [.string a.2.1, .float .f64 a.2.2], rfl, rfl, [.string a.2.1], [.float .f64 a.2.2], rfl, rfl, rfl⟩
theorem cmdK_K {w : World} {a : Cmd} {c : List Value} (h : cmdK.K w a c) : c = [.int .i64 a.1, .string a.2.1, .float .f64 a.2.2] := by
  obtain ⟨c0, c1, rfl, h0, c2, c3, rfl, h1, h2⟩ := h
  rw [show c0 = [.int .i64 a.1] from h0, show c2 = [.string a.2.1] from h1, show c3 = [.float .f64 a.2.2] from h2]
  rfl
def cmx (L : List Cmd) (i : Nat) : Cmd := L.getD i (0, ByteArray.empty, 0)
theorem cmx_eq {L : List Cmd} {i : Nat} (h : i < L.length) : cmx L i = L[i] := by unfold cmx; rw [List.getD_eq_getElem?_getD, List.getElem?_eq_getElem h]; rfl
theorem cmx_get {L : List Cmd} {i : Nat} (h : i < L.length) : L[i]? = some (cmx L i) := by rw [cmx_eq h, List.getElem?_eq_getElem h]
theorem cmx_mem {L : List Cmd} {i : Nat} (h : i < L.length) : cmx L i ∈ L := by rw [cmx_eq h]; exact List.getElem_mem h
theorem cmds_at {w : World} {A : Option Addr} {n : Nat} {L : List Cmd} (h : cmdK.C w A n L) {i : Nat} (hi : i < n) :
    ∃ b off, A = some ⟨b, off, none⟩ ∧ w.cell? ⟨b, off + i * 3, none⟩ = some (.int .i64 (cmx L i).1) ∧ w.cell? ⟨b, off + i * 3 + 1, none⟩ = some (.string (cmx L i).2.1) ∧ w.cell? ⟨b, off + i * 3 + 1 + 1, none⟩ = some (.float .f64 (cmx L i).2.2) := by
  obtain ⟨b, off, c, hi', hA, hc, hk, hcell⟩ := C_at h (by decide) hi
  rw [← cmx_eq hi'] at hk
  have hk := cmdK_K hk
  subst hk
  have hs : cmdK.sz = 3 := rfl
  rw [hs] at hcell
  exact ⟨b, off, hA, hcell 0 _ rfl, hcell 1 _ rfl, hcell 2 _ rfl⟩
theorem toList_inj {a b : ByteArray} (h : a.toList = b.toList) : a = b := by
  rw [ByteArray.toList_eq, ByteArray.toList_eq] at h
  exact ByteArray.ext (Array.ext' h)
theorem beq_list {a b : ByteArray} : (a.toList == b.toList) = cdec (a = b) := by
  by_cases h : a = b
  · subst h; rw [cdec_true rfl]; simp
  · rw [cdec_false h, beq_eq_false_iff_ne]; exact fun e => h (toList_inj e)
def cmdS (a b : Cmd) : Prop := a.1 = b.1 ∧ a.2.1 = b.2.1 ∧ key a.2.2 = key b.2.2
end Go.Proofs.YtmldjemjjpibmaaDoor
