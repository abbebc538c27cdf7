/- Strings that are put together; a make; an append of one's own. -/
import Derived.Test.YtlpigldogglmcaaWireQ
import Derived.Deep.RegionHeld3
set_option linter.unusedVariables false
set_option linter.unusedSimpArgs false
namespace Go.Proofs.Ytlpigldogglmcaa
open Go.RowKit
open Go.Proofs.YtlpigldogglmcaaW.PrintWords

theorem str_append (a b : List Int) : strOfNums a ++ strOfNums b = strOfNums (a ++ b) := by
  apply ByteArray.ext
  simp [strOfNums, ByteArray.data_append]
theorem add_str (a b : List Int) (h : a.length + b.length ≤ 9223372036854775807) (w : World) :
    (binOp .add 9 (.string (strOfNums a)) (.string (strOfNums b))).run Try.prog w = .ok (.string (strOfNums (a ++ b))) w := by
  rw [← str_append]
  rw [binOp_string_add]
  exact run_string_add_sum w _ _ (by rw [strOfNums_size, strOfNums_size]; omega)
theorem add_strO (a b : List Int) (h : a.length + b.length ≤ 9223372036854775807) (w : World) :
    (Op.stringOp .add (strOfNums a) (strOfNums b)).run Try.prog w = .ok (.string (strOfNums (a ++ b))) w := by
  rw [← str_append]
  exact run_string_add_sum w _ _ (by rw [strOfNums_size, strOfNums_size]; omega)
theorem make8 (n : Nat) (hn : n ≤ 140737488355328) (W : World) :
    (Instr.makeSlice 39 (.int .i64 0) (.int .i64 (n : Int))).run Try.prog W = .ok (.slice (some ⟨W.heap.size, 0, none⟩) 0 n) (W.alloc (.cells (madeCells #[.int .u8 0] n) 5)) := by
  obtain ⟨i0, hi, hz0, hs0, hb0⟩ := info_parts info8
  have h := run_make (P := Try.prog) W 39 5 i0 (.int .u8 0) Try.underlying39 hi hz0 .i64 .i64 0 (n : Int) (by omega) (by omega) (by rw [hb0]; omega) (by omega)
  rw [hs0, Nat.mul_one] at h
  exact h
theorem ow_make (w : World) (n : Nat) (hn : n ≤ 140737488355328) : OwB (w.alloc (.cells (madeCells #[.int .u8 0] n) 5)) w.heap.size (.slice (some ⟨w.heap.size, 0, none⟩) 0 n) [] := by
  refine ⟨rfl, .inr ⟨w.heap.size, n, _, rfl, Nat.le_refl _, heap_alloc_new w _, by simp, by simp only [maxLen]; omega, ?_, ?_⟩⟩
  · simp [madeCells]
  · simp [nums]
section
variable {ops : Array Oper} {rest : List Oper} {o : Oper} {a : Act} {Q : Exit → Act → World → Prop}
theorem append8_mine {W : World} (B : Nat) (hgd : o.guard = none) (s x : Operand)
    (ho : o.op = .call { callee := .builtin .append, args := #[s, x], argTypes := #[39, 39] })
    (v : Value) (xs ys : List Int) (A : Option Addr) (c : Nat) (hs : a.eval s = v) (hx : a.eval x = .slice A ys.length c)
    (HO : OwB W B v xs) (HR : RdB W A ys) (hbase : B ≤ W.heap.size) (hl : xs.length + ys.length ≤ 140737488355328)
    (h : ∀ v1 w1, OwB w1 B v1 (xs ++ ys) → Fr (fun k => some k = v.ownBlock) W w1 → wpList Try.prog ops Q rest (a.put o.dst v1) w1) :
    wpList Try.prog ops Q (o :: rest) a W := by
  refine print_append_row (w0 := W) B hgd s x _ _ .u8 1 ho Try.underlying39 info8 (by omega) v xs ys A _ c hs hx HO HR (Below.refl _ _) hbase (by omega) ?_
  intro v1 w1 hown hb hg hat
  exact h v1 w1 hown (Fr.of_grown hg)
end
end Go.Proofs.Ytlpigldogglmcaa
