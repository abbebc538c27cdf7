/- CellDoes: the law's row, its list tied (the card). -/
import Derived.Test.YtmldjemjjpibmaaDoorDoes
import Derived.Test.YtmldjemjjpibmaaDoorOpenC
import Derived.Test.YtmldjemjjpibmaaDoorOpenV
import Derived.Test.YtmldjemjjpibmaaDoorLaw
import Derived.Test.YtmldjemjjpibmaaDoorOpen
import Derived.Test.YtmldjemjjpibmaaDoorCards
import Derived.Test.YtmldjemjjpibmaaDoorTie
import Derived.WalkKit
import Derived.ProofKit
import Derived.OpenShut
import Derived.Deep.DeepHandedRow
import Derived.Lib.LaidTab
import Derived.SevenTiedAt
import Derived.Stop.LaidErr
set_option linter.unusedVariables false
set_option linter.unusedSimpArgs false
namespace Go.Proofs.YtmldjemjjpibmaaDoor
open Go.ChangeShapes Go.WideShapes Go.ChangeAt Go.RowKit
open Go.Proofs.YtmldjemjjpibmaaDoorW.PrintWords


def cellK : Kd CellD := Kd.pair Kd.bool kfloat
theorem cellK_K {w : World} {a : CellD} {c : List Value} (h : cellK.K w a c) : c = [.bool a.1, .float .f64 a.2] := by
  obtain ⟨c0, c1, rfl, h0, h1⟩ := h
  rw [show c0 = [.bool a.1] from h0, show c1 = [.float .f64 a.2] from h1]
  rfl
theorem cell_arr {cs : Array Value} {u v : Value} (h : cs.toList = [u, v]) : cs = #[u, v] := by
  cases cs
  simp only at h
  rw [h]
theorem cmd_arr {cs : Array Value} {u v z : Value} (h : cs.toList = [u, v, z]) : cs = #[u, v, z] := by
  cases cs
  simp only at h
  rw [h]
theorem opens_cell : Opens Tryd.prog 24 cellK (fun x => True ∧ x.2 < 2 ^ 64) :=
  opens_struct2 Tryd.underlying24 (opens_bool Tryd.underlying4) (opens_float Tryd.underlying22) (by kernel_rfl) (by kernel_rfl) rfl rfl (by kernel_rfl)
theorem tab_of {W : World} (hL : laidMet Tryd.prog Rows.cellDoesRow.laid W) : Tab W :=
  Lib.tabIs_of_head (name := "internal/strconv.uint64pow10") (k := .u64) (zs := Lib.pow10Tab) (rest := []) (g := 1) (t := 77) (e := 52) (n := 20) (by kernel_rfl) (by kernel_rfl) Tryd.underlying77 Tryd.underlying52 (by kernel_rfl) (by kernel_rfl) hL.tail.tail

def setTab (cs : Array Value) : Obj → Obj
  | .cells _ t frozen => .cells cs t frozen
  | o => o
noncomputable def laidWorld (os : Os) : World :=
  { World.holding Tryd.prog os ⟨#[], #[], []⟩ with heap := (((World.holding Tryd.prog os ⟨#[], #[], []⟩).heap.modify 1 (setTab #[.int .u64 1, .int .u64 10, .int .u64 100, .int .u64 1000, .int .u64 10000, .int .u64 100000, .int .u64 1000000, .int .u64 10000000, .int .u64 100000000, .int .u64 1000000000, .int .u64 10000000000, .int .u64 100000000000, .int .u64 1000000000000, .int .u64 10000000000000, .int .u64 100000000000000, .int .u64 1000000000000000, .int .u64 10000000000000000, .int .u64 100000000000000000, .int .u64 1000000000000000000, .int .u64 10000000000000000000])).modify 2 (setTab #[.int .u8 0, .int .u8 1, .int .u8 28, .int .u8 2, .int .u8 29, .int .u8 14, .int .u8 24, .int .u8 3, .int .u8 30, .int .u8 22, .int .u8 20, .int .u8 15, .int .u8 25, .int .u8 17, .int .u8 4, .int .u8 8, .int .u8 31, .int .u8 27, .int .u8 13, .int .u8 23, .int .u8 21, .int .u8 19, .int .u8 16, .int .u8 7, .int .u8 26, .int .u8 12, .int .u8 18, .int .u8 6, .int .u8 11, .int .u8 5, .int .u8 10, .int .u8 9])).modify 3 (setTab #[.int .u8 0, .int .u8 1, .int .u8 56, .int .u8 2, .int .u8 57, .int .u8 49, .int .u8 28, .int .u8 3, .int .u8 61, .int .u8 58, .int .u8 42, .int .u8 50, .int .u8 38, .int .u8 29, .int .u8 17, .int .u8 4, .int .u8 62, .int .u8 47, .int .u8 59, .int .u8 36, .int .u8 45, .int .u8 43, .int .u8 51, .int .u8 22, .int .u8 53, .int .u8 39, .int .u8 33, .int .u8 30, .int .u8 24, .int .u8 18, .int .u8 12, .int .u8 5, .int .u8 63, .int .u8 55, .int .u8 48, .int .u8 27, .int .u8 60, .int .u8 41, .int .u8 37, .int .u8 16, .int .u8 46, .int .u8 35, .int .u8 44, .int .u8 21, .int .u8 52, .int .u8 32, .int .u8 23, .int .u8 11, .int .u8 54, .int .u8 26, .int .u8 40, .int .u8 15, .int .u8 34, .int .u8 20, .int .u8 31, .int .u8 10, .int .u8 25, .int .u8 14, .int .u8 19, .int .u8 9, .int .u8 13, .int .u8 8, .int .u8 7, .int .u8 6]) }
set_option maxRecDepth 100000 in
theorem laid_met (os : Os) : laidMet Tryd.prog Rows.cellDoesRow.laid ((laidWorld os).forCall (fun _ _ => 0) ⟨#[], #[.agg #[.bool false, .float .f64 0], .agg #[.int .i64 0, .string ByteArray.empty, .float .f64 0]], []⟩).memory :=
  laidMet_of_run' 8 (by kernel_rfl) (by kernel_rfl)
theorem reads (os : Os) {H : Type} (enc : TypeId × Value → H) : ∃ places, DataW.whole enc Tryd.prog ((laidWorld os).forCall (fun _ _ => 0) ⟨#[], #[.agg #[.bool false, .float .f64 0], .agg #[.int .i64 0, .string ByteArray.empty, .float .f64 0]], []⟩).memory Tryd.f3.params.toList Rows.cellDoesSpec.vars false (#[.agg #[.bool false, .float .f64 0], .agg #[.int .i64 0, .string ByteArray.empty, .float .f64 0]] : Array Value).toList 8 = some ([.agg [.lit (.bool false), .lit (.float .f64 0)], .agg [.lit (.int .i64 0), .lit (.string []), .lit (.float .f64 0)]], [], places) :=
  ⟨[], by kernel_rfl⟩

set_option maxRecDepth 100000 in
theorem cellDoes_lifted (os : Os) (started : os.Started) (H : Type) (enc : TypeId × Value → H) (F : Stop.Interp) :
    ReturnsInHanded {} Tryd.checked os 3 .any ((OpenSpec.ofChange Rows.cellDoesSpec).preRow enc Tryd.prog Tryd.f3 Rows.cellDoesRow.domain false Rows.cellDoesRow.laid) (((OpenSpec.ofChange Rows.cellDoesSpec).at F).post enc Tryd.prog Tryd.f3 false true false false) := by
  obtain ⟨places, hx⟩ := reads os enc
  refine returnsInHanded_of_row (C := Tryd.checked) (s := OpenSpec.ofChange Rows.cellDoesSpec) own started (by kernel_rfl) Tryd.func3
    (witness_row_at (enc := enc) (C := Tryd.checked) false (laidWorld os) #[.agg #[.bool false, .float .f64 0], .agg #[.int .i64 0, .string ByteArray.empty, .float .f64 0]] rfl (by kernel_rfl) (by kernel_rfl) (by kernel_rfl)
      (OpenSpec.preRow_of_cond 8 hx (by kernel_rfl) (fun k hk => by cases hk) (by kernel_rfl) (laid_met os))) ?_
  intro W base args ds gs before hval0 hW _ _ _ hL _ _
  have hval : ∀ (j : Nat) t v, Tryd.f3.params[j]? = some t → args[j]? = some v → Value.okWide Tryd.prog W .any base t v := hval0
  have hW' := hW
  obtain ⟨p, q, hA0, hV, rfl, hfz, hnd⟩ := hW
  have hA : DataW.TrodAll enc Tryd.prog W 0 (fun _ => true) true Tryd.f3.params.toList args.toList ds p := hA0
  rw [Tryd.params3] at hA hval
  obtain ⟨v0, v1, d0, d1, p0, p1, rfl, rfl, rfl, h0, h1⟩ := trodAll_two hA
  obtain ⟨cs0, a, rfl, ha, hao⟩ := open_arg_struct Tryd.underlying24 opens_cell (hval 0 24 v0 rfl rfl) h0
  obtain ⟨cs1, x, rfl, hx, hxo⟩ := open_arg_struct Tryd.underlying26 opens_cmd (hval 1 26 v1 rfl rfl) h1
  obtain rfl : cs0 = #[.bool a.1, .float .f64 a.2] := cell_arr (cellK_K ha)
  obtain rfl : cs1 = #[.int .i64 x.1, .string x.2.1, .float .f64 x.2.2] := cmd_arr (cmdK_K hx)
  clear hA0 hval0
  have walk : Calls Tryd.prog 3 #[cellV a, cmdV x] W fun r w' => r = .returned (.bool true) ∧ Fr (fun _ => False) W w' :=
    lawDoes12 a x W hao.2 ⟨hxo.2.1, hxo.2.2⟩ (tab_of hL)
  refine walk.mono fun e W' ⟨he, hF⟩ => ⟨_, he, ?_⟩
  exact law_post laidOut (by kernel_rfl) rfl Tryd.underlying4 rfl rfl (fun x hx => by subst hx; rfl) hW' (hF.below fun _ _ h => h)

theorem cellDoes_said : Rows.CellDoesSaid :=
  OpenClaim.holds_of_cond 3 Tryd.f3 rfl rfl rfl rfl rfl rfl rfl ⟨rfl, rfl, rfl, rfl, rfl⟩ rfl rfl rfl rfl rfl (by kernel_rfl) Tryd.func3 (by kernel_rfl)
    (of_decide_eq_true (by kernel_rfl)) (by unfold Func.isWrapper; rw [if_neg (of_decide_eq_false (by kernel_rfl))]; exact ⟨rfl, rfl⟩)
    (fun os started H enc _ F => by rw [OpenClaim.pre_eq_preRow]; exact cellDoes_lifted os started H enc F)

theorem cellDoes_plain (f : FuncId) (fn : Func) (hf : Tryd.pinned.checked.prog.funcNamed "cortege/cortegelaw12.CellDoes" = some f) (hfn : Tryd.pinned.checked.prog.funcs[f]? = some fn) :
    false = Tryd.pinned.checked.prog.looks [] ∧ ∀ (j : Nat) t, fn.params[j]? = some t → Tryd.pinned.checked.prog.wantsStandIn t = false := by
  obtain rfl : f = 3 := Option.some.inj ((show Tryd.prog.funcNamed "cortege/cortegelaw12.CellDoes" = some 3 by kernel_rfl).symm.trans hf) |>.symm
  obtain rfl : fn = Tryd.f3 := (Option.some.inj (Tryd.func3.symm.trans hfn)).symm
  refine ⟨by kernel_rfl, fun j t ht => ?_⟩
  rw [Tryd.params3] at ht
  have hm : t ∈ (#[24, 26] : Array TypeId) := Array.mem_of_getElem? ht
  have hm' : t = 24 ∨ t = 26 := by simpa using hm
  rcases hm' with rfl | rfl
  · exact (show Tryd.prog.wantsStandIn 24 = false by kernel_rfl)
  · exact (show Tryd.prog.wantsStandIn 26 = false by kernel_rfl)

/-- The card. -/
theorem CellDoes : Rows.CellDoesCardSaid :=
  Claim7.holds_tied_plain_at .later [] _ _ _ _ cellDoes_said (fun _ h => by cases h) (by kernel_rfl) (fun _ h => by cases h) cellDoes_row_tie rfl ⟨rfl, rfl⟩ (by kernel_rfl) rfl cellDoes_plain (by kernel_rfl)
end Go.Proofs.YtmldjemjjpibmaaDoor
