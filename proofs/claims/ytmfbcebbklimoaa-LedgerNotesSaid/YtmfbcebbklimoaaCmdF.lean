/- Ids and commands: elements of a fixed form. -/
import Derived.Test.YtmfbcebbklimoaaCmdD
import Derived.Test.YtmfbcebbklimoaaFlat
import Derived.Test.YtmfbcebbklimoaaBi
set_option linter.unusedVariables false
set_option linter.unusedSimpArgs false
namespace Go.Proofs.Ytmfbcebbklimoaa
open Go.RowKit
open Go.Proofs.YtmfbcebbklimoaaW.PrintWords

abbrev idCells (a : Int × Int) : List Value := [.int .i64 a.1, .int .i64 a.2]
abbrev cmdCells (a : Cmd) : List Value := [.int .i64 a.1, .string a.2.1, .float .f64 a.2.2]
theorem idFlat : Flat idK idCells := ⟨fun _ => rfl, fun h => idK_K h, fun w b ok x => idK_M w b ok x⟩
theorem cmdFlat : Flat cmdK cmdCells := ⟨fun _ => rfl, fun h => cmdK_K h, fun w b ok x => cmdK_M w b ok x⟩
theorem info_cmd : (Try.prog.info? 54).map (fun i => (i.zero, i.size, i.bytes)) = some (some (.agg #[.int .i64 0, .string ByteArray.empty, .float .f64 0]), cmdK.sz, 32) := by kernel_rfl
/-- append(v, ys...) of flat elements: v an empty row of one's own. -/
theorem app_flat {P : Program} {α : Type} {d : Kd α} {enc : α → List Value} (hf : Flat d enc) {W : World} {base n c : Nat} {e : TypeId} {ok : Nat → Prop} {A0 A : Option Addr} {c0 : Nat} {xs : List α} (t ty : TypeId) (z : Value) (bytes : Nat)
    (ht : P.underlying t = some (.slice e)) (hinfo : (P.info? e).map (fun i => (i.zero, i.size, i.bytes)) = some (some z, d.sz, bytes)) (hz : z.cells.size = d.sz) (hs0 : 0 < d.sz) (hb0 : 0 < bytes)
    (hR : d.R e W base ok (.slice A0 0 c0) []) (hC : d.C W A n xs) (hfresh : ∀ k, W.heap.size ≤ k → ok k) (hbase : base ≤ W.heap.size) (hl : n * bytes ≤ 140737488355328) :
    ∃ A1 c1 w1, (Builtin.append_ #[t, t] ty #[.slice A0 0 c0, .slice A n c]).run P W = .ok (.slice A1 n c1) w1 ∧ d.R e w1 base ok (.slice A1 n c1) xs ∧ W.grownBy w1 (Value.slice A0 0 c0).ownBlock := by
  obtain ⟨v1, w1, hr, hR1, hg, _⟩ := R_rows_run (P := P) d base t ty e z bytes ht hinfo hz hs0 hb0 (.slice A0 0 c0) [] xs A n c ok (fun _ => False) hR hC (fun x cs h => by rw [hf.K h]; exact hf.M _ _ _ _) (fun _ h => h.elim) hfresh hbase (by simpa using hl)
  obtain ⟨A3, c3, rfl⟩ := Kd.R_slice hR1
  rw [List.nil_append] at hR1
  rw [List.nil_append] at hr
  rw [show xs.length = n from hC.1] at hr hR1
  exact ⟨A3, c3, w1, hr, hR1, hg⟩
end Go.Proofs.Ytmfbcebbklimoaa
