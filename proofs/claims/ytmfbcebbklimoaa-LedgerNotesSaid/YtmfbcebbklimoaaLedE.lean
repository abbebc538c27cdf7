/- Entries: an answer and a record; what a ledger keeps of them. -/
import Derived.Test.YtmfbcebbklimoaaWorks28
set_option linter.unusedVariables false
set_option linter.unusedSimpArgs false
namespace Go.Proofs.Ytmfbcebbklimoaa
open Go.RowKit
open Go.Proofs.YtmfbcebbklimoaaW.PrintWords

abbrev Ent := Int × Rec
def entK : Kd Ent := Kd.pair errK recK
theorem entK_K {w : World} {a : Ent} {c : List Value} (h : entK.K w a c) : ∃ Ad Ab cd cb, c = .int .i64 a.1 :: recCells a.2 Ad Ab cd cb ∧ RecAt w a.2 Ad Ab cd cb := by
  obtain ⟨c0, c1, rfl, h0, h1⟩ := h
  obtain ⟨Ad, Ab, cd, cb, rfl, hr⟩ := recK_K h1
  rw [show c0 = [.int .i64 a.1] from h0]
  exact ⟨Ad, Ab, cd, cb, rfl, hr⟩
def enx (L : List Ent) (i : Nat) : Ent := L.getD i (0, ((0, 0), 0, [], []))
theorem enx_eq {L : List Ent} {i : Nat} (h : i < L.length) : enx L i = L[i] := by unfold enx; rw [List.getD_eq_getElem?_getD, List.getElem?_eq_getElem h]; rfl
theorem enx_mem {L : List Ent} {i : Nat} (h : i < L.length) : enx L i ∈ L := by rw [enx_eq h]; exact List.getElem_mem h
theorem ents_at {w : World} {A : Option Addr} {n : Nat} {L : List Ent} (h : entK.C w A n L) {i : Nat} (hi : i < n) :
    ∃ b off Ad Ab cd cb, A = some ⟨b, off, none⟩ ∧ RecAt w (enx L i).2 Ad Ab cd cb ∧ w.cell? ⟨b, off + i * 6, none⟩ = some (.int .i64 (enx L i).1) ∧
      w.cell? ⟨b, off + i * 6 + 1, none⟩ = some (.int .i64 (enx L i).2.1.1) ∧ w.cell? ⟨b, off + i * 6 + 2, none⟩ = some (.int .i64 (enx L i).2.1.2) ∧
      w.cell? ⟨b, off + i * 6 + 3, none⟩ = some (.int .i64 (enx L i).2.2.1) ∧ w.cell? ⟨b, off + i * 6 + 4, none⟩ = some (.slice Ad (enx L i).2.2.2.1.length cd) ∧ w.cell? ⟨b, off + i * 6 + 5, none⟩ = some (.slice Ab (enx L i).2.2.2.2.length cb) := by
  obtain ⟨b, off, c, hi', hA, hc, hk, hcell⟩ := C_at h (by decide) hi
  rw [← enx_eq hi'] at hk
  obtain ⟨Ad, Ab, cd, cb, rfl, hr⟩ := entK_K hk
  have hs : entK.sz = 6 := rfl
  rw [hs] at hcell
  exact ⟨b, off, Ad, Ab, cd, cb, hA, hr, hcell 0 _ rfl, hcell 1 _ rfl, hcell 2 _ rfl, hcell 3 _ rfl, hcell 4 _ rfl, hcell 5 _ rfl⟩
/-- All answers; the records that were taken. -/
def errsE (L : List Ent) : List Int := L.map (·.1)
def keptE (L : List Ent) : List Rec := (L.filter fun a => decide (a.1 = 0)).map (·.2)
theorem errsE_succ {L : List Ent} {k : Nat} (h : k < L.length) : errsE (L.take (k + 1)) = errsE (L.take k) ++ [(enx L k).1] := by
  unfold errsE
  rw [List.take_succ_eq_append_getElem h, List.map_append, ← enx_eq h]
  rfl
theorem keptE_succ {L : List Ent} {k : Nat} (h : k < L.length) : keptE (L.take (k + 1)) = (if (enx L k).1 = 0 then keptE (L.take k) ++ [(enx L k).2] else keptE (L.take k)) := by
  unfold keptE
  rw [List.take_succ_eq_append_getElem h, List.filter_append, List.map_append, ← enx_eq h]
  by_cases h0 : (enx L k).1 = 0
  · rw [if_pos h0]; simp [h0]
  · rw [if_neg h0]; simp [h0]
theorem errsE_len (L : List Ent) : (errsE L).length = L.length := by unfold errsE; rw [List.length_map]
theorem keptE_len (L : List Ent) : (keptE L).length ≤ L.length := by unfold keptE; rw [List.length_map]; exact List.length_filter_le _ _
/-- Records whose lists lie where they came in. -/
abbrev recF (w0 : World) : Kd Rec := Kd.fixed recK w0
theorem recF_C {w0 w : World} (hb : Below w0.heap.size w0 w) {A : Option Addr} {n : Nat} {L : List Rec} (h : (recF w0).C w A n L) : recK.C w A n L :=
  Kd.C_read (d := recK) (dm := recF w0) rfl (fun x cs hk => recK.K_below hb hk) h
set_option maxRecDepth 100000 in
theorem led_note_nil (e : Int) (w : World) : Calls Try.prog 7 #[.pointer none, .int .i64 e, .agg #[.int .i64 0, .int .i64 0, .int .i64 0, .slice none 0 0, .slice none 0 0]] w fun r w' => r = .returned (.tuple #[]) ∧ Fr (fun _ => False) w w' := by
  go_enter Try.func7, Try.ntmps7
  go_wp2_with fail
  refine bodyPost_ret (results_none rfl _ _ _) rfl ?_
  exact ⟨rfl, (Fr.refl _ _).alloc _⟩
end Go.Proofs.Ytmfbcebbklimoaa
