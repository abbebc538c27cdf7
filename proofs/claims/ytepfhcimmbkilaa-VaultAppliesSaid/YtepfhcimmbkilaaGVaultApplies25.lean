/- Texts of VaultApplies, merged (25 of 33): SwapP. -/
import Derived.Test.YtepfhcimmbkilaaGVaultApplies17
import Derived.Test.YtepfhcimmbkilaaGVaultApplies24
set_option linter.unusedVariables false
set_option linter.unusedSimpArgs false
/- Two batches that do not conflict may be applied in either order: plainly. -/
namespace Go.Proofs.Ytepfhcimmbkilaa
open Go.RowKit
open Go.Proofs.YtepfhcimmbkilaaW.PrintWords

/-- What T does leaves the key as it is: it only gets it. -/
def Quiet (T : List HE) (key : ByteArray) : Prop := ∀ e ∈ T, e.2.2.2.1 = key → cmdOk e.2.2 ∧ e.2.2.1 = 1
theorem quiet_fold {key : ByteArray} : ∀ (T : List HE) (c : CellD), Quiet T key → T.foldl (cellStep key) c = c := by
  intro T
  induction T with
  | nil => intro c _; rfl
  | cons e T ih =>
    intro c h
    have he : cellStep key c e = c := by
      unfold cellStep
      by_cases hk : e.2.2.2.1 = key
      · obtain ⟨h1, h2⟩ := h e (List.mem_cons_self ..) hk
        rw [cdec_true hk, cond_true, doC_get h1 h2]
      · rw [cdec_false hk, cond_false]
    rw [List.foldl_cons, he]
    exact ih c (fun e' he' => h e' (List.mem_cons_of_mem _ he'))
theorem quiet_cell {key : ByteArray} {T : List HE} (H1 H2 : List HE) (h : Quiet T key) : cellOf (H1 ++ T ++ H2) key = cellOf (H1 ++ H2) key := by
  unfold cellOf
  rw [List.foldl_append, List.foldl_append, List.foldl_append, quiet_fold T _ h]
theorem quiet_log {key : ByteArray} {T : List HE} (H1 H2 : List HE) (h : Quiet T key) : logOf (H1 ++ T ++ H2) key = logOf (H1 ++ H2) key := by
  have hT : T.filter (fun e => cdec (wrote key e)) = [] := List.filter_eq_nil_iff.2 (fun e he => by
    rw [cdec_false (fun hw : wrote key e => hw.2.2 (h e he hw.1).2)]; decide)
  unfold logOf
  rw [List.filter_append, List.filter_append, List.filter_append, hT, List.append_nil]
theorem tag_mem {id : Int × Int} {L : List Cmd} {k : Nat} (hk : k ≤ L.length) {e : HE} (h : e ∈ tagN id L k) : e.2.2 ∈ L := by
  unfold tagN at h
  obtain ⟨i, hi, rfl⟩ := List.mem_map.1 h
  have hl := List.mem_range.1 hi
  exact cmx_mem (by omega)
theorem bat_all {L : List Cmd} (h : errBat L = 0) : ∀ x ∈ L, cmdOk x := fun x hx => by
  rcases errBat_cases L with ⟨_, _, hok⟩ | h' | h'
  · obtain ⟨i, hi, rfl⟩ := List.mem_iff_getElem.1 hx
    rw [← cmx_eq hi]
    exact hok i hi
  · rw [h'] at h; cases h
  · rw [h'] at h; cases h
noncomputable def apH (H : List HE) (id : Int × Int) (L : List Cmd) : List HE := if errBat L = 0 then H ++ tagN id L L.length else H
noncomputable def apT (H : List HE) (id : Int × Int) (L : List Cmd) : List Rs := if errBat L = 0 then toldN H id L L.length else []
theorem told_quiet {H T : List HE} {id : Int × Int} {L : List Cmd} (h : ∀ x ∈ L, Quiet T x.2.1) : toldN (H ++ T) id L L.length = toldN H id L L.length := by
  unfold toldN
  refine List.map_congr_left fun i hi => ?_
  have hl := List.mem_range.1 hi
  rw [quiet_cell H (tagN id L i) (h _ (cmx_mem hl))]
/-- Where two batches that may be do not conflict, the second does not touch what the first one has, but for getting it. -/
theorem noconf_quiet {A B : List Cmd} {idb : Int × Int} (hA : errBat A = 0) (hB : errBat B = 0) (hn : ¬ ∃ x ∈ A, ∃ y ∈ B, confP x y) : ∀ x ∈ A, Quiet (tagN idb B B.length) x.2.1 := fun x hx e he hk =>
  have hy := tag_mem (Nat.le_refl _) he
  ⟨bat_all hB _ hy, Classical.byContradiction fun h1 => hn ⟨x, hx, e.2.2, hy, bat_all hA x hx, bat_all hB _ hy, hk.symm, .inr h1⟩⟩
theorem noconf_swap {A B : List Cmd} (hn : ¬ ∃ x ∈ A, ∃ y ∈ B, confP x y) : ¬ ∃ y ∈ B, ∃ x ∈ A, confP y x := fun ⟨y, hy, x, hx, h1, h2, h3, h4⟩ => hn ⟨x, hx, y, hy, h2, h1, h3.symm, h4.symm⟩
theorem swap_same (H : List HE) (ida idb : Int × Int) (A B : List Cmd) (hn : ¬ ∃ x ∈ A, ∃ y ∈ B, confP x y) :
    SameH (apH (apH H ida A) idb B) (apH (apH H idb B) ida A) ∧ apT H ida A = apT (apH H idb B) ida A ∧ apT (apH H ida A) idb B = apT H idb B := by
  unfold apH apT
  by_cases hA : errBat A = 0
  · by_cases hB : errBat B = 0
    · simp only [if_pos hA, if_pos hB]
      refine ⟨fun key => ?_, (told_quiet (noconf_quiet hA hB hn)).symm, told_quiet (noconf_quiet hB hA (noconf_swap hn))⟩
      by_cases hk : ∃ x ∈ A, x.2.1 = key
      · obtain ⟨x, hx, rfl⟩ := hk
        have hq := noconf_quiet (idb := idb) hA hB hn x hx
        have e1 := quiet_cell (H ++ tagN ida A A.length) [] hq
        have e2 := quiet_log (H ++ tagN ida A A.length) [] hq
        rw [List.append_nil, List.append_nil] at e1 e2
        exact ⟨by rw [e1, quiet_cell H _ hq], by rw [e2, quiet_log H _ hq]⟩
      · have hq : Quiet (tagN ida A A.length) key := fun e he h => absurd ⟨e.2.2, tag_mem (Nat.le_refl _) he, h⟩ hk
        have e1 := quiet_cell (H ++ tagN idb B B.length) [] hq
        have e2 := quiet_log (H ++ tagN idb B B.length) [] hq
        rw [List.append_nil, List.append_nil] at e1 e2
        exact ⟨by rw [e1, quiet_cell H _ hq], by rw [e2, quiet_log H _ hq]⟩
    · simp only [if_pos hA, if_neg hB]
      exact ⟨fun _ => ⟨rfl, rfl⟩, by trivial⟩
  · by_cases hB : errBat B = 0
    · simp only [if_neg hA, if_pos hB]
      exact ⟨fun _ => ⟨rfl, rfl⟩, by trivial⟩
    · simp only [if_neg hA, if_neg hB]
      exact ⟨fun _ => ⟨rfl, rfl⟩, by trivial⟩
end Go.Proofs.Ytepfhcimmbkilaa
