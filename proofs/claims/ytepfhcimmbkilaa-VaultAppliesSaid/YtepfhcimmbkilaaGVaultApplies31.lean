/- Texts of VaultApplies, merged (31 of 33): AppP. -/
import Derived.Test.YtepfhcimmbkilaaGVaultApplies28
import Derived.Test.YtepfhcimmbkilaaGVaultApplies29
import Derived.Test.YtepfhcimmbkilaaGVaultApplies30
set_option linter.unusedVariables false
set_option linter.unusedSimpArgs false
/- VaultApplies: what is told, and what no vault is the same as: in plain words. -/
namespace Go.Proofs.Ytepfhcimmbkilaa
open Go.RowKit
open Go.Proofs.YtepfhcimmbkilaaW.PrintWords

theorem Applied.both2 {w w' : World} {S : Nat → Prop} {g m : Nat} {H : List HE} {id : Int × Int} {L : List Cmd} {r : Ending} (h : Applied w S g H m id L r w') (hV : VaultRep w S g H m) :
    ∃ v S', r = .returned (.tuple #[v, .int .i64 (errBat L)]) ∧ VaultRep w' S' g (apH H id L) (if errBat L = 0 then m + 1 else m) ∧ (∀ b, S' b → S b ∨ w.heap.size ≤ b) ∧ Fr S w w' ∧ resK.R 55 w' w.heap.size (fun b => ¬ S' b) v (apT H id L) := by
  unfold apH apT
  rcases h with ⟨he, v, S', h1, h2, h3, h4, h5⟩ | ⟨he, h1, h2⟩
  · rw [if_pos he, if_pos he, if_pos he, he]
    exact ⟨v, S', h1, h2, h3, h4, h5⟩
  · rw [if_neg he, if_neg he, if_neg he]
    exact ⟨_, S, h1, hV.fr h2 (fun _ _ h => h), fun b hb => .inl hb, h2.mono (fun _ _ h => h.elim), Kd.R_nil _ _ _ _ _⟩
theorem told_canon {H : List HE} (hH : HGood H) (id : Int × Int) (L : List Cmd) (hL : ∀ x ∈ L, CmdGood x) (k : Nat) (hk : k ≤ L.length) : ∀ x ∈ toldN H id L k, CellC x.2.2 := fun x hx => by
  obtain ⟨i, hi, rfl⟩ := List.mem_map.1 hx
  have hi := List.mem_range.1 hi
  exact (doC_canon (cellOf_canon (hH.append (tagN_good (by omega) hL)) _) (hL _ (cmx_mem (by omega)))).2
theorem abs_canon {T : List Rs} (h : ∀ x ∈ T, CellC x.2.2) : T.map absR = T := by
  have : T.map absR = T.map id := List.map_congr_left fun x hx => by
    obtain ⟨a, b, c⟩ := x
    have := (h _ hx).2
    show (a, b, absC c) = _
    rw [this]
    rfl
  rw [this, List.map_id]
theorem runB_snoc (D : List Item) (it : Item) : runB (D ++ [it]) = ((runB D).1 ++ tagN it.1 it.2 it.2.length, (runB D).2 ++ toldN (runB D).1 it.1 it.2 it.2.length) := by
  unfold runB
  rw [List.foldl_append]
  rfl
theorem runB_apH (D : List Item) (it : Item) (he : errBat it.2 = 0) : (runB (D ++ [it])).1 = apH (runB D).1 it.1 it.2 := by
  rw [runB_snoc]
  unfold apH
  rw [if_pos he]
/-- What the last batch told lies at the end of all results. -/
theorem told_last {D : List Item} {it : Item} {T : List Rs} (h : T.map absR = (runB (D ++ [it])).2) (hD : ItemsGood D) (hi : ∀ x ∈ it.2, CmdGood x) (he : errBat it.2 = 0) :
    T.length = (runB D).2.length + it.2.length ∧ (apT (runB D).1 it.1 it.2).map absR = (T.drop (runB D).2.length).map absR := by
  rw [runB_snoc] at h
  have hl := congrArg List.length h
  rw [List.length_map, List.length_append, toldN_len] at hl
  refine ⟨hl, ?_⟩
  unfold apT
  rw [if_pos he, abs_canon (told_canon (runB_good hD) _ _ hi _ (Nat.le_refl _)), List.map_drop, h, List.drop_left]
theorem log_mem {H : List HE} {e : HE} (he : e ∈ H) {key : ByteArray} (h : wrote key e) : logOf H key ≠ [] := by
  obtain ⟨a, b, rfl⟩ := List.append_of_mem he
  have hx : ∀ (b : List HE) (a : List HE), logOf a key ≠ [] → logOf (a ++ b) key ≠ [] := by
    intro b
    induction b with
    | nil => intro a h; rw [List.append_nil]; exact h
    | cons x b ih =>
      intro a h
      rw [show a ++ x :: b = (a ++ [x]) ++ b by simp]
      refine ih _ ?_
      by_cases hw : wrote key x
      · rw [logOf_yes hw]; simp
      · rw [logOf_no hw]; exact h
  rw [show a ++ e :: b = (a ++ [e]) ++ b by simp]
  refine hx b _ ?_
  rw [logOf_yes h]
  simp
theorem nil_same {D : List Item} (hD : ∀ it ∈ D, errBat it.2 = 0) : SameH [] (runB D).1 ↔ ¬ Wrote (runB D).1 := by
  constructor
  · rintro h ⟨s, hs⟩
    exact hs (h s).2.symm
  · intro h s
    have hl := wrote_none h s
    refine ⟨?_, hl.symm⟩
    have hq : Quiet (runB D).1 s := fun e he hk => by
      have hm := runB_mem he
      obtain ⟨it, hit, hx⟩ := List.mem_flatMap.1 (show e.2.2 ∈ D.flatMap (fun it => it.2) from hm)
      have hok := bat_all (hD it hit) _ hx
      refine ⟨hok, Classical.byContradiction fun hn => ?_⟩
      exact log_mem he (key := s) ⟨hk, hok, hn⟩ hl
    exact (quiet_fold (runB D).1 (false, 0) hq).symm
theorem nil_law {D : List Item} (hD : ∀ it ∈ D, errBat it.2 = 0) : cdec (SameH [] (runB D).1) = (decide ((keysR (cmdsI D)).length = 0) || !cdec (Wrote (runB D).1)) := by
  by_cases hw : Wrote (runB D).1
  · rw [cdec_false (fun h => (nil_same hD).1 h hw), cdec_true hw]
    have : ¬ (keysR (cmdsI D)).length = 0 := fun h0 => by
      obtain ⟨s, hs⟩ := hw
      have hm : s ∈ keysR (cmdsI D) := by
        rw [keysR_mem]
        exact Classical.byContradiction fun hn => hs (logOf_none fun e he hk => hn ⟨e.2.2, runB_mem he, hk⟩)
      rw [List.eq_nil_of_length_eq_zero h0] at hm
      cases hm
    rw [decide_eq_false this]
    rfl
  · rw [cdec_true ((nil_same hD).2 hw), cdec_false hw]
    simp
end Go.Proofs.Ytepfhcimmbkilaa
