/- Two vaults behind items: what their being the same means. -/
import Derived.Test.YtoklncfdhlplkaaVaultS
import Derived.Test.YtoklncfdhlplkaaAll13
import Derived.Test.YtoklncfdhlplkaaRef13B
set_option linter.unusedVariables false
set_option linter.unusedSimpArgs false
namespace Go.Proofs.Ytoklncfdhlplkaa
open Go.RowKit
open Go.Proofs.YtoklncfdhlplkaaW.PrintWords

theorem Applied.yes {w w' : World} {S : Nat → Prop} {g m : Nat} {H : List HE} {id : Int × Int} {L : List Cmd} {r : Ending} (h : Applied w S g H m id L r w') (he : errBat L = 0) :
    ∃ v S', r = .returned (.tuple #[v, .int .i64 0]) ∧ VaultRep w' S' g (H ++ tagN id L L.length) (m + 1) ∧ (∀ b, S' b → S b ∨ w.heap.size ≤ b) ∧ Fr S w w' := by
  rcases h with ⟨_, v, S', h1, h2, h3, h4, _⟩ | ⟨h, _⟩
  · exact ⟨v, S', h1, h2, h3, h4⟩
  · exact absurd he h
theorem Applied.no {w w' : World} {S : Nat → Prop} {g m : Nat} {H : List HE} {id : Int × Int} {L : List Cmd} {r : Ending} (h : Applied w S g H m id L r w') (he : ¬ errBat L = 0) :
    r = .returned (.tuple #[.slice none 0 0, .int .i64 (errBat L)]) ∧ Fr (fun _ => False) w w' := by
  rcases h with ⟨h, _⟩ | ⟨_, h1, h2⟩
  · exact absurd h he
  · exact ⟨h1, h2⟩
theorem row_apply {w wr W2 : World} {e : TypeId} {base : Nat} {S1 S2 Q : Nat → Prop} {u : Value} {xs : List Item} (hR : (itF w).R e wr base (fun b => ¬ S1 b ∧ Q b) u xs) (hS2 : ∀ b, S2 b → S1 b ∨ wr.heap.size ≤ b) (hF : Fr S1 wr W2) : (itF w).R e W2 base (fun b => ¬ S2 b ∧ Q b) u xs :=
  Kd.R_mono (Kd.R_step (Kd.R_mono (Kd.R_bound hR) (ok' := fun b => (¬ S2 b ∧ Q b) ∧ ¬ S1 b) (fun b hb => ⟨⟨fun h => (hS2 b h).elim hb.1.1 (fun h => absurd hb.2.2.1 (by omega)), hb.1.2⟩, hb.1.1⟩)) (fun b hb hl => hF.block b hl hb.2)) (fun b hb => hb.1)
theorem itF_own {w0 w : World} {e : TypeId} {base : Nat} {ok : Nat → Prop} {v : Value} {xs : List Item} (h : (itF w0).R e w base ok v xs) : (itF w0).R e w base (fun b => v.ownBlock = some b) v xs := by
  obtain ⟨_, inner, hown, hr⟩ := h
  exact ⟨fun k hk => hk, inner, hown, hr.imp_ (fun x c h => h)⟩
/-- The first k items are applied to the vault at g; those that may be stand in the row u. W0: where the loop began; S0: the vault's blocks then; x: the row's. -/
def VRow (w W0 wr : World) (S0 : Nat → Prop) (x g : Nat) (L : List Item) (k : Nat) (u : Value) : Prop :=
  ∃ (S1 : Nat → Prop) (m : Nat), m ≤ k ∧ VaultRep wr S1 g (runI (L.take k)).1 m ∧ (∀ b, S1 b → S0 b ∨ W0.heap.size ≤ b) ∧ (itF w).R 34 wr w.heap.size (fun b => ¬ S1 b ∧ (b = x ∨ W0.heap.size ≤ b)) u (goodI (L.take k)) ∧ Fr (fun b => S0 b ∨ b = x) W0 wr
theorem VRow.start {w W0 : World} {S0 : Nat → Prop} {x g : Nat} (L : List Item) {u : Value} (h : VaultRep W0 S0 g [] 0) (hx : ¬ S0 x) (hR : (itF w).R 34 W0 w.heap.size (fun b => b = x) u []) : VRow w W0 W0 S0 x g L 0 u :=
  ⟨S0, 0, Nat.le_refl _, h, fun b h => .inl h, Kd.R_mono hR (fun b hb => ⟨by rw [hb]; exact hx, .inl hb⟩), Fr.refl _ _⟩
theorem own_new (b x : Nat) (h : (Value.slice (some ⟨x, 0, none⟩) 0 0).ownBlock = some b) : b = x := by
  simp [Value.ownBlock] at h
  omega

def PKey (a b : List Item) (key : ByteArray) : Prop := cellOf (runB a).1 key = cellOf (runB b).1 key ∧ logOf (runB a).1 key = logOf (runB b).1 key
theorem tagN_mem {id : Int × Int} {L : List Cmd} {e : HE} (h : e ∈ tagN id L L.length) : e.2.2 ∈ L := by
  unfold tagN at h
  obtain ⟨i, hi, rfl⟩ := List.mem_map.1 h
  have hl := List.mem_range.1 hi
  show cmx L i ∈ L
  rw [cmx_eq hl]
  exact List.getElem_mem hl
theorem runB_mem' : ∀ (L : List Item) (s : List HE × List Rs) (e : HE), e ∈ (L.foldl stepB s).1 → e ∈ s.1 ∨ e.2.2 ∈ cmdsI L := by
  intro L
  induction L with
  | nil => intro s e h; exact .inl h
  | cons it L ih =>
    intro s e h
    have hcm : cmdsI (it :: L) = it.2 ++ cmdsI L := rfl
    rw [hcm]
    rcases ih (stepB s it) e h with h | h
    · rcases List.mem_append.1 (show e ∈ s.1 ++ tagN it.1 it.2 it.2.length from h) with h | h
      · exact .inl h
      · exact .inr (List.mem_append_left _ (tagN_mem h))
    · exact .inr (List.mem_append_right _ h)
theorem runB_mem {L : List Item} {e : HE} (h : e ∈ (runB L).1) : e.2.2 ∈ cmdsI L := (runB_mem' L _ e h).elim (fun h => by cases h) id
theorem foldl_no (key : ByteArray) : ∀ (H : List HE) (c : CellD), (∀ e ∈ H, e.2.2.2.1 ≠ key) → H.foldl (cellStep key) c = c := by
  intro H
  induction H with
  | nil => intro c _; rfl
  | cons e H ih =>
    intro c h
    rw [List.foldl_cons, show cellStep key c e = c from by unfold cellStep; rw [cdec_false (h e (List.mem_cons_self ..))]; rfl]
    exact ih c (fun e' he' => h e' (List.mem_cons_of_mem _ he'))
theorem cellOf_no {H : List HE} {key : ByteArray} (h : ∀ e ∈ H, e.2.2.2.1 ≠ key) : cellOf H key = (false, 0) := foldl_no key H _ h
theorem logOf_none {H : List HE} {key : ByteArray} (h : ∀ e ∈ H, e.2.2.2.1 ≠ key) : logOf H key = [] := by
  unfold logOf
  rw [List.filter_eq_nil_iff.2 (fun e he => by rw [cdec_false (fun hw : wrote key e => h e he hw.1)]; decide)]
  rfl
theorem same_keys (a b : List Item) : (∀ s ∈ keysR (cmdsI (a ++ b)), PKey a b s) ↔ SameH (runB a).1 (runB b).1 := by
  constructor
  · intro h k
    by_cases hk : k ∈ keysR (cmdsI (a ++ b))
    · exact h k hk
    · have hcm : cmdsI (a ++ b) = cmdsI a ++ cmdsI b := List.flatMap_append
      have no : ∀ c ∈ cmdsI (a ++ b), c.2.1 ≠ k := fun c hc he => hk ((keysR_mem _ _).2 ⟨c, hc, he⟩)
      rw [hcm] at no
      have na : ∀ e ∈ (runB a).1, e.2.2.2.1 ≠ k := fun e he => no _ (List.mem_append_left _ (runB_mem he))
      have nb : ∀ e ∈ (runB b).1, e.2.2.2.1 ≠ k := fun e he => no _ (List.mem_append_right _ (runB_mem he))
      rw [cellOf_no na, cellOf_no nb, logOf_none na, logOf_none nb]
      exact ⟨rfl, rfl⟩
  · intro h s _
    exact h s
theorem SameH.symm {H H' : List HE} (h : SameH H H') : SameH H' H := fun k => ⟨(h k).1.symm, (h k).2.symm⟩
end Go.Proofs.Ytoklncfdhlplkaa
