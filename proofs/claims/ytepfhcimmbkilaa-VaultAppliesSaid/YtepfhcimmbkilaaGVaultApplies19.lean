/- Texts of VaultApplies, merged (19 of 33): SameP, ConvA, Half, BitsP. -/
import Derived.Test.YtepfhcimmbkilaaGVaultApplies17
import Derived.Test.YtepfhcimmbkilaaGVaultApplies18
import Derived.Test.YtepfhcimmbkilaaGVaultApplies12
import Derived.Lib.ConvBytes
import Derived.Test.YtepfhcimmbkilaaGVaultApplies1
import Derived.Test.YtepfhcimmbkilaaGVaultApplies4
import Derived.Test.YtepfhcimmbkilaaGVaultApplies6
import Derived.Laws.FloatArith
set_option linter.unusedVariables false
set_option linter.unusedSimpArgs false
/- Two vaults behind items: what their being the same means. -/
namespace Go.Proofs.Ytepfhcimmbkilaa
open Go.RowKit
open Go.Proofs.YtepfhcimmbkilaaW.PrintWords

theorem Applied.yes {w w' : World} {S : Nat → Prop} {g m : Nat} {H : List HE} {id : Int × Int} {L : List Cmd} {r : Ending} (h : Applied w S g H m id L r w') (he : errBat L = 0) :
    ∃ v S', r = .returned (.tuple #[v, .int .i64 0]) ∧ VaultRep w' S' g (H ++ tagN id L L.length) (m + 1) ∧ (∀ b, S' b → S b ∨ w.heap.size ≤ b) ∧ Fr S w w' := by
  rcases h with ⟨_, v, S', h1, h2, h3, h4, _⟩ | ⟨h, _⟩
  · exact ⟨v, S', h1, h2, h3, h4⟩
  · exact absurd he h
theorem Applied.no {w w' : World} {S : Nat → Prop} {g m : Nat} {H : List HE} {id : Int × Int} {L : List Cmd} {r : Ending} (h : Applied w S g H m id L r w') (he : ¬ errBat L = 0) :
    r = .returned (.tuple #[.slice none 0 0, .int .i64 (errBat L)]) ∧ Fr (fun _ => False) w w' := by
  rcases h with ⟨h, _⟩ | ⟨_, h1, h2⟩
  · exact absurd h he
  · exact ⟨h1, h2⟩
theorem row_apply {w wr W2 : World} {e : TypeId} {base : Nat} {S1 S2 Q : Nat → Prop} {u : Value} {xs : List Item} (hR : (itF w).R e wr base (fun b => ¬ S1 b ∧ Q b) u xs) (hS2 : ∀ b, S2 b → S1 b ∨ wr.heap.size ≤ b) (hF : Fr S1 wr W2) : (itF w).R e W2 base (fun b => ¬ S2 b ∧ Q b) u xs :=
  Kd.R_mono (Kd.R_step (Kd.R_mono (Kd.R_bound hR) (ok' := fun b => (¬ S2 b ∧ Q b) ∧ ¬ S1 b) (fun b hb => ⟨⟨fun h => (hS2 b h).elim hb.1.1 (fun h => absurd hb.2.2.1 (by omega)), hb.1.2⟩, hb.1.1⟩)) (fun b hb hl => hF.block b hl hb.2)) (fun b hb => hb.1)
theorem itF_own {w0 w : World} {e : TypeId} {base : Nat} {ok : Nat → Prop} {v : Value} {xs : List Item} (h : (itF w0).R e w base ok v xs) : (itF w0).R e w base (fun b => v.ownBlock = some b) v xs := by
  obtain ⟨_, inner, hown, hr⟩ := h
  exact ⟨fun k hk => hk, inner, hown, hr.imp_ (fun x c h => h)⟩
/-- The first k items are applied to the vault at g; those that may be stand in the row u. W0: where the loop began; S0: the vault's blocks then; x: the row's. -/
def VRow (w W0 wr : World) (S0 : Nat → Prop) (x g : Nat) (L : List Item) (k : Nat) (u : Value) : Prop :=
  ∃ (S1 : Nat → Prop) (m : Nat), m ≤ k ∧ VaultRep wr S1 g (runI (L.take k)).1 m ∧ (∀ b, S1 b → S0 b ∨ W0.heap.size ≤ b) ∧ (itF w).R 30 wr w.heap.size (fun b => ¬ S1 b ∧ (b = x ∨ W0.heap.size ≤ b)) u (goodI (L.take k)) ∧ Fr (fun b => S0 b ∨ b = x) W0 wr
theorem VRow.start {w W0 : World} {S0 : Nat → Prop} {x g : Nat} (L : List Item) {u : Value} (h : VaultRep W0 S0 g [] 0) (hx : ¬ S0 x) (hR : (itF w).R 30 W0 w.heap.size (fun b => b = x) u []) : VRow w W0 W0 S0 x g L 0 u :=
  ⟨S0, 0, Nat.le_refl _, h, fun b h => .inl h, Kd.R_mono hR (fun b hb => ⟨by rw [hb]; exact hx, .inl hb⟩), Fr.refl _ _⟩
theorem own_new (b x : Nat) (h : (Value.slice (some ⟨x, 0, none⟩) 0 0).ownBlock = some b) : b = x := by
  simp [Value.ownBlock] at h
  omega

def PKey (a b : List Item) (key : ByteArray) : Prop := cellOf (runB a).1 key = cellOf (runB b).1 key ∧ logOf (runB a).1 key = logOf (runB b).1 key
theorem tagN_mem {id : Int × Int} {L : List Cmd} {e : HE} (h : e ∈ tagN id L L.length) : e.2.2 ∈ L := by
  unfold tagN at h
  obtain ⟨i, hi, rfl⟩ := List.mem_map.1 h
  have hl := List.mem_range.1 hi
  show cmx L i ∈ L
  rw [cmx_eq hl]
  exact List.getElem_mem hl
theorem runB_mem' : ∀ (L : List Item) (s : List HE × List Rs) (e : HE), e ∈ (L.foldl stepB s).1 → e ∈ s.1 ∨ e.2.2 ∈ cmdsI L := by
  intro L
  induction L with
  | nil => intro s e h; exact .inl h
  | cons it L ih =>
    intro s e h
    have hcm : cmdsI (it :: L) = it.2 ++ cmdsI L := rfl
    rw [hcm]
    rcases ih (stepB s it) e h with h | h
    · rcases List.mem_append.1 (show e ∈ s.1 ++ tagN it.1 it.2 it.2.length from h) with h | h
      · exact .inl h
      · exact .inr (List.mem_append_left _ (tagN_mem h))
    · exact .inr (List.mem_append_right _ h)
theorem runB_mem {L : List Item} {e : HE} (h : e ∈ (runB L).1) : e.2.2 ∈ cmdsI L := (runB_mem' L _ e h).elim (fun h => by cases h) id
theorem foldl_no (key : ByteArray) : ∀ (H : List HE) (c : CellD), (∀ e ∈ H, e.2.2.2.1 ≠ key) → H.foldl (cellStep key) c = c := by
  intro H
  induction H with
  | nil => intro c _; rfl
  | cons e H ih =>
    intro c h
    rw [List.foldl_cons, show cellStep key c e = c from by unfold cellStep; rw [cdec_false (h e (List.mem_cons_self ..))]; rfl]
    exact ih c (fun e' he' => h e' (List.mem_cons_of_mem _ he'))
theorem cellOf_no {H : List HE} {key : ByteArray} (h : ∀ e ∈ H, e.2.2.2.1 ≠ key) : cellOf H key = (false, 0) := foldl_no key H _ h
theorem logOf_none {H : List HE} {key : ByteArray} (h : ∀ e ∈ H, e.2.2.2.1 ≠ key) : logOf H key = [] := by
  unfold logOf
  rw [List.filter_eq_nil_iff.2 (fun e he => by rw [cdec_false (fun hw : wrote key e => h e he hw.1)]; decide)]
  rfl
theorem same_keys (a b : List Item) : (∀ s ∈ keysR (cmdsI (a ++ b)), PKey a b s) ↔ SameH (runB a).1 (runB b).1 := by
  constructor
  · intro h k
    by_cases hk : k ∈ keysR (cmdsI (a ++ b))
    · exact h k hk
    · have hcm : cmdsI (a ++ b) = cmdsI a ++ cmdsI b := List.flatMap_append
      have no : ∀ c ∈ cmdsI (a ++ b), c.2.1 ≠ k := fun c hc he => hk ((keysR_mem _ _).2 ⟨c, hc, he⟩)
      rw [hcm] at no
      have na : ∀ e ∈ (runB a).1, e.2.2.2.1 ≠ k := fun e he => no _ (List.mem_append_left _ (runB_mem he))
      have nb : ∀ e ∈ (runB b).1, e.2.2.2.1 ≠ k := fun e he => no _ (List.mem_append_right _ (runB_mem he))
      rw [cellOf_no na, cellOf_no nb, logOf_none na, logOf_none nb]
      exact ⟨rfl, rfl⟩
  · intro h s _
    exact h s
theorem SameH.symm {H H' : List HE} (h : SameH H H') : SameH H' H := fun k => ⟨(h k).1.symm, (h k).2.symm⟩
end Go.Proofs.Ytepfhcimmbkilaa
/- append onto the bytes of a converted string. -/
namespace Go.Proofs.Ytepfhcimmbkilaa
open Go.RowKit
open Go.Proofs.YtepfhcimmbkilaaW.PrintWords

theorem add_plain0 (g o j : Nat) : (⟨g, o, none⟩ : Addr).add j = ⟨g, o + j, none⟩ := by unfold Addr.add; split <;> simp_all
theorem rd_of_block {w : World} {g : Nat} {cur : Array Value} {t : TypeId} {fz : Nat × Nat} {xs : List Int} (hg : w.heap[g]? = some (.cells cur t fz)) (ht : cur.toList.take xs.length = nums .u8 xs) (hm : xs.length ≤ 9223372036854775807) : RdB w (some ⟨g, 0, none⟩) xs := by
  refine ⟨rfl, hm, fun _ => ⟨_, rfl, fun j hj => ?_⟩⟩
  rw [add_plain0, Nat.zero_add, cell_of_row w g j cur t fz hg]
  have h1 : (nums .u8 xs)[j]? = some (.int .u8 (xs.getD j 0)) := by
    simp [nums, List.getElem?_eq_getElem hj, List.getD_eq_getElem?_getD]
  rw [← ht, List.getElem?_take, if_pos hj] at h1
  rwa [Array.getElem?_toList] at h1
theorem run_storeCells_atG (P : Program) (g o : Nat) (t : TypeId) (fz : Nat × Nat) : ∀ (vs : List Value) (i : Nat) (cur : Array Value) (w : World), w.heap[g]? = some (.cells cur t fz) → cur.size ≤ fz.1 → o + i + vs.length ≤ cur.size → (∀ v ∈ vs, v.oneCell' = true) →
    (storeCells ⟨g, o, none⟩ vs i).run P w = .ok () (w.setRow g (cur.toList.take (o + i) ++ vs ++ cur.toList.drop (o + i + vs.length)).toArray)
  | [], i, cur, w, hg, _, _, _ => by
    simp only [storeCells, List.append_nil, List.length_nil, Nat.add_zero, List.take_append_drop, Array.toArray_toList]
    rw [setRow_self w g cur t fz hg]
    rfl
  | v :: rest, i, cur, w, hg, hfz, hl, h1 => by
    have hi : o + i < cur.size := by simp at hl; omega
    have hadd : (⟨g, o, none⟩ : Addr).add i = ⟨g, o + i, none⟩ := by unfold Addr.add; split <;> simp_all
    have hcell : w.cell? ⟨g, o + i, none⟩ = some cur[o + i] := by simp [World.cell?, hg, hi]
    have hfro : w.frozen? ⟨g, o + i, none⟩ = false := by
      obtain ⟨lo, hi'⟩ := fz
      simp only [World.frozen?, hg, Bool.and_eq_false_iff, decide_eq_false_iff_not]
      left
      simp only at hfz
      omega
    have hst : (store ((⟨g, o, none⟩ : Addr).add i) v).run P w = .ok () (w.setRow g (cur.setIfInBounds (o + i) v)) := by
      rw [hadd, run_store P w _ v _ (h1 v (by simp)), hcell]
      simp [hfro, setCell_eq_setRow w g (o + i) cur t fz v hg]
    have ih := run_storeCells_atG P g o t fz rest (i + 1) (cur.setIfInBounds (o + i) v) (w.setRow g (cur.setIfInBounds (o + i) v)) (setRow_heap w g cur _ t _ hg) (by simpa using hfz) (by simp at hl ⊢; omega) (fun x hx => h1 x (by simp [hx]))
    simp only [storeCells, Sem.run_bind, hst, Result.andThen_ok, ih, setRow_setRow]
    congr 3
    have e := list_seg_step cur.toList (o + i) v rest (by simp at hl ⊢; omega)
    simpa [Array.toList_setIfInBounds, Nat.add_assoc] using e
/-- At g lie the bytes of s, as a conversion has made them. -/
def CvB (w : World) (g : Nat) (s : ByteArray) (cap : Nat) : Prop :=
  ∃ cur fz, w.heap[g]? = some (.cells cur 5 fz) ∧ cur.size ≤ fz.1 ∧ cur.size = cap ∧ s.size ≤ cap ∧ cur.toList.take s.size = nums .u8 (bytesOf s)
theorem CvB.lt {w : World} {g cap : Nat} {s : ByteArray} (h : CvB w g s cap) : g < w.heap.size := by
  obtain ⟨cur, fz, hg, _⟩ := h
  exact (Array.getElem?_eq_some_iff.1 hg).1
theorem CvB.fr {w w' : World} {g cap : Nat} {s : ByteArray} {S : Nat → Prop} (h : CvB w g s cap) (hF : Fr S w w') (hn : ¬ S g) : CvB w' g s cap := by
  obtain ⟨cur, fz, hg, rest⟩ := h
  exact ⟨cur, fz, hF.get hg hn, rest⟩
theorem nums_bytes (s : ByteArray) : (s.data.map fun b => Value.int .u8 b.toNat).toList = nums .u8 (bytesOf s) := by
  simp [nums, bytesOf]
theorem CvB.made (w : World) (s : ByteArray) : CvB (Lib.bytesWorld w 5 s) w.heap.size s (grownCap w s.size 0 5) := by
  have hge := grownCap_ge w s.size 0 5
  refine ⟨_, _, Lib.bytesWorld_at_new w 5 s, Nat.le_refl _, ?_, hge, ?_⟩
  · unfold Lib.bytesCells
    rw [Array.size_append, Array.size_map, Array.size_replicate]
    have : s.data.size = s.size := rfl
    omega
  · unfold Lib.bytesCells
    rw [Array.toList_append, nums_bytes, List.take_append_of_le_length (by rw [nums_length, bytesOf_length]; exact Nat.le_refl _)]
    rw [List.take_of_length_le (by rw [nums_length, bytesOf_length]; exact Nat.le_refl _)]
set_option maxRecDepth 100000 in
theorem run_append_cv {W : World} (ty : TypeId) {g cap : Nat} {s : ByteArray} (ys : List Int) (A : Option Addr) (c : Nat) (h : CvB W g s cap) (HR : RdB W A ys) (hl : s.size + ys.length ≤ 140737488355327) :
    ∃ A1 c1 w1, (Builtin.append_ #[79, 79] ty #[.slice (some ⟨g, 0, none⟩) s.size cap, .slice A ys.length c]).run Try.prog W = .ok (.slice A1 (bytesOf s ++ ys).length c1) w1 ∧ RdB w1 A1 (bytesOf s ++ ys) ∧ W.grownBy w1 (some g) := by
  obtain ⟨i0, hi, hz0, hz1, hz2⟩ := info_parts info8
  have ht := Try.underlying79
  obtain ⟨cur, fz, hg, hfz, hcs, hsc, htk⟩ := h
  have hbl := bytesOf_length s
  have hlen : (bytesOf s ++ ys).length = s.size + ys.length := by rw [List.length_append, hbl]
  rcases Nat.eq_zero_or_pos ys.length with h0 | h0
  · have hys : ys = [] := List.eq_nil_of_length_eq_zero h0
    subst hys
    have hr0 : RdB W (some ⟨g, 0, none⟩) (bytesOf s ++ []) := by
      rw [List.append_nil]
      exact rd_of_block hg (by rw [hbl]; exact htk) (by rw [hbl]; omega)
    rcases A with _ | ad
    · refine ⟨some ⟨g, 0, none⟩, cap, W, ?_, hr0, World.grownBy.refl W _⟩
      rw [hlen]
      simp [Builtin.append_, run_underlying ht, sizeOf, typeInfo, hi, Builtin.lenOf, Builtin.firstCells, hsc, storeCells]
    · refine ⟨some ⟨g, 0, none⟩, cap, W, ?_, hr0, World.grownBy.refl W _⟩
      rw [hlen]
      have hf := run_firstCells_some (P := Try.prog) W i0.size 0 ad 0 c [] (by simp) (fun j u hu => by simp at hu)
      simp [Builtin.append_, run_underlying ht, sizeOf, typeInfo, hi, Builtin.lenOf, hf, hsc, storeCells]
  · obtain ⟨ad, rfl, hc⟩ := HR.2.2 h0
    have hcells : ∀ j u, (nums .u8 ys)[j]? = some u → W.cell? (ad.add j) = some u := by
      intro j u hu
      have hj : j < ys.length := by
        rcases Nat.lt_or_ge j ys.length with h | h
        · exact h
        · simp [nums, List.getElem?_eq_none h] at hu
      have := hc j (by omega)
      simp [nums, List.getElem?_eq_getElem hj] at hu
      subst hu
      rw [this]
      simp [List.getD_eq_getElem?_getD, List.getElem?_eq_getElem hj]
    have hone : ∀ u ∈ nums .u8 ys, u.oneCell' = true := by
      intro u hu
      simp only [nums, List.mem_map] at hu
      obtain ⟨q, _, rfl⟩ := hu
      rfl
    have hnl : (nums .u8 ys).length = ys.length := nums_length _ _
    by_cases hroom : s.size + ys.length ≤ cap
    · have hf := run_firstCells_some (P := Try.prog) W i0.size ys.length ad ys.length c (nums .u8 ys) (by rw [hnl, hz1, Nat.mul_one]) hcells
      have hst := run_storeCells_atG Try.prog g (s.size * i0.size) 5 fz (nums .u8 ys) 0 cur W hg hfz (by rw [hnl, hz1, hcs]; omega) hone
      simp only [Nat.add_zero] at hst
      refine ⟨some ⟨g, 0, none⟩, cap, W.setRow g (cur.toList.take (s.size * i0.size) ++ nums .u8 ys ++ cur.toList.drop (s.size * i0.size + (nums .u8 ys).length)).toArray, ?_, ?_, ⟨rfl, rfl, rfl, by simp, fun k _ hk => setRow_other W g k _ (fun e => hk (by rw [e]))⟩⟩
      · rw [hlen]
        simp [Builtin.append_, run_underlying ht, sizeOf, typeInfo, hi, Builtin.lenOf, hroom, hf, Addr.add_lit, hst]
      · refine rd_of_block (setRow_heap W g cur _ 5 fz hg) ?_ (by rw [hlen]; omega)
        rw [hz1, Nat.mul_one, htk, hlen]
        have : s.size + ys.length = (nums .u8 (bytesOf s) ++ nums .u8 ys).length := by rw [List.length_append, nums_length, nums_length, hbl]
        rw [this, List.take_left]
        simp [nums]
    · have holds : ∀ j u, (nums .u8 (bytesOf s))[j]? = some u → W.cell? ((⟨g, 0, none⟩ : Addr).add j) = some u := by
        intro j u hu
        rw [add_plain0, Nat.zero_add, cell_of_row W g j cur 5 fz hg]
        rw [← htk] at hu
        rw [List.getElem?_take] at hu
        split at hu
        · rwa [Array.getElem?_toList] at hu
        · cases hu
      have hr := run_append_grow (P := Try.prog) W 79 ty 5 i0 (.int .u8 0) ht hi hz0 ⟨g, 0, none⟩ s.size cap (nums .u8 (bytesOf s)) (by rw [nums_length, hbl, hz1, Nat.mul_one]) holds ad ys.length c (nums .u8 ys) (by rw [hnl, hz1, Nat.mul_one]) hcells (by omega) (by omega) (growslice_fits (by omega) (by rw [hz2]; omega))
      rw [hlen]
      refine ⟨_, _, _, hr, ?_, ⟨rfl, rfl, rfl, by simp, fun k hk _ => heap_alloc_old W.drew _ hk⟩⟩
      refine rd_of_block (heap_alloc_new W.drew _) ?_ (by rw [hlen]; omega)
      rw [hlen]
      have : s.size + ys.length = (nums .u8 (bytesOf s) ++ nums .u8 ys).length := by rw [List.length_append, nums_length, nums_length, hbl]
      rw [this]
      simp only [Array.toList_append, List.append_assoc]
      rw [← List.append_assoc, List.take_left]
      simp [nums]
end Go.Proofs.Ytepfhcimmbkilaa
/- Doubles, plain: twice, half, and the whole number that one is. No program in sight. -/
namespace Go.Proofs.Ytepfhcimmbkilaa
open Ieee

theorem read_norm (x : Nat) (h1 : 4503599627370496 ≤ rung x) (h : rung x < 9218868437227405312) : double.read x = .number (negW x) (4503599627370496 + rung x % 4503599627370496) (-1074 + ((rung x / 4503599627370496 - 1 : Nat) : Int)) := by
  have e1 : double.signWeight = 9223372036854775808 := by decide +kernel
  have e2 : double.binade = 4503599627370496 := by decide +kernel
  have e3 : double.infRung = 9218868437227405312 := by decide +kernel
  have e4 : double.leastPlace = -1074 := by decide +kernel
  unfold Format.read
  rw [e1, e2, e3, e4]
  simp only
  change x % 9223372036854775808 < _ at h
  change _ ≤ x % 9223372036854775808 at h1
  rw [if_neg (by omega), if_pos h]; rfl
theorem read_low (x : Nat) (h1 : rung x < 4503599627370496) : double.read x = .number (negW x) (rung x) (-1074) := by
  have e1 : double.signWeight = 9223372036854775808 := by decide +kernel
  have e2 : double.binade = 4503599627370496 := by decide +kernel
  have e4 : double.leastPlace = -1074 := by decide +kernel
  unfold Format.read
  rw [e1, e2, e4]
  simp only
  change x % 9223372036854775808 < _ at h1
  rw [if_pos h1]; rfl
theorem word_self (x : Nat) (hx : x < 18446744073709551616) (d : Nat) (r : Nat) (hr : r = rung x + d) : double.word (negW x) r = x + d := by
  have e1 : double.signWeight = 9223372036854775808 := by decide +kernel
  unfold Format.word
  rw [e1]
  unfold negW
  unfold rung at hr
  by_cases h : x / 9223372036854775808 % 2 = 1
  · rw [if_pos (by rw [h]; rfl)]; omega
  · rw [if_neg (by simpa using h)]; omega
theorem word_less (x : Nat) (hx : x < 18446744073709551616) (d : Nat) (hd : d ≤ rung x) (r : Nat) (hr : r = rung x - d) : double.word (negW x) r = x - d := by
  have e1 : double.signWeight = 9223372036854775808 := by decide +kernel
  unfold Format.word
  rw [e1]
  unfold negW
  unfold rung at hr hd
  by_cases h : x / 9223372036854775808 % 2 = 1
  · rw [if_pos (by rw [h]; rfl)]; omega
  · rw [if_neg (by simpa using h)]; omega
/-- What is cut exactly. -/
theorem cut_exact (way : Toward) (hw : way = .even ∨ way = .zero) (s : Bool) (n d : Nat) : way.cut s (n * 2 ^ d) d = n := by
  unfold Toward.cut
  have hg : ∃ g, g ≤ d ∧ (n = 0 ∨ g = d) ∧ min d ((n * 2 ^ d).log2 + 2) = g := by
    rcases Nat.eq_zero_or_pos n with h | h
    · exact ⟨_, Nat.min_le_left _ _, .inl h, rfl⟩
    · have hp : 0 < n * 2 ^ d := Nat.mul_pos h (Nat.two_pow_pos d)
      have h1 : d ≤ (n * 2 ^ d).log2 := (Nat.le_log2 (by omega)).2 (Nat.le_mul_of_pos_left _ h)
      exact ⟨d, Nat.le_refl _, .inr rfl, by omega⟩
  obtain ⟨g, hgd, hor, he⟩ := hg
  have hpos : 0 < 2 ^ g := Nat.two_pow_pos g
  simp only [he, Nat.shiftLeft_eq, Nat.one_mul]
  have h1 : n * 2 ^ d / 2 ^ g = n := by
    rcases hor with h | h
    · subst h; simp
    · subst h; exact Nat.mul_div_cancel _ hpos
  have h2 : n * 2 ^ d % 2 ^ g = 0 := by
    rcases hor with h | h
    · subst h; simp
    · subst h; exact Nat.mul_mod_left _ _
  rw [h1, h2]
  rcases hw with rfl | rfl
  · have : ¬ 2 ^ g < 2 * 0 := by omega
    have h3 : (2 ^ g == 2 * 0) = false := by
      rw [beq_eq_false_iff_ne]; omega
    simp [h3]
  · simp
/-- A number whose digits all fit is written as it is. -/
theorem nearest_exact (s : Bool) (mag : Nat) (p last : Int) (k t : Nat) (hm : mag ≠ 0) (ht : mag.log2 = t) (hl : last = max (p + t - 52) (-1074)) (hk : mag <<< (p - last).toNat = k * 2 ^ (last - p).toNat) (hs : (last + 1074).toNat * 4503599627370496 + k < 9218868437227405312) :
    double.nearest s mag p = double.word s ((last + 1074).toNat * 4503599627370496 + k) := by
  have e2 : double.binade = 4503599627370496 := by decide +kernel
  have e3 : double.infRung = 9218868437227405312 := by decide +kernel
  have e4 : double.leastPlace = -1074 := by decide +kernel
  have e5 : double.fractionBits = 52 := by decide +kernel
  unfold Format.nearest
  rw [if_neg hm, e2, e3, e4, e5, ht]
  simp only
  rw [show max (p + (t : Int) - ((52 : Nat) : Int)) (-1074) = last from by rw [hl]; rfl]
  rw [hk, cut_exact .even (.inl rfl), show last - -1074 = last + 1074 from by omega, Nat.min_eq_left (by omega)]
theorem log2_of {n k : Nat} (h1 : 2 ^ k ≤ n) (h2 : n < 2 ^ (k + 1)) : n.log2 = k := by
  have : n ≠ 0 := by have := Nat.two_pow_pos k; omega
  exact (Nat.log2_eq_iff this).2 ⟨h1, h2⟩
theorem two_read : double.read 4611686018427387904 = .number false 4503599627370496 (-51) := by decide +kernel
/-- Twice. -/
theorem mul2 (x : Nat) (hx : x < 18446744073709551616) (h0 : 0 < rung x) (h : rung x < 9214364837600034816) :
    double.mul 4611686018427387904 x = some (if rung x < 4503599627370496 then x + rung x else x + 4503599627370496) := by
  unfold Format.mul
  rw [two_read]
  rcases Nat.lt_or_ge (rung x) 4503599627370496 with h1 | h1
  · rw [read_low x h1, if_pos h1]
    simp only [Datum.product, Option.map_some, Bool.false_xor]
    show some (double.nearest _ _ _) = _
    obtain ⟨t, ht⟩ : ∃ t, t = (rung x).log2 := ⟨_, rfl⟩
    have hlt : t ≤ 51 := by
      have : (rung x).log2 < 52 := (Nat.log2_lt (by omega)).2 h1
      omega
    have hle : 2 ^ t ≤ rung x := by rw [ht]; exact Nat.log2_self_le (by omega)
    have hlt2 : rung x < 2 ^ (t + 1) := by rw [ht]; exact Nat.lt_log2_self
    have hlog : (4503599627370496 * rung x).log2 = 52 + t := by
      refine log2_of ?_ ?_
      · rw [Nat.pow_add]; exact Nat.mul_le_mul_left _ hle
      · rw [show 52 + t + 1 = 52 + (t + 1) from by omega, Nat.pow_add]
        exact Nat.mul_lt_mul_of_pos_left hlt2 (by decide)
    rw [nearest_exact (negW x) (4503599627370496 * rung x) (-51 + -1074) (-1074) (2 * rung x) (52 + t) (by omega) hlog (by push_cast; omega) (by
      show (4503599627370496 * rung x) <<< 0 = 2 * rung x * 2 ^ 51
      rw [Nat.shiftLeft_zero]
      have : (2 : Nat) ^ 51 = 2251799813685248 := by decide
      omega) (by show 0 * 4503599627370496 + 2 * rung x < _; omega)]
    rw [word_self x hx (rung x) _ (by show 0 * 4503599627370496 + 2 * rung x = _; omega)]
  · rw [read_norm x h1 (by omega), if_neg (by omega)]
    simp only [Datum.product, Option.map_some, Bool.false_xor]
    show some (double.nearest _ _ _) = _
    obtain ⟨q, hq⟩ : ∃ q, q = rung x / 4503599627370496 := ⟨_, rfl⟩
    obtain ⟨m, hm⟩ : ∃ m, m = 4503599627370496 + rung x % 4503599627370496 := ⟨_, rfl⟩
    have hq1 : 1 ≤ q := by rw [hq]; omega
    have hm1 : 4503599627370496 ≤ m := by omega
    have hm2 : m < 9007199254740992 := by omega
    rw [← hq, ← hm]
    have hlog : (4503599627370496 * m).log2 = 104 := by
      refine log2_of ?_ ?_
      · rw [show (2 : Nat) ^ 104 = 4503599627370496 * 4503599627370496 from by decide]; exact Nat.mul_le_mul_left _ hm1
      · rw [show (2 : Nat) ^ (104 + 1) = 4503599627370496 * 9007199254740992 from by decide]; exact Nat.mul_lt_mul_of_pos_left hm2 (by decide)
    obtain ⟨p, hp⟩ : ∃ p : Int, p = -51 + (-1074 + ((q - 1 : Nat) : Int)) := ⟨_, rfl⟩
    rw [← hp]
    have hl1 : (p + 52 + 1074).toNat = q := by omega
    rw [nearest_exact (negW x) (4503599627370496 * m) p (p + 52) m 104 (by omega) hlog (by push_cast; omega) (by
      rw [show (p - (p + 52)).toNat = 0 from by omega, show (p + 52 - p).toNat = 52 from by omega, Nat.shiftLeft_zero, show (2 : Nat) ^ 52 = 4503599627370496 from by decide, Nat.mul_comm]) (by rw [hl1]; omega)]
    rw [word_self x hx 4503599627370496 _ (by rw [hl1]; omega)]
/-- Half. -/
theorem div2 (x : Nat) (hx : x < 18446744073709551616) (h1 : 9007199254740992 ≤ rung x) (h : rung x < 9218868437227405312) :
    double.div x 4611686018427387904 = some (x - 4503599627370496) := by
  unfold Format.div
  have e5 : double.fractionBits = 52 := by decide +kernel
  rw [two_read, read_norm x (by omega) h, e5]
  obtain ⟨q, hq⟩ : ∃ q, q = rung x / 4503599627370496 := ⟨_, rfl⟩
  obtain ⟨m, hm⟩ : ∃ m, m = 4503599627370496 + rung x % 4503599627370496 := ⟨_, rfl⟩
  have hq1 : 2 ≤ q := by rw [hq]; omega
  have hm1 : 4503599627370496 ≤ m := by omega
  have hm2 : m < 9007199254740992 := by omega
  rw [← hq, ← hm]
  have hlm : m.log2 = 52 := log2_of (by rw [show (2 : Nat) ^ 52 = 4503599627370496 from by decide]; exact hm1) (by rw [show (2 : Nat) ^ (52 + 1) = 9007199254740992 from by decide]; exact hm2)
  have hl2 : (4503599627370496 : Nat).log2 = 52 := log2_of (by decide) (by decide)
  simp only [Datum.quotient, Option.map_some, Bool.xor_false, hlm, hl2]
  rw [if_neg (by decide)]
  simp only [Option.map_some, Nat.shiftLeft_eq]
  have hd : m * 2 ^ (52 + 2 + 52 - 52) / 4503599627370496 = 4 * m := by
    rw [show (2 : Nat) ^ (52 + 2 + 52 - 52) = 4 * 4503599627370496 from by decide, ← Nat.mul_assoc, Nat.mul_div_cancel _ (by decide), Nat.mul_comm]
  have hr : m * 2 ^ (52 + 2 + 52 - 52) % 4503599627370496 = 0 := by
    rw [show (2 : Nat) ^ (52 + 2 + 52 - 52) = 4 * 4503599627370496 from by decide, ← Nat.mul_assoc, Nat.mul_mod_left]
  rw [hd, hr]
  show some (double.nearest _ _ _) = _
  obtain ⟨p, hp⟩ : ∃ p : Int, p = -1074 + ((q - 1 : Nat) : Int) - -51 - ((52 + 2 + 52 - 52 : Nat) : Int) - 1 := ⟨_, rfl⟩
  have hpp : p = (q : Int) - 1079 := by omega
  rw [← hp]
  have hmag : 2 * (4 * m) + ((0 : Nat) != 0).toNat = 8 * m := by
    have : ((0 : Nat) != 0).toNat = 0 := rfl
    omega
  rw [hmag]
  have hlog : (8 * m).log2 = 55 := log2_of (by rw [show (2 : Nat) ^ 55 = 8 * 4503599627370496 from by decide]; omega) (by rw [show (2 : Nat) ^ (55 + 1) = 8 * 9007199254740992 from by decide]; omega)
  rw [nearest_exact (negW x) (8 * m) p (p + 3) m 55 (by omega) hlog (by push_cast; omega) (by
    rw [show (p - (p + 3)).toNat = 0 from by omega, show (p + 3 - p).toNat = 3 from by omega, Nat.shiftLeft_zero, show (2 : Nat) ^ 3 = 8 from by decide, Nat.mul_comm]) (by rw [show (p + 3 + 1074).toNat = q - 2 from by omega]; omega)]
  rw [word_less x hx 4503599627370496 (by omega) _ (by rw [show (p + 3 + 1074).toNat = q - 2 from by omega]; omega)]
end Go.Proofs.Ytepfhcimmbkilaa
/- A double's bits by doubling and halving: plainly. No program in sight. -/
namespace Go.Proofs.Ytepfhcimmbkilaa
open Ieee

def k74 : Nat := 1074
theorem k74_is : k74 = 1074 := rfl
theorem toInt_exact (x n : Nat) (h : rung x < 9218868437227405312) (hs : scale (rung x) = n * 2 ^ k74) : (double.read x).toInt .zero = some (if negW x then -(n : Int) else n) := by
  obtain ⟨m, a, he, hm⟩ := read_num x h
  rw [he]
  rw [hs] at hm
  have hk := k74_is
  generalize k74 = k at hk hm
  have key : Toward.zero.cut (negW x) (m <<< ((-1074 : Int) + a).toNat) (-((-1074 : Int) + a)).toNat = n := by
    rcases Nat.le_total a k with ha | ha
    · rw [show ((-1074 : Int) + a).toNat = 0 from by omega, show (-((-1074 : Int) + a)).toNat = k - a from by omega, Nat.shiftLeft_zero]
      have : m = n * 2 ^ (k - a) := by
        have h1 : m * 2 ^ a = n * 2 ^ (k - a) * 2 ^ a := by rw [hm, Nat.mul_assoc, ← Nat.pow_add, Nat.sub_add_cancel ha]
        exact Nat.eq_of_mul_eq_mul_right (Nat.two_pow_pos a) h1
      rw [this]
      exact cut_exact .zero (.inr rfl) _ _ _
    · rw [show ((-1074 : Int) + a).toNat = a - k from by omega, show (-((-1074 : Int) + a)).toNat = 0 from by omega, Nat.shiftLeft_eq]
      have : m * 2 ^ (a - k) = n := by
        have h1 : m * 2 ^ (a - k) * 2 ^ k = n * 2 ^ k := by rw [Nat.mul_assoc, ← Nat.pow_add, Nat.sub_add_cancel ha, hm]
        exact Nat.eq_of_mul_eq_mul_right (Nat.two_pow_pos k) h1
      rw [this]
      have := cut_exact .zero (.inr rfl) (negW x) n 0
      rwa [Nat.pow_zero, Nat.mul_one] at this
  simp only [Datum.toInt, Datum.integral, key, signed, Nat.shiftLeft_zero]
theorem scale_dbl {z : Nat} : scale (if z < 4503599627370496 then 2 * z else z + 4503599627370496) = 2 * scale z := by
  rcases Nat.lt_or_ge z 4503599627370496 with h | h
  · rw [if_pos h]
    unfold scale
    rw [if_pos h]
    rcases Nat.lt_or_ge (2 * z) 4503599627370496 with h2 | h2
    · rw [if_pos h2]
    · rw [if_neg (by omega), show 2 * z / 4503599627370496 - 1 = 0 from by omega, Nat.pow_zero, Nat.mul_one]
      omega
  · rw [if_neg (by omega)]
    unfold scale
    rw [if_neg (by omega), if_neg (by omega), show (z + 4503599627370496) % 4503599627370496 = z % 4503599627370496 from by omega, show (z + 4503599627370496) / 4503599627370496 - 1 = (z / 4503599627370496 - 1) + 1 from by omega, Nat.pow_succ, ← Nat.mul_assoc, Nat.mul_comm _ 2]
theorem scale_le {a b : Nat} (h : a ≤ b) : scale a ≤ scale b := by
  rcases Nat.eq_or_lt_of_le h with h | h
  · rw [h]; exact Nat.le_refl _
  · exact Nat.le_of_lt (scale_mono h)
theorem scale_c2 : scale 4841369599423283200 = 4503599627370496 * 2 ^ k74 := by
  unfold scale
  rw [if_neg (by omega), show 4841369599423283200 / 4503599627370496 - 1 = k74 from by rw [k74_is]]
/-- Behind i doublings of y. -/
structure Dbl (y i z : Nat) : Prop where
  sc : scale z = scale y * 2 ^ i
  norm : 4503599627370496 ≤ y → z = y + i * 4503599627370496
theorem Dbl.zero (y : Nat) : Dbl y 0 y := ⟨by rw [Nat.pow_zero, Nat.mul_one], fun _ => by omega⟩
theorem Dbl.succ {y i z : Nat} (h : Dbl y i z) : Dbl y (i + 1) (if z < 4503599627370496 then 2 * z else z + 4503599627370496) :=
  ⟨by rw [scale_dbl, h.sc, Nat.pow_succ, Nat.mul_comm, Nat.mul_assoc], fun hy => by have := h.norm hy; rw [if_neg (by omega), this]; omega⟩
theorem Dbl.pos {y i z : Nat} (h : Dbl y i z) (hy : 0 < y) : 0 < z := by
  rcases Nat.eq_zero_or_pos z with hz | hz
  · have h1 := h.sc
    rw [hz, scale_zero] at h1
    have h2 : scale 0 < scale y := scale_mono hy
    rw [scale_zero] at h2
    have := Nat.mul_pos h2 (Nat.two_pow_pos i)
    omega
  · exact hz
/-- A subnormal one stays below 2^52 as long as there are places. -/
theorem Dbl.low {y i z : Nat} (h : Dbl y i z) (hy : y < 4503599627370496) (hi : i ≤ 1074) : z < 4841369599423283200 := by
  rcases Nat.lt_or_ge z 4841369599423283200 with hz | hz
  · exact hz
  · have h1 := scale_le hz
    rw [scale_c2, h.sc] at h1
    have h2 : scale y = y := by unfold scale; rw [if_pos hy]
    rw [h2] at h1
    have h3 : y * 2 ^ i < 4503599627370496 * 2 ^ k74 := Nat.lt_of_lt_of_le (Nat.mul_lt_mul_of_pos_right hy (Nat.two_pow_pos i)) (Nat.mul_le_mul_left _ (Nat.pow_le_pow_right (by decide) (by rw [k74_is]; exact hi)))
    omega
theorem rank_pos {y : Nat} (h : y < 9223372036854775808) : rank y = y := by
  unfold rank negW rung
  rw [show y / 9223372036854775808 = 0 from by omega]
  simp
  omega
theorem rung_pos {y : Nat} (h : y < 9223372036854775808) : rung y = y := Nat.mod_eq_of_lt h
theorem nan_pos {y : Nat} (h : y ≤ 9218868437227405312) : ¬ nanW y := by unfold nanW; rw [rung_pos (by omega)]; omega
theorem neg_pos {y : Nat} (h : y < 9223372036854775808) : negW y = false := by unfold negW; rw [show y / 9223372036854775808 = 0 from by omega]; rfl
/-- What is left when the doublings end at a whole number between 2^52 and 2^53. -/
theorem whole_hi {z : Nat} (h1 : 4841369599423283200 ≤ z) (h2 : z < 4845873199050653696) : (double.read z).toInt .zero = some ((4503599627370496 + z % 4503599627370496 : Nat) : Int) := by
  rw [toInt_exact z (4503599627370496 + z % 4503599627370496) (by rw [rung_pos (by omega)]; omega) (by
    rw [rung_pos (by omega)]
    unfold scale
    rw [if_neg (by omega), show z / 4503599627370496 - 1 = k74 from by rw [k74_is]; omega]), neg_pos (by omega)]
  rfl
theorem whole_lo {y z : Nat} (h : Dbl y k74 z) (hy : y < 4503599627370496) : (double.read z).toInt .zero = some (y : Int) := by
  have hz := h.low hy (by rw [k74_is]; exact Nat.le_refl _)
  rw [toInt_exact z y (by rw [rung_pos (by omega)]; omega) (by
    rw [rung_pos (by omega), h.sc]
    have h2 : scale y = y := by unfold scale; rw [if_pos hy]
    rw [h2]), neg_pos (by omega)]
  rfl
end Go.Proofs.Ytepfhcimmbkilaa
