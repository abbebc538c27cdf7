/- The law FoldOnly, walked. -/
import Derived.Test.YtoklncfdhlplkaaOnly14
import Derived.Test.YtoklncfdhlplkaaBoth14
import Derived.Test.YtoklncfdhlplkaaWorks14
set_option linter.unusedVariables false
set_option linter.unusedSimpArgs false
namespace Go.Proofs.Ytoklncfdhlplkaa
open Go.RowKit
open Go.Proofs.YtoklncfdhlplkaaW.PrintWords

/-- A command that does not write leaves the cell as it is. -/
theorem doC_quiet {c : CellD} {x : Cmd} (h : ¬ (cmdOk x ∧ x.1 ≠ 1)) : (doC c x).1 = c := by
  by_cases hq : cmdOk x
  · have hk : x.1 = 1 := Classical.byContradiction fun hk => h ⟨hq, hk⟩
    rw [doC_get hq hk]
  · rw [doC_bad hq]
theorem sel_tag {key : ByteArray} {W : List Wr} (H : List HE) (id : Int × Int) (L : List Cmd) : ∀ k : Nat, (∀ i : Nat, i < k → wrote key (id, (i : Int), cmx L i) → ((id, (i : Int)) : Wr) ∈ W) →
    cellOf (H ++ tagN id L k) key = (selN key W id L k).foldl (fun c x => (doC c x).1) (cellOf H key)
  | 0, _ => by unfold tagN selN; simp
  | k + 1, hW => by
    rw [tagN_succ, ← List.append_assoc, cellOf_snoc, sel_tag H id L k (fun i hi => hW i (by omega))]
    show _ = (selN key W id L k ++ (bif cdec (selP key W id L k) then [cmx L k] else [])).foldl _ _
    rw [List.foldl_append]
    generalize (selN key W id L k).foldl (fun c x => (doC c x).1) (cellOf H key) = s
    unfold cellStep
    by_cases hk : (cmx L k).2.1 = key
    · rw [cdec_true hk, cond_true]
      by_cases hm : ((id, (k : Int)) : Wr) ∈ W
      · rw [cdec_true (show selP key W id L k from ⟨hk, hm⟩), cond_true]; rfl
      · rw [cdec_false (show ¬ selP key W id L k from fun h => hm h.2), cond_false]
        show (doC s (cmx L k)).1 = s
        exact doC_quiet fun h => hm (hW k (Nat.lt_succ_self k) ⟨hk, h.1, h.2⟩)
    · rw [cdec_false hk, cond_false, cdec_false (show ¬ selP key W id L k from fun h => hk h.1), cond_false]
      rfl
theorem log_mem {H : List HE} {key : ByteArray} {e : HE} (he : e ∈ H) (hw : wrote key e) : (e.1, e.2.1) ∈ logOf H key := by
  unfold logOf
  exact List.mem_map.2 ⟨e, List.mem_filter.2 ⟨he, cdec_true hw⟩, rfl⟩
theorem tag_mem {id : Int × Int} {L : List Cmd} {k i : Nat} (hi : i < k) : (id, (i : Int), cmx L i) ∈ tagN id L k := List.mem_map.2 ⟨i, List.mem_range.2 hi, rfl⟩
theorem runB_foldl (L : List Item) : ∀ (s : List HE × List Rs), (L.foldl stepB s).1 = s.1 ++ L.flatMap (fun it => tagN it.1 it.2 it.2.length) := by
  induction L with
  | nil => intro s; simp
  | cons it L ih =>
    intro s
    rw [List.foldl_cons, ih, List.flatMap_cons, ← List.append_assoc]
    rfl
theorem runB_flat (L : List Item) : (runB L).1 = L.flatMap (fun it => tagN it.1 it.2 it.2.length) := by
  have := runB_foldl L ([], [])
  rw [List.nil_append] at this
  exact this
theorem sel_all {key : ByteArray} {W : List Wr} : ∀ (L : List Item) (H : List HE), (∀ e, e ∈ L.flatMap (fun it => tagN it.1 it.2 it.2.length) → wrote key e → (e.1, e.2.1) ∈ W) →
    cellOf (H ++ L.flatMap (fun it => tagN it.1 it.2 it.2.length)) key = (selB key W L).foldl (fun c x => (doC c x).1) (cellOf H key)
  | [], H, _ => by unfold selB; simp
  | it :: L, H, hW => by
    have hW1 : ∀ e, e ∈ L.flatMap (fun it => tagN it.1 it.2 it.2.length) → wrote key e → (e.1, e.2.1) ∈ W := fun e he => hW e (by rw [List.flatMap_cons]; exact List.mem_append_right _ he)
    have hW2 : ∀ i, i < it.2.length → wrote key (it.1, (i : Int), cmx it.2 i) → ((it.1, (i : Int)) : Wr) ∈ W := fun i hi hw => hW _ (by rw [List.flatMap_cons]; exact List.mem_append_left _ (tag_mem hi)) hw
    have hs : selB key W (it :: L) = selN key W it.1 it.2 it.2.length ++ selB key W L := by unfold selB; rw [List.flatMap_cons]
    rw [List.flatMap_cons, ← List.append_assoc, sel_all L _ hW1, sel_tag H it.1 it.2 _ hW2, hs, List.foldl_append]
theorem only_all (L : List Item) (key : ByteArray) : foldC (selI key (logOf (runI L).1 key) L L.length) = cellOf (runI L).1 key := by
  rw [selI_eq, runI_eq]
  have h := sel_all (key := key) (W := logOf (runB (goodI L)).1 key) (goodI L) [] (fun e he hw => log_mem (by rw [runB_flat]; exact he) hw)
  rw [List.nil_append, ← runB_flat] at h
  exact h.symm
theorem selI_ok {L : List Item} (hL : ItemsGood L) (key : ByteArray) (W : List Wr) : CellC (foldC (selI key W L L.length)) := foldC_ok (selI_good hL _ (Nat.le_refl _)).1
set_option maxRecDepth 100000 in
set_option maxHeartbeats 4000000 in
theorem lawOnly14 (A B : Option Addr) (n c nw cw : Nat) (L : List Item) (W : List Wr) (key : ByteArray) (w : World) (hC : itemK.C w A n L) (hW : wrK.C w B nw W) (hL : ItemsGood L) (hk : key.size ≤ maxLen) :
    Calls Try.prog 5 #[.slice A n c, .string key, .slice B nw cw] w fun r w' => r = .returned (.bool true) ∧ Fr (fun _ => False) w w' := by
  have hmx : n ≤ 9223372036854775807 := hC.2.1
  have hmx' : nw ≤ 9223372036854775807 := hW.2.1
  have HLn := Lib.hid (show L.length = n from hC.1)
  have HC := Lib.hid hC
  have HW := Lib.hid hW
  have HO := Lib.hid hL
  have HK := Lib.hid hk
  clear hC hW hL hk
  rcases Nat.lt_or_ge 12 n with hb1 | hb1
  · have t1 : decide ((12 : Int) < (n : Int)) = true := decide_eq_true (by omega)
    go_enter Try.func5, Try.ntmps5
    go_wp2_with fail
    refine (works14 _).mono ?_
    rintro e w1 ⟨rfl, hF1⟩
    go_wp2_with fail
    go_ret
    exact ⟨rfl, hF1⟩
  · have t1 : decide ((12 : Int) < (n : Int)) = false := decide_eq_false (by omega)
    rcases Nat.lt_or_ge 50 nw with hb2 | hb2
    · have t2 : decide ((50 : Int) < (nw : Int)) = true := decide_eq_true (by omega)
      go_enter Try.func5, Try.ntmps5
      go_wp2_with fail
      refine (works14 _).mono ?_
      rintro e w1 ⟨rfl, hF1⟩
      go_wp2_with fail
      go_ret
      exact ⟨rfl, hF1⟩
    · have t2 : decide ((50 : Int) < (nw : Int)) = false := decide_eq_false (by omega)
      go_enter Try.func5, Try.ntmps5
      go_wp2_with fail
      refine (both14c A n c L _ HC.out HO.out (by omega)).mono ?_
      rintro r w1 ⟨A1, c1, A2, c2, rfl, hCa, hCb, hcb, hF1⟩
      have HCa := Lib.hid hCa
      have HCb := Lib.hid hCb
      have HF1 := Lib.hid hF1
      have hgl : (goodI L).length ≤ 12 := by have h1 := goodI_len L; have h2 := HLn.out; omega
      have HGL := Lib.hid hgl
      clear hCa hCb hcb hF1 hgl t1 t2
      go_wp2_with fail
      refine (fold_only A1 B n c1 nw cw L W key w1 HCa.out (Kd.C_below HW.out (HF1.out.below (fun _ _ h => h))) HO.out (by omega) hmx').mono ?_
      rintro r w2 ⟨rfl, hF2⟩
      have HF2 := Lib.hid hF2
      clear hF2
      have hc1 := selI_ok HO.out key W
      obtain ⟨x1, hx1⟩ : ∃ x, x = foldC (selI key W L L.length) := ⟨_, rfl⟩
      rw [← hx1] at hc1 ⊢
      have HX1 := Lib.hid hx1
      have HC1 := Lib.hid hc1
      clear hx1 hc1
      go_wp2_with fail
      refine (ref_only A2 B (goodI L).length c2 nw cw (goodI L) W key w2 (Kd.C_below HCb.out (HF2.out.below (fun _ _ h => h))) (Kd.C_below HW.out ((HF1.out.trans HF2.out).below (fun _ _ h => h))) (goodI_good HO.out) (by have := HGL.out; omega) (by omega)).mono ?_
      rintro r w3 ⟨u, rfl, hu, huo, hF3⟩
      have heq : absC x1 = absC u := by rw [HC1.out.2, hu, HX1.out, selI_eq]
      have HEQ := Lib.hid heq
      have HUO := Lib.hid huo
      have HF3 := Lib.hid hF3
      clear heq hu huo hF3
      go_wp2_with fail
      refine (ref_cell_same x1 u w3 HC1.out.1 HUO.out).mono ?_
      rintro r w4 ⟨rfl, hF4⟩
      rw [decide_eq_true HEQ.out]
      have HF4 := Lib.hid ((HF2.out.trans HF3.out).trans hF4)
      clear hF4
      go_wp2_with fail
      refine (fold_writers A1 n c1 L key w4 (Kd.C_below HCa.out (HF4.out.below (fun _ _ h => h))) HO.out (by omega) HK.out).mono ?_
      rintro r w5 ⟨vw, rfl, hRw, hF5⟩
      obtain ⟨Aw, cw2, rfl⟩ := Kd.R_slice hRw
      have hCw := (Kd.R_reads' hRw).2.2
      have HCw := Lib.hid hCw
      have HF5 := Lib.hid (HF4.out.trans hF5)
      have hll := logOf_len (runI L).1 key
      have hrl := (runI_len HO.out).1
      have hlb : (logOf (runI L).1 key).length ≤ 9223372036854775807 := by have := HLn.out; omega
      have HLB := Lib.hid hlb
      clear hRw hCw hF5 hll hrl hlb
      go_wp2_with fail
      refine (fold_only A1 Aw n c1 (logOf (runI L).1 key).length cw2 L (logOf (runI L).1 key) key w5 (Kd.C_below HCa.out (HF5.out.below (fun _ _ h => h))) HCw.out HO.out (by omega) HLB.out).mono ?_
      rintro r w6 ⟨rfl, hF6⟩
      have hc2 := selI_ok HO.out key (logOf (runI L).1 key)
      rw [only_all L key] at hc2 ⊢
      obtain ⟨x2, hx2⟩ : ∃ x, x = cellOf (runI L).1 key := ⟨_, rfl⟩
      have hfc := fun w hC => fold_cell A1 n c1 L key w hC HO.out (by omega) HK.out
      rw [← hx2] at hc2 hfc ⊢
      have HC2 := Lib.hid hc2
      have HFC := Lib.hid hfc
      have HF6 := Lib.hid (HF5.out.trans hF6)
      clear hF6 hx2 hc2 hfc
      go_wp2_with fail
      refine (HFC.out w6 (Kd.C_below HCa.out (HF6.out.below (fun _ _ h => h)))).mono ?_
      rintro r w7 ⟨rfl, hF7⟩
      have HF7 := Lib.hid (HF6.out.trans hF7)
      clear hF7
      go_wp2_with fail
      refine (ref_cell_same x2 x2 w7 HC2.out.1 HC2.out.1).mono ?_
      rintro r w8 ⟨rfl, hF8⟩
      rw [decide_eq_true rfl]
      have HF8 := Lib.hid (HF7.out.trans hF8)
      clear hF8
      go_wp2_with fail
      refine (works14 _).mono ?_
      rintro e w9 ⟨rfl, hF9⟩
      go_wp2_with fail
      go_ret
      exact ⟨rfl, (HF1.out.trans HF8.out).trans hF9⟩
end Go.Proofs.Ytoklncfdhlplkaa
