/- Rows of ids: New, Pop, List, and what a nil row tells. -/
import Derived.Test.YtlpigldogglmcaaRootsP
set_option linter.unusedVariables false
set_option linter.unusedSimpArgs false
namespace Go.Proofs.Ytlpigldogglmcaa
open Go.RowKit
open Go.Proofs.YtlpigldogglmcaaW.PrintWords

theorem ret_slice {A : Option Addr} {n n' c : Nat} (h : n = n') : Ending.returned (.slice A n c) = .returned (.slice A n' c) := by rw [h]
theorem row_new (w : World) : Calls Try.prog 16 #[] w fun r w' => r = .returned (.pointer (some ⟨w.heap.size + 1, 0, none⟩)) ∧ w' = (w.alloc (.map #[] 0)).alloc (.cells #[.slice none 0 0, .int .i64 0, .map (some w.heap.size)] 105) := by
  have hmm := @run_makeMap Try.prog
  go_enter Try.func16, Try.ntmps16
  go_wp2
  go_ret
  exact ⟨by simp, rfl⟩
theorem row_fresh (w : World) : RowRep ((w.alloc (.map #[] 0)).alloc (.cells #[.slice none 0 0, .int .i64 0, .map (some w.heap.size)] 105)) (fun k => w.heap.size ≤ k ∧ k < w.heap.size + 2) w.heap.size 0 (w.heap.size + 1) [] := by
  refine ⟨by omega, fun k hk => ⟨hk.1, by simp; omega⟩, [], 0, w.heap.size, none, 0, 0, fun _ => none, by omega, ?_, Kd.R_nil _ _ _ _ _, by simp, by simp, by simp, (MapAs.new idE Value.bool w).alloc _, by simp, by simp, by simp⟩
  have := Blk.new (w.alloc (.map #[] 0)) 105 #[.slice none 0 0, .int .i64 0, .map (some w.heap.size)]
  simpa using this
theorem nil_len (w : World) : Calls Try.prog 20 #[.pointer none] w fun r w' => r = .returned (.int .i64 0) ∧ w' = w := by
  go_enter Try.func20, Try.ntmps20
  go_wp2
  go_ret
  exact ⟨rfl, rfl⟩
theorem nil_list (w : World) : Calls Try.prog 22 #[.pointer none] w fun r w' => r = .returned (.slice none 0 0) ∧ w' = w := by
  go_enter Try.func22, Try.ntmps22
  go_wp2
  go_ret
  exact ⟨rfl, rfl⟩
theorem nil_has (a : Int × Int) (w : World) : Calls Try.prog 23 #[.pointer none, idV a] w fun r w' => r = .returned (.bool false) ∧ Fr (fun _ => False) w w' := by
  go_enter Try.func23, Try.ntmps23
  go_wp2
  go_quiet (fail)
  go_wp2
  go_ret
  exact ⟨rfl, ((Fr.refl _ _).alloc _).drewN _⟩
theorem nil_push (a : Int × Int) (w : World) : Calls Try.prog 19 #[.pointer none, idV a] w fun r w' => r = .returned (.bool false) ∧ Fr (fun _ => False) w w' := by
  go_enter Try.func19, Try.ntmps19
  go_wp2
  go_quiet (fail)
  go_wp2
  go_ret
  exact ⟨rfl, ((Fr.refl _ _).alloc _).drewN _⟩
theorem nil_pop (w : World) : Calls Try.prog 17 #[.pointer none] w fun r w' => r = .returned (.tuple #[.agg #[.int .i64 0, .int .i64 0], .bool false]) ∧ Fr (fun _ => False) w w' := by
  go_enter Try.func17, Try.ntmps17
  go_wp2_with fail
  refine (nil_len _).mono ?_
  rintro r w1 ⟨rfl, rfl⟩
  go_wp2
  exact bodyPost_ret (v := .tuple #[.agg #[.int .i64 0, .int .i64 0], .bool false]) (by simp [results, Try.results17, go_sem]) rfl ⟨rfl, (Fr.refl _ _).alloc _⟩
theorem row_pop_no {w : World} {S : Nat → Prop} {base N g : Nat} (h : RowRep w S base N g []) (hN : N ≤ 1000000000) :
    Calls Try.prog 17 #[.pointer (some ⟨g, 0, none⟩)] w fun r w' => r = .returned (.tuple #[.agg #[.int .i64 0, .int .i64 0], .bool false]) ∧ Fr (fun _ => False) w w' := by
  go_enter Try.func17, Try.ntmps17
  go_wp2_with fail
  refine (row_len ((h.fr ((Fr.refl (fun _ => False) _).alloc _) (fun _ _ _ h => h))) hN).mono ?_
  rintro r w1 ⟨rfl, hF⟩
  have hB := (Blk.new w 28 #[.int .i64 0, .int .i64 0]).fr hF (fun h => h)
  have x0 := hB.cell 0
  have x1 := hB.cell 1
  have y0 := hB.frozen 0
  have y1 := hB.frozen 1
  have hB' := hB
  unfold Blk at hB'
  simp only [List.getElem?_toArray, List.getElem?_cons_zero, List.getElem?_cons_succ, List.length_nil, Int.ofNat_zero] at x0 x1
  go_wp2
  have hB2 := (hB.set_ 0 (.int .i64 0)).set_ 1 (.int .i64 0)
  exact bodyPost_ret (results_ct Try.results17 _ _ w.heap.size _ _ _ _ rfl hB2 Try.underlying28 rfl (by kernel_rfl)) rfl ⟨rfl, ((((Fr.refl _ _).alloc _).trans hF).setCell (p := ⟨w.heap.size, 0, none⟩) (.inr (Nat.le_refl _)) _).setCell (p := ⟨w.heap.size, 1, none⟩) (.inr (Nat.le_refl _)) _⟩
set_option maxRecDepth 100000 in
set_option maxHeartbeats 2000000 in
theorem row_pop_yes {w : World} {S : Nat → Prop} {base N g : Nat} {a : Int × Int} {t : List (Int × Int)} (h : RowRep w S base N g (a :: t)) (hN : N ≤ 1000000000) :
    Calls Try.prog 17 #[.pointer (some ⟨g, 0, none⟩)] w fun r w' => r = .returned (.tuple #[idV a, .bool true]) ∧ RowRep w' S base N g t ∧ Fr S w w' := by
  have hSlt : ∀ b, S b → b < w.heap.size := fun b hb => (h.2.1 b hb).2
  obtain ⟨x, hx⟩ : ∃ x, x = w.heap.size := ⟨_, rfl⟩
  have HH := Lib.hid h
  have HSlt := Lib.hid hSlt
  clear h hSlt
  go_enter Try.func17, Try.ntmps17
  go_wp2_with fail
  refine (row_len ((HH.out.fr ((Fr.refl (fun _ => False) _).alloc _) (fun _ _ _ h => h))) hN).mono ?_
  rintro r w1 ⟨rfl, hF⟩
  have hXB := (Blk.new w 28 #[.int .i64 0, .int .i64 0]).fr hF (fun h => h)
  have h1 : RowRep w1 S base N g (a :: t) := HH.out.fr (((Fr.refl (fun _ => False) _).alloc _).trans hF) (fun _ _ _ h => h)
  have HF1 := Lib.hid (((Fr.refl S w).alloc (.cells #[.int .i64 0, .int .i64 0] 28)).trans' hF (fun _ _ h => h.elim))
  clear hF
  rw [← hx]
  rw [← hx] at hXB
  have HXB := Lib.hid hXB
  obtain ⟨hg, hS, L, k, m, A, n, c, f, hm, hB, hR, hk, hL, hW, hM, hf, hok, hnd⟩ := h1
  have hn : n = L.length := (Kd.R_reads' hR).1
  have hnc : n ≤ c := (Kd.R_reads' hR).2.1
  have hkn : k < n := by
    rcases Nat.lt_or_ge k n with h | h
    · exact h
    · rw [List.drop_eq_nil_of_le (by omega)] at hW; cases hW
  have hak : ida L k = a := by
    rw [ida_eq (by omega)]
    have := List.drop_eq_getElem_cons (l := L) (i := k) (by omega)
    rw [← hW] at this
    injection this with e _
    exact e.symm
  have htk : t = L.drop (k + 1) := by
    have := List.drop_eq_getElem_cons (l := L) (i := k) (by omega)
    rw [← hW] at this
    injection this with _ e
  have hC := (Kd.R_reads' hR).2.2
  rw [← hn] at hC
  obtain ⟨b, off, hA, l0, l1⟩ := ids_at hC hkn
  subst hA
  rw [hak] at l0 l1
  have hSb : S b := hR.1 b rfl
  have hgb : g ≠ b := fun e => Kd.R_ne hR hB (by decide) (by rw [e]; rfl)
  have hgm := hM.ne_blk hB
  have c0 := hB.cell 0
  have c1 := hB.cell 1
  have f1 := hB.frozen 1
  simp only [List.getElem?_toArray, List.getElem?_cons_zero, List.getElem?_cons_succ] at c0 c1
  have b1 : n ≤ 1000000000 := by omega
  have hg1 : g < w1.heap.size := hB.lt
  have hb1 : b < w1.heap.size := by have := HF1.out.size; have := HSlt.out b hSb; omega
  have hx1 : x < w1.heap.size := hXB.lt
  obtain ⟨y, hy⟩ : ∃ y, y = w1.heap.size := ⟨_, rfl⟩
  have hyS : ¬ S y := fun h => by have := HSlt.out y h; omega
  replace hyS := Lib.hid hyS
  obtain ⟨St, hSt⟩ : ∃ St : World → Prop, St = fun w' => w'.heap[g]? = w1.heap[g]? ∧ w'.heap[b]? = w1.heap[b]? := ⟨_, rfl⟩
  have HS0 : ∀ w' : World, w'.heap = w1.heap → At St w' := fun w' h => by unfold At; rw [hSt]; show w'.heap[g]? = _ ∧ w'.heap[b]? = _; rw [h]; exact ⟨rfl, rfl⟩
  have kc0 : ∀ w', At St w' → w'.cell? ⟨g, 0, none⟩ = some (.slice (some ⟨b, off, none⟩) n c) := fun w' h => by
    replace h := h.out; rw [hSt] at h; exact (World.cell?_of_block (a := ⟨g, 0, none⟩) h.1).trans c0
  have kc1 : ∀ w', At St w' → w'.cell? ⟨g, 1, none⟩ = some (.int .i64 k) := fun w' h => by
    replace h := h.out; rw [hSt] at h; exact (World.cell?_of_block (a := ⟨g, 1, none⟩) h.1).trans c1
  have kl0 : ∀ w', At St w' → w'.cell? ⟨b, off + k * 2, none⟩ = some (.int .i64 a.1) := fun w' h => by
    replace h := h.out; rw [hSt] at h; exact (World.cell?_of_block (a := ⟨b, off + k * 2, none⟩) h.2).trans l0
  have kl1 : ∀ w', At St w' → w'.cell? ⟨b, off + k * 2 + 1, none⟩ = some (.int .i64 a.2) := fun w' h => by
    replace h := h.out; rw [hSt] at h; exact (World.cell?_of_block (a := ⟨b, off + k * 2 + 1, none⟩) h.2).trans l1
  have hT1 : At St (w1.drew.alloc (.cells #[.int .i64 0, .int .i64 0] 28)) := by
    unfold At; rw [hSt]; exact ⟨Below.heap_alloc w1.drew _ g hg1, Below.heap_alloc w1.drew _ b hb1⟩
  have HT1 := Lib.hid hT1
  have HB := Lib.hid hB
  have HR := Lib.hid hR
  have HM := Lib.hid hM
  have HS := Lib.hid hS
  have HL := Lib.hid hL
  have HN := Lib.hid hn
  have HFm := Lib.hid hf
  have HW := Lib.hid hW
  have HK := Lib.hid hk
  have HO := Lib.hid hok
  have HD := Lib.hid hnd
  have HTK := Lib.hid htk
  have tne : ((((a :: t).length : Nat) : Int) == 0) = false := by simp; omega
  simp only [List.length_cons] at tne
  replace hx := Lib.hid hx
  clear hB hR hM hS hL hn hf hW hok hnd hC htk hSt hT1 hak hXB hk l0 l1
  go_wp2
  refine rs_start 11 (At St) 12 (by kernel_rfl) rfl ?_
  refine rs_take 0 (v := ?_) rfl (by kernel_rfl) (by kernel_rfl) (by kernel_rfl) (by kernel_rfl) (fun _ _ _ h => h) (by rfl) (by first | assumption | exact HS0 _ rfl) ?_ ?_
  rotate_left 1
  · intro w hSw; go_simp <;> with_reducible rfl
  try simp only [Act.put, List.setIfInBounds_toArray, List.set_cons_zero, List.set_cons_succ]
  refine rs_take 1 (v := ?_) rfl (by kernel_rfl) (by kernel_rfl) (by kernel_rfl) (by kernel_rfl) (fun _ _ _ h => h) (by rfl) (by first | assumption | exact HS0 _ rfl) ?_ ?_
  rotate_left 1
  · intro w hSw; go_simp <;> with_reducible rfl
  try simp only [Act.put, List.setIfInBounds_toArray, List.set_cons_zero, List.set_cons_succ]
  refine rs_take 2 (v := ?_) rfl (by kernel_rfl) (by kernel_rfl) (by kernel_rfl) (by kernel_rfl) (fun _ _ _ h => h) (by rfl) (by first | assumption | exact HS0 _ rfl) ?_ ?_
  rotate_left 1
  · intro w hSw; go_simp <;> with_reducible rfl
  try simp only [Act.put, List.setIfInBounds_toArray, List.set_cons_zero, List.set_cons_succ]
  refine rs_take 3 (v := ?_) rfl (by kernel_rfl) (by kernel_rfl) (by kernel_rfl) (by kernel_rfl) (fun _ _ _ h => h) (by rfl) (by first | assumption | exact HS0 _ rfl) ?_ ?_
  rotate_left 1
  · intro w hSw; go_simp <;> with_reducible rfl
  try simp only [Act.put, List.setIfInBounds_toArray, List.set_cons_zero, List.set_cons_succ]
  refine rs_take 4 (v := ?_) rfl (by kernel_rfl) (by kernel_rfl) (by kernel_rfl) (by kernel_rfl) (fun _ _ _ h => h) (by rfl) (by first | assumption | exact HS0 _ rfl) ?_ ?_
  rotate_left 1
  · intro w hSw; go_simp <;> with_reducible rfl
  try simp only [Act.put, List.setIfInBounds_toArray, List.set_cons_zero, List.set_cons_succ]
  refine rs_take 5 (v := ?_) rfl (by kernel_rfl) (by kernel_rfl) (by kernel_rfl) (by kernel_rfl) (fun _ _ _ h => h) (by rfl) (by first | assumption | exact HS0 _ rfl) ?_ ?_
  rotate_left 1
  · intro w hSw; go_simp <;> with_reducible rfl
  try simp only [Act.put, List.setIfInBounds_toArray, List.set_cons_zero, List.set_cons_succ]
  refine rs_take 6 (v := ?_) rfl (by kernel_rfl) (by kernel_rfl) (by kernel_rfl) (by kernel_rfl) (fun _ _ _ h => h) (by rfl) (by first | assumption | exact HS0 _ rfl) ?_ ?_
  rotate_left 1
  · intro w hSw; go_simp <;> with_reducible rfl
  try simp only [Act.put, List.setIfInBounds_toArray, List.set_cons_zero, List.set_cons_succ]
  refine rs_take 7 (v := ?_) rfl (by kernel_rfl) (by kernel_rfl) (by kernel_rfl) (by kernel_rfl) (fun _ _ _ h => h) (by rfl) (by first | assumption | exact HS0 _ rfl) ?_ ?_
  rotate_left 1
  · intro w hSw; go_simp <;> with_reducible rfl
  try simp only [Act.put, List.setIfInBounds_toArray, List.set_cons_zero, List.set_cons_succ]
  refine rs_take 8 (v := ?_) rfl (by kernel_rfl) (by kernel_rfl) (by kernel_rfl) (by kernel_rfl) (fun _ _ _ h => h) (by rfl) (by first | assumption | exact HS0 _ rfl) ?_ ?_
  rotate_left 1
  · intro w hSw; go_simp <;> with_reducible rfl
  try simp only [Act.put, List.setIfInBounds_toArray, List.set_cons_zero, List.set_cons_succ]
  refine rs_take 9 (v := ?_) rfl (by kernel_rfl) (by kernel_rfl) (by kernel_rfl) (by kernel_rfl) (fun _ _ _ h => h) (by rfl) (by first | assumption | exact HS0 _ rfl) ?_ ?_
  rotate_left 1
  · intro w hSw; go_simp <;> with_reducible rfl
  try simp only [Act.put, List.setIfInBounds_toArray, List.set_cons_zero, List.set_cons_succ]
  refine rs_one 10 rfl (by kernel_rfl) (fun K hK => ?_)
  go_simp
  refine hK.out (At St) _ _ (fun _ h => h) (fun _ => by (exact HT1.out)) ?_
  clear hK K
  try simp only [Act.put, List.setIfInBounds_toArray, List.set_cons_zero, List.set_cons_succ]
  refine rs_one 11 rfl (by kernel_rfl) (fun K hK => ?_)
  go_simp
  refine hK.out (At St) _ _ (fun _ h => h) (fun h => absurd rfl h) ?_
  clear hK K
  try simp only [Act.put, List.setIfInBounds_toArray, List.set_cons_zero, List.set_cons_succ]
  refine rs_done (by kernel_rfl) ?_
  clear HS0 kc0 kl0 kl1 c0
  go_wp2_with fail
  rw [← hy]
  have hBM := ((HB.out.set_ 1 (.int .i64 (k + 1))).alloc (.cells #[.int .i64 a.1, .int .i64 a.2] 28)).drew
  have hYM := (Blk.new (w1.setCell ⟨g, 1, none⟩ (.int .i64 (k + 1))) 28 #[.int .i64 a.1, .int .i64 a.2]).drew
  have hXM := ((HXB.out.far (p := ⟨g, 1, none⟩) (fun e => by have := HSlt.out g hg; have := hx.out; simp at e; omega) (.int .i64 (k + 1))).alloc (.cells #[.int .i64 a.1, .int .i64 a.2] 28)).drew
  have hMM := ((HM.out.far (p := ⟨g, 1, none⟩) (Ne.symm hgm) (.int .i64 (k + 1))).alloc (.cells #[.int .i64 a.1, .int .i64 a.2] 28)).drew
  have hRM := Kd.R_drew (Kd.R_alloc (Kd.R_set HR.out HB.out (by decide) 1 (.int .i64 (k + 1))) (.cells #[.int .i64 a.1, .int .i64 a.2] 28))
  have hFM := ((HF1.out.setCell (p := ⟨g, 1, none⟩) (.inl hg) (.int .i64 (k + 1))).alloc (.cells #[.int .i64 a.1, .int .i64 a.2] 28)).drew
  have hsz : (w1.setCell ⟨g, 1, none⟩ (.int .i64 (k + 1))).heap.size = y := by simp [World.setCell, hy]
  rw [hsz] at hYM
  clear hsz f1 c1
  generalize ((w1.setCell ⟨g, 1, none⟩ (.int .i64 (k + 1))).alloc (.cells #[.int .i64 a.1, .int .i64 a.2] 28)).drew = wM at *
  have c2 := hBM.cell 2
  have y0 := hYM.cell 0
  have y1 := hYM.cell 1
  simp at c2 y0 y1
  obtain ⟨w4, hu, hM4, hF4, hz4⟩ := hMM.drew.update Try.underlying103 (a := a) (HO.out a (List.mem_cons_self)) false
  replace hu : (Instr.mapUpdate 103 (.map (some m)) (.agg #[.int .i64 a.1, .int .i64 a.2]) (.bool false)).run Try.prog wM.drew = .ok () w4 := hu
  have hFm4 : Fr (· = m) wM w4 := ⟨hF4.os, hF4.tape, hF4.output, hF4.size, hF4.block⟩
  have hym : y ≠ m := fun e => by have := HM.out.lt; omega
  have hxm : x ≠ m := fun e => by have := HSlt.out m hm; have := hx.out; omega
  have hB4 := hBM.fr hFm4 hgm
  have hY4 := hYM.fr hFm4 hym
  have hX4 := hXM.fr hFm4 hxm
  have hR4 : idK.R 28 w4 base S (.slice (some ⟨b, off, none⟩) n c) L := by
    obtain ⟨es, clock, hb⟩ := hMM.at_
    exact R_pass hRM hFm4 hb
  have hFF4 := hFM.trans' hFm4 (fun i _ h => by rw [h]; exact hm)
  have hrow : RowRep w4 S base N g t := by
    refine ⟨hg, fun z hz => ⟨(HS.out z hz).1, ?_⟩, L, k + 1, m, some ⟨b, off, none⟩, n, c, _, hm, ?_, hR4, by have := HN.out; omega, HL.out, HTK.out, hM4, ?_, fun z hz => HO.out z (List.mem_cons_of_mem _ hz), (List.nodup_cons.1 HD.out).2⟩
    · have h1 := HSlt.out z hz
      have h2 := hFF4.size
      omega
    · simpa using hB4
    · intro z hz
      have hnd := (List.nodup_cons.1 HD.out).1
      by_cases hza : z = a
      · subst hza
        simp [hnd]
      · have := HFm.out z hz
        simp [hza] at this ⊢
        exact this
  obtain ⟨Sr, hSr⟩ : ∃ Sr : World → Prop, Sr = Fr (fun _ => False) wM := ⟨_, rfl⟩
  have hS0 : At Sr wM.drew := by unfold At; rw [hSr]; exact (Fr.refl _ _).drew
  have kc2 : ∀ w', At Sr w' → w'.cell? ⟨g, 2, none⟩ = some (.map (some m)) := fun w' h => by replace h := h.out; rw [hSr] at h; exact h.cell c2 (fun h => h)
  have ky0 : ∀ w', At Sr w' → w'.cell? ⟨y, 0, none⟩ = some (.int .i64 a.1) := fun w' h => by replace h := h.out; rw [hSr] at h; exact h.cell y0 (fun h => h)
  have ky1 : ∀ w', At Sr w' → w'.cell? ⟨y, 1, none⟩ = some (.int .i64 a.2) := fun w' h => by replace h := h.out; rw [hSr] at h; exact h.cell y1 (fun h => h)
  have HROW := Lib.hid hrow
  have HY4 := Lib.hid hY4
  have HX4 := Lib.hid hX4
  have HFF4 := Lib.hid hFF4
  clear hSr hrow hY4 hX4 hFF4 hR4 hB4 hFm4 hM4 hF4 hz4 hRM hFM hMM hXM hYM hBM c2 y0 y1 kc1 hy
  refine rs_start 5 (At Sr) 6 (by kernel_rfl) rfl ?_
  refine rs_take 0 (v := ?_) rfl (by kernel_rfl) (by kernel_rfl) (by kernel_rfl) (by kernel_rfl) (fun _ _ _ h => h) (by rfl) (by first | assumption | exact HS0 _ rfl) ?_ ?_
  rotate_left 1
  · intro w hSw; go_simp <;> with_reducible rfl
  try simp only [Act.put, List.setIfInBounds_toArray, List.set_cons_zero, List.set_cons_succ]
  refine rs_take 1 (v := ?_) rfl (by kernel_rfl) (by kernel_rfl) (by kernel_rfl) (by kernel_rfl) (fun _ _ _ h => h) (by rfl) (by first | assumption | exact HS0 _ rfl) ?_ ?_
  rotate_left 1
  · intro w hSw; go_simp <;> with_reducible rfl
  try simp only [Act.put, List.setIfInBounds_toArray, List.set_cons_zero, List.set_cons_succ]
  refine rs_take 2 (v := ?_) rfl (by kernel_rfl) (by kernel_rfl) (by kernel_rfl) (by kernel_rfl) (fun _ _ _ h => h) (by rfl) (by first | assumption | exact HS0 _ rfl) ?_ ?_
  rotate_left 1
  · intro w hSw; go_simp <;> with_reducible rfl
  try simp only [Act.put, List.setIfInBounds_toArray, List.set_cons_zero, List.set_cons_succ]
  refine rs_take 3 (v := ?_) rfl (by kernel_rfl) (by kernel_rfl) (by kernel_rfl) (by kernel_rfl) (fun _ _ _ h => h) (by rfl) (by first | assumption | exact HS0 _ rfl) ?_ ?_
  rotate_left 1
  · intro w hSw; go_simp <;> with_reducible rfl
  try simp only [Act.put, List.setIfInBounds_toArray, List.set_cons_zero, List.set_cons_succ]
  refine rs_take 4 (v := ?_) rfl (by kernel_rfl) (by kernel_rfl) (by kernel_rfl) (by kernel_rfl) (fun _ _ _ h => h) (by rfl) (by first | assumption | exact HS0 _ rfl) ?_ ?_
  rotate_left 1
  · intro w hSw; go_simp <;> with_reducible rfl
  try simp only [Act.put, List.setIfInBounds_toArray, List.set_cons_zero, List.set_cons_succ]
  refine rs_one 5 rfl (by kernel_rfl) (fun K hK => ?_)
  go_simp
  refine hK.out (At Sr) _ _ (fun _ h => h) (fun h => absurd rfl h) ?_
  clear hK K
  try simp only [Act.put, List.setIfInBounds_toArray, List.set_cons_zero, List.set_cons_succ]
  refine rs_done (by kernel_rfl) ?_
  clear hS0 kc2 ky0 ky1 hu
  go_wp2_with fail
  refine (row_pack HROW.out hN).mono ?_
  rintro r w5 ⟨rfl, hrow5, hF5⟩
  have hY5 := HY4.out.fr hF5 hyS.out
  have hX5 := HX4.out.fr hF5 (fun h => by have := HSlt.out x h; have := hx.out; omega)
  have y0 := hY5.cell 0
  have y1 := hY5.cell 1
  have x0 := hX5.cell 0
  have x1 := hX5.cell 1
  have xf0 := hX5.frozen 0
  have xf1 := hX5.frozen 1
  simp only [List.getElem?_toArray, List.getElem?_cons_zero, List.getElem?_cons_succ] at x0 x1 y0 y1
  have hX6 := (hX5.set_ 0 (.int .i64 a.1)).set_ 1 (.int .i64 a.2)
  have HR5 := Lib.hid hrow5
  have HF5 := Lib.hid hF5
  clear hrow5 hF5 hY5 hX5
  go_wp2
  exact bodyPost_ret (results_ct Try.results17 _ _ x _ _ _ _ rfl hX6 Try.underlying28 rfl (by kernel_rfl)) rfl ⟨rfl, HR5.out.fr (((Fr.refl (· = x) _).setCell (p := ⟨x, 0, none⟩) (.inl rfl) _).setCell (p := ⟨x, 1, none⟩) (.inl rfl) _) (fun b hb _ e => by subst e; have := HSlt.out _ hb; have := hx.out; omega), ((HFF4.out.trans HF5.out).setCell (p := ⟨x, 0, none⟩) (.inr (by have := hx.out; simp; omega)) _).setCell (p := ⟨x, 1, none⟩) (.inr (by have := hx.out; simp; omega)) _⟩
/-- A list of ids is returned; no old block has changed. -/
def NewIds (w : World) (W : List (Int × Int)) (r : Ending) (w' : World) : Prop := ∃ A c, r = .returned (.slice A W.length c) ∧ W.length ≤ c ∧ idK.C w' A W.length W ∧ Fr (fun _ => False) w w'
set_option maxRecDepth 100000 in
set_option maxHeartbeats 2000000 in
theorem row_list {w : World} {S : Nat → Prop} {base N g : Nat} {W : List (Int × Int)} (h : RowRep w S base N g W) (hN : N ≤ 1000000000) :
    Calls Try.prog 22 #[.pointer (some ⟨g, 0, none⟩)] w (NewIds w W) := by
  obtain ⟨hg, hS, L, k, m, A, n, c, f, hm, hB, hR, hk, hL, hW, hM, hf, hok, hnd⟩ := h
  obtain ⟨hn, hnc, hC⟩ := Kd.R_reads' hR
  obtain ⟨i0, hi, hz0, hz1, hz2⟩ := info_parts info_id
  have c0 := hB.cell 0
  have c1 := hB.cell 1
  simp only [List.getElem?_toArray, List.getElem?_cons_zero, List.getElem?_cons_succ] at c0 c1
  have hcut := cut_from (P := Try.prog) 26 28 .i64 Try.underlying26 hi 2 hz1 A n c (k : Int) (by omega) (by omega)
  simp only [Int.toNat_natCast] at hcut
  have hg1 : g < w.heap.size := hB.lt
  obtain ⟨St, hSt⟩ : ∃ St : World → Prop, St = Fr (fun _ => False) w := ⟨_, rfl⟩
  have HS0 : ∀ w' : World, w' = w.drew → At St w' := fun w' h => by unfold At; rw [hSt, h]; exact (Fr.refl _ _).drew
  have kc0 : ∀ w', At St w' → w'.cell? ⟨g, 0, none⟩ = some (.slice A n c) := fun w' h => by
    replace h := h.out; rw [hSt] at h; exact h.cell c0 (fun h => h)
  have kc1 : ∀ w', At St w' → w'.cell? ⟨g, 1, none⟩ = some (.int .i64 k) := fun w' h => by
    replace h := h.out; rw [hSt] at h; exact h.cell c1 (fun h => h)
  have hT : ∀ w', Fr (fun _ => False) w w' → At St w' := fun w' h => by unfold At; rw [hSt]; exact h
  have HT := Lib.hid hT
  have HC := Lib.hid hC
  have HW := Lib.hid hW
  have HL := Lib.hid hL
  have HNn := Lib.hid hn
  have b1 : k ≤ n := by omega
  have b2 : n ≤ 1000000000 := by omega
  clear hB hR hM hS hL hn hf hW hok hnd hC hSt hT c0 c1
  go_enter Try.func22, Try.ntmps22
  go_wp2
  have hT0 : At St w.drew := HT.out _ (Fr.refl _ _).drew
  refine rs_start 12 (At St) 12 (by kernel_rfl) rfl ?_
  refine rs_take 1 (v := ?_) rfl (by kernel_rfl) (by kernel_rfl) (by kernel_rfl) (by kernel_rfl) (fun _ _ _ h => h) (by rfl) (by first | assumption | exact HS0 _ rfl) ?_ ?_
  rotate_left 1
  · intro w hSw; go_simp <;> with_reducible rfl
  try simp only [Act.put, List.setIfInBounds_toArray, List.set_cons_zero, List.set_cons_succ]
  refine rs_take 2 (v := ?_) rfl (by kernel_rfl) (by kernel_rfl) (by kernel_rfl) (by kernel_rfl) (fun _ _ _ h => h) (by rfl) (by first | assumption | exact HS0 _ rfl) ?_ ?_
  rotate_left 1
  · intro w hSw; go_simp <;> with_reducible rfl
  try simp only [Act.put, List.setIfInBounds_toArray, List.set_cons_zero, List.set_cons_succ]
  refine rs_take 3 (v := ?_) rfl (by kernel_rfl) (by kernel_rfl) (by kernel_rfl) (by kernel_rfl) (fun _ _ _ h => h) (by rfl) (by first | assumption | exact HS0 _ rfl) ?_ ?_
  rotate_left 1
  · intro w hSw; go_simp <;> with_reducible rfl
  try simp only [Act.put, List.setIfInBounds_toArray, List.set_cons_zero, List.set_cons_succ]
  refine rs_take 4 (v := ?_) rfl (by kernel_rfl) (by kernel_rfl) (by kernel_rfl) (by kernel_rfl) (fun _ _ _ h => h) (by rfl) (by first | assumption | exact HS0 _ rfl) ?_ ?_
  rotate_left 1
  · intro w hSw; go_simp <;> with_reducible rfl
  try simp only [Act.put, List.setIfInBounds_toArray, List.set_cons_zero, List.set_cons_succ]
  refine rs_take 5 (v := ?_) rfl (by kernel_rfl) (by kernel_rfl) (by kernel_rfl) (by kernel_rfl) (fun _ _ _ h => h) (by rfl) (by first | assumption | exact HS0 _ rfl) ?_ ?_
  rotate_left 1
  · intro w hSw; go_simp <;> with_reducible rfl
  try simp only [Act.put, List.setIfInBounds_toArray, List.set_cons_zero, List.set_cons_succ]
  refine rs_take 6 (v := ?_) rfl (by kernel_rfl) (by kernel_rfl) (by kernel_rfl) (by kernel_rfl) (fun _ _ _ h => h) (by rfl) (by first | assumption | exact HS0 _ rfl) ?_ ?_
  rotate_left 1
  · intro w hSw; go_simp <;> with_reducible rfl
  try simp only [Act.put, List.setIfInBounds_toArray, List.set_cons_zero, List.set_cons_succ]
  refine rs_take 7 (v := ?_) rfl (by kernel_rfl) (by kernel_rfl) (by kernel_rfl) (by kernel_rfl) (fun _ _ _ h => h) (by rfl) (by first | assumption | exact HS0 _ rfl) ?_ ?_
  rotate_left 1
  · intro w hSw; go_simp <;> with_reducible rfl
  try simp only [Act.put, List.setIfInBounds_toArray, List.set_cons_zero, List.set_cons_succ]
  refine rs_take 8 (v := ?_) rfl (by kernel_rfl) (by kernel_rfl) (by kernel_rfl) (by kernel_rfl) (fun _ _ _ h => h) (by rfl) (by first | assumption | exact HS0 _ rfl) ?_ ?_
  rotate_left 1
  · intro w hSw; go_simp <;> with_reducible rfl
  try simp only [Act.put, List.setIfInBounds_toArray, List.set_cons_zero, List.set_cons_succ]
  refine rs_take 9 (v := ?_) rfl (by kernel_rfl) (by kernel_rfl) (by kernel_rfl) (by kernel_rfl) (fun _ _ _ h => h) (by rfl) (by first | assumption | exact HS0 _ rfl) ?_ ?_
  rotate_left 1
  · intro w hSw; go_simp <;> with_reducible rfl
  try simp only [Act.put, List.setIfInBounds_toArray, List.set_cons_zero, List.set_cons_succ]
  refine rs_one 0 rfl (by kernel_rfl) (fun K hK => ?_)
  go_simp
  refine hK.out (At St) _ _ (fun _ h => h) (fun _ => by (exact HT.out _ ((Fr.refl _ _).alloc _).drew)) ?_
  clear hK K
  try simp only [Act.put, List.setIfInBounds_toArray, List.set_cons_zero, List.set_cons_succ]
  refine rs_one 10 rfl (by kernel_rfl) (fun K hK => ?_)
  have hCd := Kd.C_drop (c := c) (Kd.C_drew (Kd.C_alloc HC.out (.cells #[] 28))) (m := k) (by have := HNn.out; omega) (by have := HNn.out; omega)
  rw [show (L.drop k).length = n - k by rw [List.length_drop, HNn.out]] at hCd
  obtain ⟨v1, w3, hr, hR3, hg3, _⟩ := R_rows_run (P := Try.prog) idK w.heap.size 26 26 28 _ 16 Try.underlying26 info_id rfl (by decide) (by decide) (.slice (some ⟨w.heap.size, 0, none⟩) 0 0) [] (L.drop k) _ (n - k) (c - k) (fun b => w.heap.size ≤ b) (fun _ => False) (Kd.R_drew (R_empty idK 28 w)) hCd (fun x cs h => by rw [idK_K h]; exact idK_M _ _ _ _) (fun _ h => h.elim) (fun b hb => by simp at hb; omega) (by simp) (by simp; omega)
  obtain ⟨A3, c3, rfl⟩ := Kd.R_slice hR3
  have HR3 := Lib.hid hR3
  have HF3 : Hid (Fr (fun _ => False) w w3) := Lib.hid (((Fr.refl (fun b => some b = (Value.slice (some (⟨w.heap.size, 0, none⟩ : Addr)) 0 0).ownBlock) w).alloc (.cells #[] 28)).drew.trans' (Fr.of_grown ⟨hg3.os, hg3.tape, hg3.output, hg3.size, hg3.block⟩) (fun _ _ h => h) |>.below (fun i hi h => by simp [Value.ownBlock] at h; omega) |> Fr.of_below)
  refine step_builtin2 rfl rfl rfl rfl (bi_append hr) ?_
  have hT3 : At St w3 := HT.out _ HF3.out
  clear hr hR3 hg3 hCd
  refine hK.out (At St) _ _ (fun _ h => h) (fun _ => by (assumption)) ?_
  clear hK K
  try simp only [Act.put, List.setIfInBounds_toArray, List.set_cons_zero, List.set_cons_succ]
  refine rs_take 11 (v := ?_) rfl (by kernel_rfl) (by kernel_rfl) (by kernel_rfl) (by kernel_rfl) (fun _ _ _ h => h) (by rfl) (by first | assumption | exact HS0 _ rfl) ?_ ?_
  rotate_left 1
  · intro w hSw; go_simp <;> with_reducible rfl
  try simp only [Act.put, List.setIfInBounds_toArray, List.set_cons_zero, List.set_cons_succ]
  refine rs_done (by kernel_rfl) ?_
  clear hT0 HS0 kc0 kc1 hcut hT3
  go_wp2
  all_goals
    go_ret
    obtain ⟨e1, e2, e3⟩ := Kd.R_reads' HR3.out
    simp only [List.nil_append, ← HW.out] at e1 e2 e3
    exact ⟨A3, c3, by rw [HW.out, List.length_drop]; rfl, e2, e3, HF3.out⟩
end Go.Proofs.Ytlpigldogglmcaa
