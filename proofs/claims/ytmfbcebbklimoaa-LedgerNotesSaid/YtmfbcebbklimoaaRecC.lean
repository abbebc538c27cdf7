/- A copy of a record: the same, in new memory. -/
import Derived.Test.YtmfbcebbklimoaaRecs
set_option linter.unusedVariables false
set_option linter.unusedSimpArgs false
namespace Go.Proofs.Ytmfbcebbklimoaa
open Go.RowKit
open Go.Proofs.YtmfbcebbklimoaaW.PrintWords

theorem make_ids (n : Nat) (hn : n ≤ 1000000) (W : World) : (Instr.makeSlice 30 (.int .i64 (n : Int)) (.int .i64 (n : Int))).run Try.prog W = .ok (.slice (some ⟨W.heap.size, 0, none⟩) n n) (W.alloc (.cells (madeCells #[.int .i64 0, .int .i64 0] (n * 2)) 29)) := by
  obtain ⟨i0, hi, hz0, hz1, hz2⟩ := info_parts info_id
  have := run_make (P := Try.prog) (w := W) 30 29 i0 _ Try.underlying30 hi hz0 .i64 .i64 (n : Int) (n : Int) (by omega) (by omega) (by rw [hz2]; omega) (by omega)
  rw [hz1, show idK.sz = 2 from rfl] at this
  simpa [Value.cells] using this
theorem make_cmds (n : Nat) (hn : n ≤ 1000000) (W : World) : (Instr.makeSlice 31 (.int .i64 (n : Int)) (.int .i64 (n : Int))).run Try.prog W = .ok (.slice (some ⟨W.heap.size, 0, none⟩) n n) (W.alloc (.cells (madeCells #[.int .i64 0, .string ByteArray.empty, .float .f64 0] (n * 3)) 54)) := by
  obtain ⟨i0, hi, hz0, hz1, hz2⟩ := info_parts info_cmd
  have := run_make (P := Try.prog) (w := W) 31 54 i0 _ Try.underlying31 hi hz0 .i64 .i64 (n : Int) (n : Int) (by omega) (by omega) (by rw [hz2]; omega) (by omega)
  rw [hz1, show cmdK.sz = 3 from rfl] at this
  simpa [Value.cells] using this
/-- A record is returned whose lists lie in new memory. -/
def NewRec (w : World) (r : Rec) (e : Ending) (w' : World) : Prop := ∃ gd gb, e = .returned (recV r (some ⟨gd, 0, none⟩) (some ⟨gb, 0, none⟩) r.2.2.1.length r.2.2.2.length) ∧
  w.heap.size ≤ gd ∧ w.heap.size ≤ gb ∧ gd ≠ gb ∧ Blk w' gd 29 (r.2.2.1.flatMap idCells).toArray ∧ Blk w' gb 54 (r.2.2.2.flatMap cmdCells).toArray ∧ Fr (fun _ => False) w w'
theorem set5 {w : World} {g : Nat} {t : TypeId} {a0 a1 a2 a3 a4 v0 v1 v2 v3 v4 : Value} (h : Blk w g t #[a0, a1, a2, a3, a4]) :
    Blk (((((w.setCell ⟨g, 0, none⟩ v0).setCell ⟨g, 1, none⟩ v1).setCell ⟨g, 2, none⟩ v2).setCell ⟨g, 3, none⟩ v3).setCell ⟨g, 4, none⟩ v4) g t #[v0, v1, v2, v3, v4] :=
  ((((h.set_ 0 v0).set_ 1 v1).set_ 2 v2).set_ 3 v3).set_ 4 v4
theorem leaf3 {w1 : World} {c1 c2 c3 : Array Value} {t1 t2 t3 : TypeId} {Q : World → Prop} (h : ∀ W, Blk W w1.heap.size t1 c1 → Blk W (w1.heap.size + 1) t2 c2 → Blk W (w1.heap.size + 1 + 1) t3 c3 → Fr (fun _ => False) w1 W → Q W) :
    Q (((w1.alloc (.cells c1 t1)).alloc (.cells c2 t2)).alloc (.cells c3 t3)).drew := by
  refine h _ (((Blk.new _ _ _).alloc _).alloc _).drew ?_ ?_ ((((Fr.refl _ _).alloc _).alloc _).alloc _).drew
  · have := Blk.new (w1.alloc (.cells c1 t1)) t2 c2
    rw [World.size_alloc] at this
    exact (this.alloc _).drew
  · have := Blk.new ((w1.alloc (.cells c1 t1)).alloc (.cells c2 t2)) t3 c3
    rw [World.size_alloc, World.size_alloc] at this
    exact this.drew
set_option maxRecDepth 100000 in
set_option maxHeartbeats 8000000 in
theorem rec_copy (r : Rec) (Ad Ab : Option Addr) (cd cb : Nat) (w : World) (h : RecAt w r Ad Ab cd cb) (s1 : r.2.2.1.length ≤ 1000000) (s2 : r.2.2.2.length ≤ 1000000) :
    Calls Try.prog 13 #[recV r Ad Ab cd cb] w (NewRec w r) := by
  obtain ⟨⟨i1, i2⟩, q, D, B⟩ := r
  obtain ⟨nd, hnd⟩ : ∃ nd, nd = D.length := ⟨_, rfl⟩
  obtain ⟨nb, hnb⟩ : ∃ nb, nb = B.length := ⟨_, rfl⟩
  have hm1 := fun W => make_ids nd (by rw [hnd]; exact s1) W
  have hm2 := fun W => make_cmds nb (by rw [hnb]; exact s2) W
  have HD : Hid (idK.C w Ad nd D) := Lib.hid (by rw [hnd]; exact h.deps)
  have HB : Hid (cmdK.C w Ab nb B) := Lib.hid (by rw [hnb]; exact h.batch)
  have hv : recV ((i1, i2), q, D, B) Ad Ab cd cb = .agg #[.int .i64 i1, .int .i64 i2, .int .i64 q, .slice Ad nd cd, .slice Ab nb cb] := by rw [hnd, hnb]
  rw [hv]
  have n1 : nd ≤ 1000000 := by rw [hnd]; exact s1
  have n2 : nb ≤ 1000000 := by rw [hnb]; exact s2
  have HND := Lib.hid hnd
  have HNB := Lib.hid hnb
  clear h s1 s2 hv hnd hnb
  have hX := (Blk.new w 33 #[.int .i64 i1, .int .i64 i2, .int .i64 q, .slice Ad nd cd, .slice Ab nb cb]).alloc (.cells #[.int .i64 0, .int .i64 0, .int .i64 0, .slice none 0 0, .slice none 0 0] 33)
  have hF0 := ((Fr.refl (fun _ => False) w).alloc (.cells #[.int .i64 i1, .int .i64 i2, .int .i64 q, .slice Ad nd cd, .slice Ab nb cb] 33)).alloc (.cells #[.int .i64 0, .int .i64 0, .int .i64 0, .slice none 0 0, .slice none 0 0] 33)
  have hY := Blk.new (w.alloc (.cells #[.int .i64 i1, .int .i64 i2, .int .i64 q, .slice Ad nd cd, .slice Ab nb cb] 33)) 33 #[.int .i64 0, .int .i64 0, .int .i64 0, .slice none 0 0, .slice none 0 0]
  rw [World.size_alloc] at hY
  go_enter Try.func13, Try.ntmps13
  go_wp2_with fail
  generalize ((w.alloc (.cells #[.int .i64 i1, .int .i64 i2, .int .i64 q, .slice Ad nd cd, .slice Ab nb cb] 33)).alloc (.cells #[.int .i64 0, .int .i64 0, .int .i64 0, .slice none 0 0, .slice none 0 0] 33)) = w1 at hX hF0 hY ⊢
  obtain ⟨x, hx⟩ : ∃ x, x = w.heap.size := ⟨_, rfl⟩
  rw [← hx] at hX hY ⊢
  obtain ⟨St, hSt⟩ : ∃ St : World → Prop, St = Fr (fun _ => False) w1 := ⟨_, rfl⟩
  have HT := Lib.hid (show ∀ w', Fr (fun _ => False) w1 w' → At St w' from fun w' h => by unfold At; rw [hSt]; exact h)
  have e0 : ∀ w', At St w' → w'.cell? ⟨x, 0, none⟩ = some (.int .i64 i1) := fun w' h => by replace h := h.out; rw [hSt] at h; exact h.cell (hX.cell 0) (fun h => h)
  have e1 : ∀ w', At St w' → w'.cell? ⟨x, 1, none⟩ = some (.int .i64 i2) := fun w' h => by replace h := h.out; rw [hSt] at h; exact h.cell (hX.cell 1) (fun h => h)
  have e2 : ∀ w', At St w' → w'.cell? ⟨x, 2, none⟩ = some (.int .i64 q) := fun w' h => by replace h := h.out; rw [hSt] at h; exact h.cell (hX.cell 2) (fun h => h)
  have e3 : ∀ w', At St w' → w'.cell? ⟨x, 3, none⟩ = some (.slice Ad nd cd) := fun w' h => by replace h := h.out; rw [hSt] at h; exact h.cell (hX.cell 3) (fun h => h)
  have e4 : ∀ w', At St w' → w'.cell? ⟨x, 4, none⟩ = some (.slice Ab nb cb) := fun w' h => by replace h := h.out; rw [hSt] at h; exact h.cell (hX.cell 4) (fun h => h)
  have hT0 := HT.out w1.drew (Fr.refl _ _).drew
  have HX := Lib.hid hX
  have HY := Lib.hid hY
  have HF := Lib.hid hF0
  have x3 := hX.cell 3
  have x4 := hX.cell 4
  simp only [List.getElem?_toArray, List.getElem?_cons_zero, List.getElem?_cons_succ] at x3 x4
  replace hx := Lib.hid hx
  clear hSt hX hY hF0
  refine rt_start [] (At St) 15 (by kernel_rfl) rfl ?_
  refine rt_free 0 (v := ?_) rfl (by kernel_rfl) (by kernel_rfl) (by kernel_rfl) (by kernel_rfl) (fun _ _ _ h => h) (by rfl) (fun _ => by first | assumption | exact HS0 _ rfl | exact HT.out _ (by repeat (first | exact Fr.refl _ _ | apply Fr.drew | refine Fr.alloc ?_ _))) ?_ ?_
  rotate_left 1
  · intro w; go_simp <;> with_reducible rfl
  try simp only [Act.put, List.setIfInBounds_toArray, List.set_cons_zero, List.set_cons_succ]
  refine rt_take 1 (v := ?_) rfl (by kernel_rfl) (by kernel_rfl) (by kernel_rfl) (by kernel_rfl) (fun _ _ _ h => h) (by rfl) (by first | assumption | exact HS0 _ rfl | exact HT.out _ (by repeat (first | exact Fr.refl _ _ | apply Fr.drew | refine Fr.alloc ?_ _))) ?_ ?_
  rotate_left 1
  · intro w hSw; go_simp <;> with_reducible rfl
  try simp only [Act.put, List.setIfInBounds_toArray, List.set_cons_zero, List.set_cons_succ]
  refine rt_free 2 (v := ?_) rfl (by kernel_rfl) (by kernel_rfl) (by kernel_rfl) (by kernel_rfl) (fun _ _ _ h => h) (by rfl) (fun _ => by first | assumption | exact HS0 _ rfl | exact HT.out _ (by repeat (first | exact Fr.refl _ _ | apply Fr.drew | refine Fr.alloc ?_ _))) ?_ ?_
  rotate_left 1
  · intro w; go_simp <;> with_reducible rfl
  try simp only [Act.put, List.setIfInBounds_toArray, List.set_cons_zero, List.set_cons_succ]
  refine rt_take 3 (v := ?_) rfl (by kernel_rfl) (by kernel_rfl) (by kernel_rfl) (by kernel_rfl) (fun _ _ _ h => h) (by rfl) (by first | assumption | exact HS0 _ rfl | exact HT.out _ (by repeat (first | exact Fr.refl _ _ | apply Fr.drew | refine Fr.alloc ?_ _))) ?_ ?_
  rotate_left 1
  · intro w hSw; go_simp <;> with_reducible rfl
  try simp only [Act.put, List.setIfInBounds_toArray, List.set_cons_zero, List.set_cons_succ]
  refine rt_free 4 (v := ?_) rfl (by kernel_rfl) (by kernel_rfl) (by kernel_rfl) (by kernel_rfl) (fun _ _ _ h => h) (by rfl) (fun _ => by first | assumption | exact HS0 _ rfl | exact HT.out _ (by repeat (first | exact Fr.refl _ _ | apply Fr.drew | refine Fr.alloc ?_ _))) ?_ ?_
  rotate_left 1
  · intro w; go_simp <;> with_reducible rfl
  try simp only [Act.put, List.setIfInBounds_toArray, List.set_cons_zero, List.set_cons_succ]
  refine rt_take 5 (v := ?_) rfl (by kernel_rfl) (by kernel_rfl) (by kernel_rfl) (by kernel_rfl) (fun _ _ _ h => h) (by rfl) (by first | assumption | exact HS0 _ rfl | exact HT.out _ (by repeat (first | exact Fr.refl _ _ | apply Fr.drew | refine Fr.alloc ?_ _))) ?_ ?_
  rotate_left 1
  · intro w hSw; go_simp <;> with_reducible rfl
  try simp only [Act.put, List.setIfInBounds_toArray, List.set_cons_zero, List.set_cons_succ]
  refine rt_free 6 (v := ?_) rfl (by kernel_rfl) (by kernel_rfl) (by kernel_rfl) (by kernel_rfl) (fun _ _ _ h => h) (by rfl) (fun _ => by first | assumption | exact HS0 _ rfl | exact HT.out _ (by repeat (first | exact Fr.refl _ _ | apply Fr.drew | refine Fr.alloc ?_ _))) ?_ ?_
  rotate_left 1
  · intro w; go_simp <;> with_reducible rfl
  try simp only [Act.put, List.setIfInBounds_toArray, List.set_cons_zero, List.set_cons_succ]
  refine rt_free 8 (v := ?_) rfl (by kernel_rfl) (by kernel_rfl) (by kernel_rfl) (by kernel_rfl) (fun _ _ _ h => h) (by rfl) (fun _ => by first | assumption | exact HS0 _ rfl | exact HT.out _ (by repeat (first | exact Fr.refl _ _ | apply Fr.drew | refine Fr.alloc ?_ _))) ?_ ?_
  rotate_left 1
  · intro w; go_simp <;> with_reducible rfl
  try simp only [Act.put, List.setIfInBounds_toArray, List.set_cons_zero, List.set_cons_succ]
  refine rt_take 9 (v := ?_) rfl (by kernel_rfl) (by kernel_rfl) (by kernel_rfl) (by kernel_rfl) (fun _ _ _ h => h) (by rfl) (by first | assumption | exact HS0 _ rfl | exact HT.out _ (by repeat (first | exact Fr.refl _ _ | apply Fr.drew | refine Fr.alloc ?_ _))) ?_ ?_
  rotate_left 1
  · intro w hSw; go_simp <;> with_reducible rfl
  try simp only [Act.put, List.setIfInBounds_toArray, List.set_cons_zero, List.set_cons_succ]
  refine rt_free 10 (v := ?_) rfl (by kernel_rfl) (by kernel_rfl) (by kernel_rfl) (by kernel_rfl) (fun _ _ _ h => h) (by rfl) (fun _ => by first | assumption | exact HS0 _ rfl | exact HT.out _ (by repeat (first | exact Fr.refl _ _ | apply Fr.drew | refine Fr.alloc ?_ _))) ?_ ?_
  rotate_left 1
  · intro w; go_simp <;> with_reducible rfl
  try simp only [Act.put, List.setIfInBounds_toArray, List.set_cons_zero, List.set_cons_succ]
  refine rt_ready [7, 11, 13] (by kernel_rfl) (by simp) ?_
  refine AllNextt.cons rfl (fun K hK => ?_) ?_
  · skip
    go_simp
    refine hK.out (At St) _ _ (fun _ h => h) (fun _ => by (exact HT.out _ (by repeat (first | exact Fr.refl _ _ | apply Fr.drew | refine Fr.alloc ?_ _)))) ?_
    clear hK K
    try simp only [Act.put, List.setIfInBounds_toArray, List.set_cons_zero, List.set_cons_succ]
    refine rt_ready [11, 13] (by kernel_rfl) (by simp) ?_
    refine AllNextt.cons rfl (fun K hK => ?_) ?_
    · skip
      go_simp
      refine hK.out (At St) _ _ (fun _ h => h) (fun _ => by (exact HT.out _ (by repeat (first | exact Fr.refl _ _ | apply Fr.drew | refine Fr.alloc ?_ _)))) ?_
      clear hK K
      try simp only [Act.put, List.setIfInBounds_toArray, List.set_cons_zero, List.set_cons_succ]
      refine rt_free 12 (v := ?_) rfl (by kernel_rfl) (by kernel_rfl) (by kernel_rfl) (by kernel_rfl) (fun _ _ _ h => h) (by rfl) (fun _ => by first | assumption | exact HS0 _ rfl | exact HT.out _ (by repeat (first | exact Fr.refl _ _ | apply Fr.drew | refine Fr.alloc ?_ _))) ?_ ?_
      rotate_left 1
      · intro w; go_simp <;> with_reducible rfl
      try simp only [Act.put, List.setIfInBounds_toArray, List.set_cons_zero, List.set_cons_succ]
      refine rt_one 13 rfl (by kernel_rfl) (fun K hK => ?_)
      go_simp
      refine hK.out (At St) _ _ (fun _ h => h) (fun _ => by (exact HT.out _ (by repeat (first | exact Fr.refl _ _ | apply Fr.drew | refine Fr.alloc ?_ _)))) ?_
      clear hK K
      try simp only [Act.put, List.setIfInBounds_toArray, List.set_cons_zero, List.set_cons_succ]
      refine rt_one 14 rfl (by kernel_rfl) (fun K hK => ?_)
      go_simp
      refine hK.out (At St) _ _ (fun _ h => h) (fun _ => by (exact HT.out _ (by repeat (first | exact Fr.refl _ _ | apply Fr.drew | refine Fr.alloc ?_ _)))) ?_
      clear hK K
      try simp only [Act.put, List.setIfInBounds_toArray, List.set_cons_zero, List.set_cons_succ]
      refine rt_done (by kernel_rfl) ?_
      all_goals (
        refine leaf3 ?_
        intro W hb1 hb2 hb3 hF
        have hs0 : x + 1 < w1.heap.size := HY.out.lt
        generalize e3 : w1.heap.size + 1 + 1 = n3 at hb1 hb2 hb3 ⊢
        generalize e2 : w1.heap.size + 1 = n2 at hb1 hb2 hb3 ⊢
        generalize e1 : w1.heap.size = n1 at hb1 hb2 hb3 hs0 ⊢
        have q1 : n1 ≠ n2 := by omega
        have q2 : n1 ≠ n3 := by omega
        have q3 : n2 ≠ n3 := by omega
        have q4 : x + 1 < n2 := by omega
        have q5 : x + 1 < n3 := by omega
        clear e1 e2 e3
        rename Blk W _ 29 _ => hD
        rename Blk W _ 54 _ => hB
        rename Blk W _ 33 _ => hG
        obtain ⟨gd, hgd⟩ : ∃ g, Blk W g 29 (madeCells #[.int .i64 0, .int .i64 0] (nd * 2)) := ⟨_, hD⟩
        have hwx := hx.out
        have hX1 := HX.out.fr hF (fun h => h)
        have hY1 := HY.out.fr hF (fun h => h)
        have F1 : Fr (fun _ => False) w W := HF.out.trans hF
        clear hgd gd
        obtain ⟨W2, hc2, hD2, hF2⟩ := idFlat.copy_all (P := Try.prog) hD (n := nd) (by show (madeCells _ _).size = nd * 2; simp [madeCells]) (c := cd) (Kd.C_below HD.out (F1.below (fun _ _ h => h))) 30 30 3 Try.underlying30 (by kernel_rfl)
        have F2 : Fr (fun _ => False) w W2 := F1.trans' hF2 (fun i hi e => by omega)
        have hX2 := hX1.fr hF2 (by omega)
        have hY2 := hY1.fr hF2 (by omega)
        have hG2 := hG.fr hF2 (by omega)
        have hB2 := hB.fr hF2 (by omega)
        obtain ⟨W3, hc3, hB3, hF3⟩ := cmdFlat.copy_all (P := Try.prog) hB2 (n := nb) (by show (madeCells _ _).size = nb * 3; simp [madeCells]) (c := cb) (Kd.C_below HB.out (F2.below (fun _ _ h => h))) 31 31 3 Try.underlying31 (by kernel_rfl)
        have F3 : Fr (fun _ => False) w W3 := F2.trans' hF3 (fun i hi e => by omega)
        have hY3 := hY2.fr hF3 (by omega)
        have hG3 := hG2.fr hF3 (by omega)
        have hD3 := hD2.fr hF3 (by omega)
        have a1 := hG.cell 3
        have a2 := hX1.cell 3
        have a3 := hG2.cell 4
        have a4 := hX2.cell 4
        simp only [List.getElem?_toArray, List.getElem?_cons_zero, List.getElem?_cons_succ] at a1 a2 a3 a4
        have g0 := hG3.cell 0
        have g1 := hG3.cell 1
        have g2 := hG3.cell 2
        have g3 := hG3.cell 3
        have g4 := hG3.cell 4
        have y0 := hY3.cell 0
        have y1 := hY3.cell 1
        have y2 := hY3.cell 2
        have y3 := hY3.cell 3
        have y4 := hY3.cell 4
        have yf := hY3.frozen
        simp only [List.getElem?_toArray, List.getElem?_cons_zero, List.getElem?_cons_succ] at g0 g1 g2 g3 g4 y0 y1 y2 y3 y4
        have HY3 := Lib.hid hY3
        clear hX1 hY1 hX2 hY2 hG hG2 hB hB2 hD hD2 HX HY hG3 hY3
        clear e0 e1 e2 e3 e4 x3 x4 hm1 hm2 hwx
        go_wp2_with (at_builtin; refine wpl_builtin2 rfl rfl rfl rfl (bi_copy hc2) ?_)
        have hwx := hx.out
        refine bodyPost_ret (results_cell_row Try.results13 _ _ (x + 1) _ _ _ _ rfl (set5 HY3.out) Try.underlying33 rfl (by kernel_rfl)) rfl ?_
        refine ⟨_, _, ?_, ?_, ?_, ?_, ((((hD3.far (p := ⟨x + 1, 0, none⟩) ?_ _).far (p := ⟨x + 1, 1, none⟩) ?_ _).far (p := ⟨x + 1, 2, none⟩) ?_ _).far (p := ⟨x + 1, 3, none⟩) ?_ _).far (p := ⟨x + 1, 4, none⟩) ?_ _, ((((hB3.far (p := ⟨x + 1, 0, none⟩) ?_ _).far (p := ⟨x + 1, 1, none⟩) ?_ _).far (p := ⟨x + 1, 2, none⟩) ?_ _).far (p := ⟨x + 1, 3, none⟩) ?_ _).far (p := ⟨x + 1, 4, none⟩) ?_ _, ((((F3.setCell (p := ⟨x + 1, 0, none⟩) (.inr ?_) _).setCell (p := ⟨x + 1, 1, none⟩) (.inr ?_) _).setCell (p := ⟨x + 1, 2, none⟩) (.inr ?_) _).setCell (p := ⟨x + 1, 3, none⟩) (.inr ?_) _).setCell (p := ⟨x + 1, 4, none⟩) (.inr ?_) _⟩
        · show Ending.returned _ = Ending.returned (.agg #[.int .i64 i1, .int .i64 i2, .int .i64 q, .slice _ D.length D.length, .slice _ B.length B.length])
          rw [← HND.out, ← HNB.out]
        all_goals ((try simp only []); omega))
    refine AllNextt.cons rfl (fun K hK => ?_) ?_
    · skip
      go_simp
      refine hK.out (At St) _ _ (fun _ h => h) (fun _ => by (exact HT.out _ (by repeat (first | exact Fr.refl _ _ | apply Fr.drew | refine Fr.alloc ?_ _)))) ?_
      clear hK K
      try simp only [Act.put, List.setIfInBounds_toArray, List.set_cons_zero, List.set_cons_succ]
      refine rt_one 11 rfl (by kernel_rfl) (fun K hK => ?_)
      go_simp
      refine hK.out (At St) _ _ (fun _ h => h) (fun _ => by (exact HT.out _ (by repeat (first | exact Fr.refl _ _ | apply Fr.drew | refine Fr.alloc ?_ _)))) ?_
      clear hK K
      try simp only [Act.put, List.setIfInBounds_toArray, List.set_cons_zero, List.set_cons_succ]
      refine rt_free 12 (v := ?_) rfl (by kernel_rfl) (by kernel_rfl) (by kernel_rfl) (by kernel_rfl) (fun _ _ _ h => h) (by rfl) (fun _ => by first | assumption | exact HS0 _ rfl | exact HT.out _ (by repeat (first | exact Fr.refl _ _ | apply Fr.drew | refine Fr.alloc ?_ _))) ?_ ?_
      rotate_left 1
      · intro w; go_simp <;> with_reducible rfl
      try simp only [Act.put, List.setIfInBounds_toArray, List.set_cons_zero, List.set_cons_succ]
      refine rt_one 14 rfl (by kernel_rfl) (fun K hK => ?_)
      go_simp
      refine hK.out (At St) _ _ (fun _ h => h) (fun _ => by (exact HT.out _ (by repeat (first | exact Fr.refl _ _ | apply Fr.drew | refine Fr.alloc ?_ _)))) ?_
      clear hK K
      try simp only [Act.put, List.setIfInBounds_toArray, List.set_cons_zero, List.set_cons_succ]
      refine rt_done (by kernel_rfl) ?_
      all_goals (
        refine leaf3 ?_
        intro W hb1 hb2 hb3 hF
        have hs0 : x + 1 < w1.heap.size := HY.out.lt
        generalize e3 : w1.heap.size + 1 + 1 = n3 at hb1 hb2 hb3 ⊢
        generalize e2 : w1.heap.size + 1 = n2 at hb1 hb2 hb3 ⊢
        generalize e1 : w1.heap.size = n1 at hb1 hb2 hb3 hs0 ⊢
        have q1 : n1 ≠ n2 := by omega
        have q2 : n1 ≠ n3 := by omega
        have q3 : n2 ≠ n3 := by omega
        have q4 : x + 1 < n2 := by omega
        have q5 : x + 1 < n3 := by omega
        clear e1 e2 e3
        rename Blk W _ 29 _ => hD
        rename Blk W _ 54 _ => hB
        rename Blk W _ 33 _ => hG
        obtain ⟨gd, hgd⟩ : ∃ g, Blk W g 29 (madeCells #[.int .i64 0, .int .i64 0] (nd * 2)) := ⟨_, hD⟩
        have hwx := hx.out
        have hX1 := HX.out.fr hF (fun h => h)
        have hY1 := HY.out.fr hF (fun h => h)
        have F1 : Fr (fun _ => False) w W := HF.out.trans hF
        clear hgd gd
        obtain ⟨W2, hc2, hD2, hF2⟩ := idFlat.copy_all (P := Try.prog) hD (n := nd) (by show (madeCells _ _).size = nd * 2; simp [madeCells]) (c := cd) (Kd.C_below HD.out (F1.below (fun _ _ h => h))) 30 30 3 Try.underlying30 (by kernel_rfl)
        have F2 : Fr (fun _ => False) w W2 := F1.trans' hF2 (fun i hi e => by omega)
        have hX2 := hX1.fr hF2 (by omega)
        have hY2 := hY1.fr hF2 (by omega)
        have hG2 := hG.fr hF2 (by omega)
        have hB2 := hB.fr hF2 (by omega)
        obtain ⟨W3, hc3, hB3, hF3⟩ := cmdFlat.copy_all (P := Try.prog) hB2 (n := nb) (by show (madeCells _ _).size = nb * 3; simp [madeCells]) (c := cb) (Kd.C_below HB.out (F2.below (fun _ _ h => h))) 31 31 3 Try.underlying31 (by kernel_rfl)
        have F3 : Fr (fun _ => False) w W3 := F2.trans' hF3 (fun i hi e => by omega)
        have hY3 := hY2.fr hF3 (by omega)
        have hG3 := hG2.fr hF3 (by omega)
        have hD3 := hD2.fr hF3 (by omega)
        have a1 := hG.cell 3
        have a2 := hX1.cell 3
        have a3 := hG2.cell 4
        have a4 := hX2.cell 4
        simp only [List.getElem?_toArray, List.getElem?_cons_zero, List.getElem?_cons_succ] at a1 a2 a3 a4
        have g0 := hG3.cell 0
        have g1 := hG3.cell 1
        have g2 := hG3.cell 2
        have g3 := hG3.cell 3
        have g4 := hG3.cell 4
        have y0 := hY3.cell 0
        have y1 := hY3.cell 1
        have y2 := hY3.cell 2
        have y3 := hY3.cell 3
        have y4 := hY3.cell 4
        have yf := hY3.frozen
        simp only [List.getElem?_toArray, List.getElem?_cons_zero, List.getElem?_cons_succ] at g0 g1 g2 g3 g4 y0 y1 y2 y3 y4
        have HY3 := Lib.hid hY3
        clear hX1 hY1 hX2 hY2 hG hG2 hB hB2 hD hD2 HX HY hG3 hY3
        clear e0 e1 e2 e3 e4 x3 x4 hm1 hm2 hwx
        go_wp2_with (at_builtin; refine wpl_builtin2 rfl rfl rfl rfl (bi_copy hc2) ?_)
        have hwx := hx.out
        refine bodyPost_ret (results_cell_row Try.results13 _ _ (x + 1) _ _ _ _ rfl (set5 HY3.out) Try.underlying33 rfl (by kernel_rfl)) rfl ?_
        refine ⟨_, _, ?_, ?_, ?_, ?_, ((((hD3.far (p := ⟨x + 1, 0, none⟩) ?_ _).far (p := ⟨x + 1, 1, none⟩) ?_ _).far (p := ⟨x + 1, 2, none⟩) ?_ _).far (p := ⟨x + 1, 3, none⟩) ?_ _).far (p := ⟨x + 1, 4, none⟩) ?_ _, ((((hB3.far (p := ⟨x + 1, 0, none⟩) ?_ _).far (p := ⟨x + 1, 1, none⟩) ?_ _).far (p := ⟨x + 1, 2, none⟩) ?_ _).far (p := ⟨x + 1, 3, none⟩) ?_ _).far (p := ⟨x + 1, 4, none⟩) ?_ _, ((((F3.setCell (p := ⟨x + 1, 0, none⟩) (.inr ?_) _).setCell (p := ⟨x + 1, 1, none⟩) (.inr ?_) _).setCell (p := ⟨x + 1, 2, none⟩) (.inr ?_) _).setCell (p := ⟨x + 1, 3, none⟩) (.inr ?_) _).setCell (p := ⟨x + 1, 4, none⟩) (.inr ?_) _⟩
        · show Ending.returned _ = Ending.returned (.agg #[.int .i64 i1, .int .i64 i2, .int .i64 q, .slice _ D.length D.length, .slice _ B.length B.length])
          rw [← HND.out, ← HNB.out]
        all_goals ((try simp only []); omega))
    exact AllNextt.nil
    all_goals (
      refine leaf3 ?_
      intro W hb1 hb2 hb3 hF
      have hs0 : x + 1 < w1.heap.size := HY.out.lt
      generalize e3 : w1.heap.size + 1 + 1 = n3 at hb1 hb2 hb3 ⊢
      generalize e2 : w1.heap.size + 1 = n2 at hb1 hb2 hb3 ⊢
      generalize e1 : w1.heap.size = n1 at hb1 hb2 hb3 hs0 ⊢
      have q1 : n1 ≠ n2 := by omega
      have q2 : n1 ≠ n3 := by omega
      have q3 : n2 ≠ n3 := by omega
      have q4 : x + 1 < n2 := by omega
      have q5 : x + 1 < n3 := by omega
      clear e1 e2 e3
      rename Blk W _ 29 _ => hD
      rename Blk W _ 54 _ => hB
      rename Blk W _ 33 _ => hG
      obtain ⟨gd, hgd⟩ : ∃ g, Blk W g 29 (madeCells #[.int .i64 0, .int .i64 0] (nd * 2)) := ⟨_, hD⟩
      have hwx := hx.out
      have hX1 := HX.out.fr hF (fun h => h)
      have hY1 := HY.out.fr hF (fun h => h)
      have F1 : Fr (fun _ => False) w W := HF.out.trans hF
      clear hgd gd
      obtain ⟨W2, hc2, hD2, hF2⟩ := idFlat.copy_all (P := Try.prog) hD (n := nd) (by show (madeCells _ _).size = nd * 2; simp [madeCells]) (c := cd) (Kd.C_below HD.out (F1.below (fun _ _ h => h))) 30 30 3 Try.underlying30 (by kernel_rfl)
      have F2 : Fr (fun _ => False) w W2 := F1.trans' hF2 (fun i hi e => by omega)
      have hX2 := hX1.fr hF2 (by omega)
      have hY2 := hY1.fr hF2 (by omega)
      have hG2 := hG.fr hF2 (by omega)
      have hB2 := hB.fr hF2 (by omega)
      obtain ⟨W3, hc3, hB3, hF3⟩ := cmdFlat.copy_all (P := Try.prog) hB2 (n := nb) (by show (madeCells _ _).size = nb * 3; simp [madeCells]) (c := cb) (Kd.C_below HB.out (F2.below (fun _ _ h => h))) 31 31 3 Try.underlying31 (by kernel_rfl)
      have F3 : Fr (fun _ => False) w W3 := F2.trans' hF3 (fun i hi e => by omega)
      have hY3 := hY2.fr hF3 (by omega)
      have hG3 := hG2.fr hF3 (by omega)
      have hD3 := hD2.fr hF3 (by omega)
      have a1 := hG.cell 3
      have a2 := hX1.cell 3
      have a3 := hG2.cell 4
      have a4 := hX2.cell 4
      simp only [List.getElem?_toArray, List.getElem?_cons_zero, List.getElem?_cons_succ] at a1 a2 a3 a4
      have g0 := hG3.cell 0
      have g1 := hG3.cell 1
      have g2 := hG3.cell 2
      have g3 := hG3.cell 3
      have g4 := hG3.cell 4
      have y0 := hY3.cell 0
      have y1 := hY3.cell 1
      have y2 := hY3.cell 2
      have y3 := hY3.cell 3
      have y4 := hY3.cell 4
      have yf := hY3.frozen
      simp only [List.getElem?_toArray, List.getElem?_cons_zero, List.getElem?_cons_succ] at g0 g1 g2 g3 g4 y0 y1 y2 y3 y4
      have HY3 := Lib.hid hY3
      clear hX1 hY1 hX2 hY2 hG hG2 hB hB2 hD hD2 HX HY hG3 hY3
      clear e0 e1 e2 e3 e4 x3 x4 hm1 hm2 hwx
      go_wp2_with (at_builtin; refine wpl_builtin2 rfl rfl rfl rfl (bi_copy hc2) ?_)
      have hwx := hx.out
      refine bodyPost_ret (results_cell_row Try.results13 _ _ (x + 1) _ _ _ _ rfl (set5 HY3.out) Try.underlying33 rfl (by kernel_rfl)) rfl ?_
      refine ⟨_, _, ?_, ?_, ?_, ?_, ((((hD3.far (p := ⟨x + 1, 0, none⟩) ?_ _).far (p := ⟨x + 1, 1, none⟩) ?_ _).far (p := ⟨x + 1, 2, none⟩) ?_ _).far (p := ⟨x + 1, 3, none⟩) ?_ _).far (p := ⟨x + 1, 4, none⟩) ?_ _, ((((hB3.far (p := ⟨x + 1, 0, none⟩) ?_ _).far (p := ⟨x + 1, 1, none⟩) ?_ _).far (p := ⟨x + 1, 2, none⟩) ?_ _).far (p := ⟨x + 1, 3, none⟩) ?_ _).far (p := ⟨x + 1, 4, none⟩) ?_ _, ((((F3.setCell (p := ⟨x + 1, 0, none⟩) (.inr ?_) _).setCell (p := ⟨x + 1, 1, none⟩) (.inr ?_) _).setCell (p := ⟨x + 1, 2, none⟩) (.inr ?_) _).setCell (p := ⟨x + 1, 3, none⟩) (.inr ?_) _).setCell (p := ⟨x + 1, 4, none⟩) (.inr ?_) _⟩
      · show Ending.returned _ = Ending.returned (.agg #[.int .i64 i1, .int .i64 i2, .int .i64 q, .slice _ D.length D.length, .slice _ B.length B.length])
        rw [← HND.out, ← HNB.out]
      all_goals ((try simp only []); omega))
  refine AllNextt.cons rfl (fun K hK => ?_) ?_
  · skip
    go_simp
    refine hK.out (At St) _ _ (fun _ h => h) (fun _ => by (exact HT.out _ (by repeat (first | exact Fr.refl _ _ | apply Fr.drew | refine Fr.alloc ?_ _)))) ?_
    clear hK K
    try simp only [Act.put, List.setIfInBounds_toArray, List.set_cons_zero, List.set_cons_succ]
    refine rt_ready [7, 13] (by kernel_rfl) (by simp) ?_
    refine AllNextt.cons rfl (fun K hK => ?_) ?_
    · skip
      go_simp
      refine hK.out (At St) _ _ (fun _ h => h) (fun _ => by (exact HT.out _ (by repeat (first | exact Fr.refl _ _ | apply Fr.drew | refine Fr.alloc ?_ _)))) ?_
      clear hK K
      try simp only [Act.put, List.setIfInBounds_toArray, List.set_cons_zero, List.set_cons_succ]
      refine rt_free 12 (v := ?_) rfl (by kernel_rfl) (by kernel_rfl) (by kernel_rfl) (by kernel_rfl) (fun _ _ _ h => h) (by rfl) (fun _ => by first | assumption | exact HS0 _ rfl | exact HT.out _ (by repeat (first | exact Fr.refl _ _ | apply Fr.drew | refine Fr.alloc ?_ _))) ?_ ?_
      rotate_left 1
      · intro w; go_simp <;> with_reducible rfl
      try simp only [Act.put, List.setIfInBounds_toArray, List.set_cons_zero, List.set_cons_succ]
      refine rt_one 13 rfl (by kernel_rfl) (fun K hK => ?_)
      go_simp
      refine hK.out (At St) _ _ (fun _ h => h) (fun _ => by (exact HT.out _ (by repeat (first | exact Fr.refl _ _ | apply Fr.drew | refine Fr.alloc ?_ _)))) ?_
      clear hK K
      try simp only [Act.put, List.setIfInBounds_toArray, List.set_cons_zero, List.set_cons_succ]
      refine rt_one 14 rfl (by kernel_rfl) (fun K hK => ?_)
      go_simp
      refine hK.out (At St) _ _ (fun _ h => h) (fun _ => by (exact HT.out _ (by repeat (first | exact Fr.refl _ _ | apply Fr.drew | refine Fr.alloc ?_ _)))) ?_
      clear hK K
      try simp only [Act.put, List.setIfInBounds_toArray, List.set_cons_zero, List.set_cons_succ]
      refine rt_done (by kernel_rfl) ?_
      all_goals (
        refine leaf3 ?_
        intro W hb1 hb2 hb3 hF
        have hs0 : x + 1 < w1.heap.size := HY.out.lt
        generalize e3 : w1.heap.size + 1 + 1 = n3 at hb1 hb2 hb3 ⊢
        generalize e2 : w1.heap.size + 1 = n2 at hb1 hb2 hb3 ⊢
        generalize e1 : w1.heap.size = n1 at hb1 hb2 hb3 hs0 ⊢
        have q1 : n1 ≠ n2 := by omega
        have q2 : n1 ≠ n3 := by omega
        have q3 : n2 ≠ n3 := by omega
        have q4 : x + 1 < n2 := by omega
        have q5 : x + 1 < n3 := by omega
        clear e1 e2 e3
        rename Blk W _ 29 _ => hD
        rename Blk W _ 54 _ => hB
        rename Blk W _ 33 _ => hG
        obtain ⟨gd, hgd⟩ : ∃ g, Blk W g 29 (madeCells #[.int .i64 0, .int .i64 0] (nd * 2)) := ⟨_, hD⟩
        have hwx := hx.out
        have hX1 := HX.out.fr hF (fun h => h)
        have hY1 := HY.out.fr hF (fun h => h)
        have F1 : Fr (fun _ => False) w W := HF.out.trans hF
        clear hgd gd
        obtain ⟨W2, hc2, hD2, hF2⟩ := idFlat.copy_all (P := Try.prog) hD (n := nd) (by show (madeCells _ _).size = nd * 2; simp [madeCells]) (c := cd) (Kd.C_below HD.out (F1.below (fun _ _ h => h))) 30 30 3 Try.underlying30 (by kernel_rfl)
        have F2 : Fr (fun _ => False) w W2 := F1.trans' hF2 (fun i hi e => by omega)
        have hX2 := hX1.fr hF2 (by omega)
        have hY2 := hY1.fr hF2 (by omega)
        have hG2 := hG.fr hF2 (by omega)
        have hB2 := hB.fr hF2 (by omega)
        obtain ⟨W3, hc3, hB3, hF3⟩ := cmdFlat.copy_all (P := Try.prog) hB2 (n := nb) (by show (madeCells _ _).size = nb * 3; simp [madeCells]) (c := cb) (Kd.C_below HB.out (F2.below (fun _ _ h => h))) 31 31 3 Try.underlying31 (by kernel_rfl)
        have F3 : Fr (fun _ => False) w W3 := F2.trans' hF3 (fun i hi e => by omega)
        have hY3 := hY2.fr hF3 (by omega)
        have hG3 := hG2.fr hF3 (by omega)
        have hD3 := hD2.fr hF3 (by omega)
        have a1 := hG.cell 3
        have a2 := hX1.cell 3
        have a3 := hG2.cell 4
        have a4 := hX2.cell 4
        simp only [List.getElem?_toArray, List.getElem?_cons_zero, List.getElem?_cons_succ] at a1 a2 a3 a4
        have g0 := hG3.cell 0
        have g1 := hG3.cell 1
        have g2 := hG3.cell 2
        have g3 := hG3.cell 3
        have g4 := hG3.cell 4
        have y0 := hY3.cell 0
        have y1 := hY3.cell 1
        have y2 := hY3.cell 2
        have y3 := hY3.cell 3
        have y4 := hY3.cell 4
        have yf := hY3.frozen
        simp only [List.getElem?_toArray, List.getElem?_cons_zero, List.getElem?_cons_succ] at g0 g1 g2 g3 g4 y0 y1 y2 y3 y4
        have HY3 := Lib.hid hY3
        clear hX1 hY1 hX2 hY2 hG hG2 hB hB2 hD hD2 HX HY hG3 hY3
        clear e0 e1 e2 e3 e4 x3 x4 hm1 hm2 hwx
        go_wp2_with (at_builtin; refine wpl_builtin2 rfl rfl rfl rfl (bi_copy hc2) ?_)
        have hwx := hx.out
        refine bodyPost_ret (results_cell_row Try.results13 _ _ (x + 1) _ _ _ _ rfl (set5 HY3.out) Try.underlying33 rfl (by kernel_rfl)) rfl ?_
        refine ⟨_, _, ?_, ?_, ?_, ?_, ((((hD3.far (p := ⟨x + 1, 0, none⟩) ?_ _).far (p := ⟨x + 1, 1, none⟩) ?_ _).far (p := ⟨x + 1, 2, none⟩) ?_ _).far (p := ⟨x + 1, 3, none⟩) ?_ _).far (p := ⟨x + 1, 4, none⟩) ?_ _, ((((hB3.far (p := ⟨x + 1, 0, none⟩) ?_ _).far (p := ⟨x + 1, 1, none⟩) ?_ _).far (p := ⟨x + 1, 2, none⟩) ?_ _).far (p := ⟨x + 1, 3, none⟩) ?_ _).far (p := ⟨x + 1, 4, none⟩) ?_ _, ((((F3.setCell (p := ⟨x + 1, 0, none⟩) (.inr ?_) _).setCell (p := ⟨x + 1, 1, none⟩) (.inr ?_) _).setCell (p := ⟨x + 1, 2, none⟩) (.inr ?_) _).setCell (p := ⟨x + 1, 3, none⟩) (.inr ?_) _).setCell (p := ⟨x + 1, 4, none⟩) (.inr ?_) _⟩
        · show Ending.returned _ = Ending.returned (.agg #[.int .i64 i1, .int .i64 i2, .int .i64 q, .slice _ D.length D.length, .slice _ B.length B.length])
          rw [← HND.out, ← HNB.out]
        all_goals ((try simp only []); omega))
    refine AllNextt.cons rfl (fun K hK => ?_) ?_
    · skip
      go_simp
      refine hK.out (At St) _ _ (fun _ h => h) (fun _ => by (exact HT.out _ (by repeat (first | exact Fr.refl _ _ | apply Fr.drew | refine Fr.alloc ?_ _)))) ?_
      clear hK K
      try simp only [Act.put, List.setIfInBounds_toArray, List.set_cons_zero, List.set_cons_succ]
      refine rt_one 7 rfl (by kernel_rfl) (fun K hK => ?_)
      go_simp
      refine hK.out (At St) _ _ (fun _ h => h) (fun _ => by (exact HT.out _ (by repeat (first | exact Fr.refl _ _ | apply Fr.drew | refine Fr.alloc ?_ _)))) ?_
      clear hK K
      try simp only [Act.put, List.setIfInBounds_toArray, List.set_cons_zero, List.set_cons_succ]
      refine rt_free 12 (v := ?_) rfl (by kernel_rfl) (by kernel_rfl) (by kernel_rfl) (by kernel_rfl) (fun _ _ _ h => h) (by rfl) (fun _ => by first | assumption | exact HS0 _ rfl | exact HT.out _ (by repeat (first | exact Fr.refl _ _ | apply Fr.drew | refine Fr.alloc ?_ _))) ?_ ?_
      rotate_left 1
      · intro w; go_simp <;> with_reducible rfl
      try simp only [Act.put, List.setIfInBounds_toArray, List.set_cons_zero, List.set_cons_succ]
      refine rt_one 14 rfl (by kernel_rfl) (fun K hK => ?_)
      go_simp
      refine hK.out (At St) _ _ (fun _ h => h) (fun _ => by (exact HT.out _ (by repeat (first | exact Fr.refl _ _ | apply Fr.drew | refine Fr.alloc ?_ _)))) ?_
      clear hK K
      try simp only [Act.put, List.setIfInBounds_toArray, List.set_cons_zero, List.set_cons_succ]
      refine rt_done (by kernel_rfl) ?_
      all_goals (
        refine leaf3 ?_
        intro W hb1 hb2 hb3 hF
        have hs0 : x + 1 < w1.heap.size := HY.out.lt
        generalize e3 : w1.heap.size + 1 + 1 = n3 at hb1 hb2 hb3 ⊢
        generalize e2 : w1.heap.size + 1 = n2 at hb1 hb2 hb3 ⊢
        generalize e1 : w1.heap.size = n1 at hb1 hb2 hb3 hs0 ⊢
        have q1 : n1 ≠ n2 := by omega
        have q2 : n1 ≠ n3 := by omega
        have q3 : n2 ≠ n3 := by omega
        have q4 : x + 1 < n2 := by omega
        have q5 : x + 1 < n3 := by omega
        clear e1 e2 e3
        rename Blk W _ 29 _ => hD
        rename Blk W _ 54 _ => hB
        rename Blk W _ 33 _ => hG
        obtain ⟨gd, hgd⟩ : ∃ g, Blk W g 29 (madeCells #[.int .i64 0, .int .i64 0] (nd * 2)) := ⟨_, hD⟩
        have hwx := hx.out
        have hX1 := HX.out.fr hF (fun h => h)
        have hY1 := HY.out.fr hF (fun h => h)
        have F1 : Fr (fun _ => False) w W := HF.out.trans hF
        clear hgd gd
        obtain ⟨W2, hc2, hD2, hF2⟩ := idFlat.copy_all (P := Try.prog) hD (n := nd) (by show (madeCells _ _).size = nd * 2; simp [madeCells]) (c := cd) (Kd.C_below HD.out (F1.below (fun _ _ h => h))) 30 30 3 Try.underlying30 (by kernel_rfl)
        have F2 : Fr (fun _ => False) w W2 := F1.trans' hF2 (fun i hi e => by omega)
        have hX2 := hX1.fr hF2 (by omega)
        have hY2 := hY1.fr hF2 (by omega)
        have hG2 := hG.fr hF2 (by omega)
        have hB2 := hB.fr hF2 (by omega)
        obtain ⟨W3, hc3, hB3, hF3⟩ := cmdFlat.copy_all (P := Try.prog) hB2 (n := nb) (by show (madeCells _ _).size = nb * 3; simp [madeCells]) (c := cb) (Kd.C_below HB.out (F2.below (fun _ _ h => h))) 31 31 3 Try.underlying31 (by kernel_rfl)
        have F3 : Fr (fun _ => False) w W3 := F2.trans' hF3 (fun i hi e => by omega)
        have hY3 := hY2.fr hF3 (by omega)
        have hG3 := hG2.fr hF3 (by omega)
        have hD3 := hD2.fr hF3 (by omega)
        have a1 := hG.cell 3
        have a2 := hX1.cell 3
        have a3 := hG2.cell 4
        have a4 := hX2.cell 4
        simp only [List.getElem?_toArray, List.getElem?_cons_zero, List.getElem?_cons_succ] at a1 a2 a3 a4
        have g0 := hG3.cell 0
        have g1 := hG3.cell 1
        have g2 := hG3.cell 2
        have g3 := hG3.cell 3
        have g4 := hG3.cell 4
        have y0 := hY3.cell 0
        have y1 := hY3.cell 1
        have y2 := hY3.cell 2
        have y3 := hY3.cell 3
        have y4 := hY3.cell 4
        have yf := hY3.frozen
        simp only [List.getElem?_toArray, List.getElem?_cons_zero, List.getElem?_cons_succ] at g0 g1 g2 g3 g4 y0 y1 y2 y3 y4
        have HY3 := Lib.hid hY3
        clear hX1 hY1 hX2 hY2 hG hG2 hB hB2 hD hD2 HX HY hG3 hY3
        clear e0 e1 e2 e3 e4 x3 x4 hm1 hm2 hwx
        go_wp2_with (at_builtin; refine wpl_builtin2 rfl rfl rfl rfl (bi_copy hc2) ?_)
        have hwx := hx.out
        refine bodyPost_ret (results_cell_row Try.results13 _ _ (x + 1) _ _ _ _ rfl (set5 HY3.out) Try.underlying33 rfl (by kernel_rfl)) rfl ?_
        refine ⟨_, _, ?_, ?_, ?_, ?_, ((((hD3.far (p := ⟨x + 1, 0, none⟩) ?_ _).far (p := ⟨x + 1, 1, none⟩) ?_ _).far (p := ⟨x + 1, 2, none⟩) ?_ _).far (p := ⟨x + 1, 3, none⟩) ?_ _).far (p := ⟨x + 1, 4, none⟩) ?_ _, ((((hB3.far (p := ⟨x + 1, 0, none⟩) ?_ _).far (p := ⟨x + 1, 1, none⟩) ?_ _).far (p := ⟨x + 1, 2, none⟩) ?_ _).far (p := ⟨x + 1, 3, none⟩) ?_ _).far (p := ⟨x + 1, 4, none⟩) ?_ _, ((((F3.setCell (p := ⟨x + 1, 0, none⟩) (.inr ?_) _).setCell (p := ⟨x + 1, 1, none⟩) (.inr ?_) _).setCell (p := ⟨x + 1, 2, none⟩) (.inr ?_) _).setCell (p := ⟨x + 1, 3, none⟩) (.inr ?_) _).setCell (p := ⟨x + 1, 4, none⟩) (.inr ?_) _⟩
        · show Ending.returned _ = Ending.returned (.agg #[.int .i64 i1, .int .i64 i2, .int .i64 q, .slice _ D.length D.length, .slice _ B.length B.length])
          rw [← HND.out, ← HNB.out]
        all_goals ((try simp only []); omega))
    exact AllNextt.nil
    all_goals (
      refine leaf3 ?_
      intro W hb1 hb2 hb3 hF
      have hs0 : x + 1 < w1.heap.size := HY.out.lt
      generalize e3 : w1.heap.size + 1 + 1 = n3 at hb1 hb2 hb3 ⊢
      generalize e2 : w1.heap.size + 1 = n2 at hb1 hb2 hb3 ⊢
      generalize e1 : w1.heap.size = n1 at hb1 hb2 hb3 hs0 ⊢
      have q1 : n1 ≠ n2 := by omega
      have q2 : n1 ≠ n3 := by omega
      have q3 : n2 ≠ n3 := by omega
      have q4 : x + 1 < n2 := by omega
      have q5 : x + 1 < n3 := by omega
      clear e1 e2 e3
      rename Blk W _ 29 _ => hD
      rename Blk W _ 54 _ => hB
      rename Blk W _ 33 _ => hG
      obtain ⟨gd, hgd⟩ : ∃ g, Blk W g 29 (madeCells #[.int .i64 0, .int .i64 0] (nd * 2)) := ⟨_, hD⟩
      have hwx := hx.out
      have hX1 := HX.out.fr hF (fun h => h)
      have hY1 := HY.out.fr hF (fun h => h)
      have F1 : Fr (fun _ => False) w W := HF.out.trans hF
      clear hgd gd
      obtain ⟨W2, hc2, hD2, hF2⟩ := idFlat.copy_all (P := Try.prog) hD (n := nd) (by show (madeCells _ _).size = nd * 2; simp [madeCells]) (c := cd) (Kd.C_below HD.out (F1.below (fun _ _ h => h))) 30 30 3 Try.underlying30 (by kernel_rfl)
      have F2 : Fr (fun _ => False) w W2 := F1.trans' hF2 (fun i hi e => by omega)
      have hX2 := hX1.fr hF2 (by omega)
      have hY2 := hY1.fr hF2 (by omega)
      have hG2 := hG.fr hF2 (by omega)
      have hB2 := hB.fr hF2 (by omega)
      obtain ⟨W3, hc3, hB3, hF3⟩ := cmdFlat.copy_all (P := Try.prog) hB2 (n := nb) (by show (madeCells _ _).size = nb * 3; simp [madeCells]) (c := cb) (Kd.C_below HB.out (F2.below (fun _ _ h => h))) 31 31 3 Try.underlying31 (by kernel_rfl)
      have F3 : Fr (fun _ => False) w W3 := F2.trans' hF3 (fun i hi e => by omega)
      have hY3 := hY2.fr hF3 (by omega)
      have hG3 := hG2.fr hF3 (by omega)
      have hD3 := hD2.fr hF3 (by omega)
      have a1 := hG.cell 3
      have a2 := hX1.cell 3
      have a3 := hG2.cell 4
      have a4 := hX2.cell 4
      simp only [List.getElem?_toArray, List.getElem?_cons_zero, List.getElem?_cons_succ] at a1 a2 a3 a4
      have g0 := hG3.cell 0
      have g1 := hG3.cell 1
      have g2 := hG3.cell 2
      have g3 := hG3.cell 3
      have g4 := hG3.cell 4
      have y0 := hY3.cell 0
      have y1 := hY3.cell 1
      have y2 := hY3.cell 2
      have y3 := hY3.cell 3
      have y4 := hY3.cell 4
      have yf := hY3.frozen
      simp only [List.getElem?_toArray, List.getElem?_cons_zero, List.getElem?_cons_succ] at g0 g1 g2 g3 g4 y0 y1 y2 y3 y4
      have HY3 := Lib.hid hY3
      clear hX1 hY1 hX2 hY2 hG hG2 hB hB2 hD hD2 HX HY hG3 hY3
      clear e0 e1 e2 e3 e4 x3 x4 hm1 hm2 hwx
      go_wp2_with (at_builtin; refine wpl_builtin2 rfl rfl rfl rfl (bi_copy hc2) ?_)
      have hwx := hx.out
      refine bodyPost_ret (results_cell_row Try.results13 _ _ (x + 1) _ _ _ _ rfl (set5 HY3.out) Try.underlying33 rfl (by kernel_rfl)) rfl ?_
      refine ⟨_, _, ?_, ?_, ?_, ?_, ((((hD3.far (p := ⟨x + 1, 0, none⟩) ?_ _).far (p := ⟨x + 1, 1, none⟩) ?_ _).far (p := ⟨x + 1, 2, none⟩) ?_ _).far (p := ⟨x + 1, 3, none⟩) ?_ _).far (p := ⟨x + 1, 4, none⟩) ?_ _, ((((hB3.far (p := ⟨x + 1, 0, none⟩) ?_ _).far (p := ⟨x + 1, 1, none⟩) ?_ _).far (p := ⟨x + 1, 2, none⟩) ?_ _).far (p := ⟨x + 1, 3, none⟩) ?_ _).far (p := ⟨x + 1, 4, none⟩) ?_ _, ((((F3.setCell (p := ⟨x + 1, 0, none⟩) (.inr ?_) _).setCell (p := ⟨x + 1, 1, none⟩) (.inr ?_) _).setCell (p := ⟨x + 1, 2, none⟩) (.inr ?_) _).setCell (p := ⟨x + 1, 3, none⟩) (.inr ?_) _).setCell (p := ⟨x + 1, 4, none⟩) (.inr ?_) _⟩
      · show Ending.returned _ = Ending.returned (.agg #[.int .i64 i1, .int .i64 i2, .int .i64 q, .slice _ D.length D.length, .slice _ B.length B.length])
        rw [← HND.out, ← HNB.out]
      all_goals ((try simp only []); omega))
  refine AllNextt.cons rfl (fun K hK => ?_) ?_
  · skip
    go_simp
    refine hK.out (At St) _ _ (fun _ h => h) (fun _ => by (exact HT.out _ (by repeat (first | exact Fr.refl _ _ | apply Fr.drew | refine Fr.alloc ?_ _)))) ?_
    clear hK K
    try simp only [Act.put, List.setIfInBounds_toArray, List.set_cons_zero, List.set_cons_succ]
    refine rt_ready [7, 11] (by kernel_rfl) (by simp) ?_
    refine AllNextt.cons rfl (fun K hK => ?_) ?_
    · skip
      go_simp
      refine hK.out (At St) _ _ (fun _ h => h) (fun _ => by (exact HT.out _ (by repeat (first | exact Fr.refl _ _ | apply Fr.drew | refine Fr.alloc ?_ _)))) ?_
      clear hK K
      try simp only [Act.put, List.setIfInBounds_toArray, List.set_cons_zero, List.set_cons_succ]
      refine rt_one 11 rfl (by kernel_rfl) (fun K hK => ?_)
      go_simp
      refine hK.out (At St) _ _ (fun _ h => h) (fun _ => by (exact HT.out _ (by repeat (first | exact Fr.refl _ _ | apply Fr.drew | refine Fr.alloc ?_ _)))) ?_
      clear hK K
      try simp only [Act.put, List.setIfInBounds_toArray, List.set_cons_zero, List.set_cons_succ]
      refine rt_free 12 (v := ?_) rfl (by kernel_rfl) (by kernel_rfl) (by kernel_rfl) (by kernel_rfl) (fun _ _ _ h => h) (by rfl) (fun _ => by first | assumption | exact HS0 _ rfl | exact HT.out _ (by repeat (first | exact Fr.refl _ _ | apply Fr.drew | refine Fr.alloc ?_ _))) ?_ ?_
      rotate_left 1
      · intro w; go_simp <;> with_reducible rfl
      try simp only [Act.put, List.setIfInBounds_toArray, List.set_cons_zero, List.set_cons_succ]
      refine rt_one 14 rfl (by kernel_rfl) (fun K hK => ?_)
      go_simp
      refine hK.out (At St) _ _ (fun _ h => h) (fun _ => by (exact HT.out _ (by repeat (first | exact Fr.refl _ _ | apply Fr.drew | refine Fr.alloc ?_ _)))) ?_
      clear hK K
      try simp only [Act.put, List.setIfInBounds_toArray, List.set_cons_zero, List.set_cons_succ]
      refine rt_done (by kernel_rfl) ?_
      all_goals (
        refine leaf3 ?_
        intro W hb1 hb2 hb3 hF
        have hs0 : x + 1 < w1.heap.size := HY.out.lt
        generalize e3 : w1.heap.size + 1 + 1 = n3 at hb1 hb2 hb3 ⊢
        generalize e2 : w1.heap.size + 1 = n2 at hb1 hb2 hb3 ⊢
        generalize e1 : w1.heap.size = n1 at hb1 hb2 hb3 hs0 ⊢
        have q1 : n1 ≠ n2 := by omega
        have q2 : n1 ≠ n3 := by omega
        have q3 : n2 ≠ n3 := by omega
        have q4 : x + 1 < n2 := by omega
        have q5 : x + 1 < n3 := by omega
        clear e1 e2 e3
        rename Blk W _ 29 _ => hD
        rename Blk W _ 54 _ => hB
        rename Blk W _ 33 _ => hG
        obtain ⟨gd, hgd⟩ : ∃ g, Blk W g 29 (madeCells #[.int .i64 0, .int .i64 0] (nd * 2)) := ⟨_, hD⟩
        have hwx := hx.out
        have hX1 := HX.out.fr hF (fun h => h)
        have hY1 := HY.out.fr hF (fun h => h)
        have F1 : Fr (fun _ => False) w W := HF.out.trans hF
        clear hgd gd
        obtain ⟨W2, hc2, hD2, hF2⟩ := idFlat.copy_all (P := Try.prog) hD (n := nd) (by show (madeCells _ _).size = nd * 2; simp [madeCells]) (c := cd) (Kd.C_below HD.out (F1.below (fun _ _ h => h))) 30 30 3 Try.underlying30 (by kernel_rfl)
        have F2 : Fr (fun _ => False) w W2 := F1.trans' hF2 (fun i hi e => by omega)
        have hX2 := hX1.fr hF2 (by omega)
        have hY2 := hY1.fr hF2 (by omega)
        have hG2 := hG.fr hF2 (by omega)
        have hB2 := hB.fr hF2 (by omega)
        obtain ⟨W3, hc3, hB3, hF3⟩ := cmdFlat.copy_all (P := Try.prog) hB2 (n := nb) (by show (madeCells _ _).size = nb * 3; simp [madeCells]) (c := cb) (Kd.C_below HB.out (F2.below (fun _ _ h => h))) 31 31 3 Try.underlying31 (by kernel_rfl)
        have F3 : Fr (fun _ => False) w W3 := F2.trans' hF3 (fun i hi e => by omega)
        have hY3 := hY2.fr hF3 (by omega)
        have hG3 := hG2.fr hF3 (by omega)
        have hD3 := hD2.fr hF3 (by omega)
        have a1 := hG.cell 3
        have a2 := hX1.cell 3
        have a3 := hG2.cell 4
        have a4 := hX2.cell 4
        simp only [List.getElem?_toArray, List.getElem?_cons_zero, List.getElem?_cons_succ] at a1 a2 a3 a4
        have g0 := hG3.cell 0
        have g1 := hG3.cell 1
        have g2 := hG3.cell 2
        have g3 := hG3.cell 3
        have g4 := hG3.cell 4
        have y0 := hY3.cell 0
        have y1 := hY3.cell 1
        have y2 := hY3.cell 2
        have y3 := hY3.cell 3
        have y4 := hY3.cell 4
        have yf := hY3.frozen
        simp only [List.getElem?_toArray, List.getElem?_cons_zero, List.getElem?_cons_succ] at g0 g1 g2 g3 g4 y0 y1 y2 y3 y4
        have HY3 := Lib.hid hY3
        clear hX1 hY1 hX2 hY2 hG hG2 hB hB2 hD hD2 HX HY hG3 hY3
        clear e0 e1 e2 e3 e4 x3 x4 hm1 hm2 hwx
        go_wp2_with (at_builtin; refine wpl_builtin2 rfl rfl rfl rfl (bi_copy hc2) ?_)
        have hwx := hx.out
        refine bodyPost_ret (results_cell_row Try.results13 _ _ (x + 1) _ _ _ _ rfl (set5 HY3.out) Try.underlying33 rfl (by kernel_rfl)) rfl ?_
        refine ⟨_, _, ?_, ?_, ?_, ?_, ((((hD3.far (p := ⟨x + 1, 0, none⟩) ?_ _).far (p := ⟨x + 1, 1, none⟩) ?_ _).far (p := ⟨x + 1, 2, none⟩) ?_ _).far (p := ⟨x + 1, 3, none⟩) ?_ _).far (p := ⟨x + 1, 4, none⟩) ?_ _, ((((hB3.far (p := ⟨x + 1, 0, none⟩) ?_ _).far (p := ⟨x + 1, 1, none⟩) ?_ _).far (p := ⟨x + 1, 2, none⟩) ?_ _).far (p := ⟨x + 1, 3, none⟩) ?_ _).far (p := ⟨x + 1, 4, none⟩) ?_ _, ((((F3.setCell (p := ⟨x + 1, 0, none⟩) (.inr ?_) _).setCell (p := ⟨x + 1, 1, none⟩) (.inr ?_) _).setCell (p := ⟨x + 1, 2, none⟩) (.inr ?_) _).setCell (p := ⟨x + 1, 3, none⟩) (.inr ?_) _).setCell (p := ⟨x + 1, 4, none⟩) (.inr ?_) _⟩
        · show Ending.returned _ = Ending.returned (.agg #[.int .i64 i1, .int .i64 i2, .int .i64 q, .slice _ D.length D.length, .slice _ B.length B.length])
          rw [← HND.out, ← HNB.out]
        all_goals ((try simp only []); omega))
    refine AllNextt.cons rfl (fun K hK => ?_) ?_
    · skip
      go_simp
      refine hK.out (At St) _ _ (fun _ h => h) (fun _ => by (exact HT.out _ (by repeat (first | exact Fr.refl _ _ | apply Fr.drew | refine Fr.alloc ?_ _)))) ?_
      clear hK K
      try simp only [Act.put, List.setIfInBounds_toArray, List.set_cons_zero, List.set_cons_succ]
      refine rt_one 7 rfl (by kernel_rfl) (fun K hK => ?_)
      go_simp
      refine hK.out (At St) _ _ (fun _ h => h) (fun _ => by (exact HT.out _ (by repeat (first | exact Fr.refl _ _ | apply Fr.drew | refine Fr.alloc ?_ _)))) ?_
      clear hK K
      try simp only [Act.put, List.setIfInBounds_toArray, List.set_cons_zero, List.set_cons_succ]
      refine rt_free 12 (v := ?_) rfl (by kernel_rfl) (by kernel_rfl) (by kernel_rfl) (by kernel_rfl) (fun _ _ _ h => h) (by rfl) (fun _ => by first | assumption | exact HS0 _ rfl | exact HT.out _ (by repeat (first | exact Fr.refl _ _ | apply Fr.drew | refine Fr.alloc ?_ _))) ?_ ?_
      rotate_left 1
      · intro w; go_simp <;> with_reducible rfl
      try simp only [Act.put, List.setIfInBounds_toArray, List.set_cons_zero, List.set_cons_succ]
      refine rt_one 14 rfl (by kernel_rfl) (fun K hK => ?_)
      go_simp
      refine hK.out (At St) _ _ (fun _ h => h) (fun _ => by (exact HT.out _ (by repeat (first | exact Fr.refl _ _ | apply Fr.drew | refine Fr.alloc ?_ _)))) ?_
      clear hK K
      try simp only [Act.put, List.setIfInBounds_toArray, List.set_cons_zero, List.set_cons_succ]
      refine rt_done (by kernel_rfl) ?_
      all_goals (
        refine leaf3 ?_
        intro W hb1 hb2 hb3 hF
        have hs0 : x + 1 < w1.heap.size := HY.out.lt
        generalize e3 : w1.heap.size + 1 + 1 = n3 at hb1 hb2 hb3 ⊢
        generalize e2 : w1.heap.size + 1 = n2 at hb1 hb2 hb3 ⊢
        generalize e1 : w1.heap.size = n1 at hb1 hb2 hb3 hs0 ⊢
        have q1 : n1 ≠ n2 := by omega
        have q2 : n1 ≠ n3 := by omega
        have q3 : n2 ≠ n3 := by omega
        have q4 : x + 1 < n2 := by omega
        have q5 : x + 1 < n3 := by omega
        clear e1 e2 e3
        rename Blk W _ 29 _ => hD
        rename Blk W _ 54 _ => hB
        rename Blk W _ 33 _ => hG
        obtain ⟨gd, hgd⟩ : ∃ g, Blk W g 29 (madeCells #[.int .i64 0, .int .i64 0] (nd * 2)) := ⟨_, hD⟩
        have hwx := hx.out
        have hX1 := HX.out.fr hF (fun h => h)
        have hY1 := HY.out.fr hF (fun h => h)
        have F1 : Fr (fun _ => False) w W := HF.out.trans hF
        clear hgd gd
        obtain ⟨W2, hc2, hD2, hF2⟩ := idFlat.copy_all (P := Try.prog) hD (n := nd) (by show (madeCells _ _).size = nd * 2; simp [madeCells]) (c := cd) (Kd.C_below HD.out (F1.below (fun _ _ h => h))) 30 30 3 Try.underlying30 (by kernel_rfl)
        have F2 : Fr (fun _ => False) w W2 := F1.trans' hF2 (fun i hi e => by omega)
        have hX2 := hX1.fr hF2 (by omega)
        have hY2 := hY1.fr hF2 (by omega)
        have hG2 := hG.fr hF2 (by omega)
        have hB2 := hB.fr hF2 (by omega)
        obtain ⟨W3, hc3, hB3, hF3⟩ := cmdFlat.copy_all (P := Try.prog) hB2 (n := nb) (by show (madeCells _ _).size = nb * 3; simp [madeCells]) (c := cb) (Kd.C_below HB.out (F2.below (fun _ _ h => h))) 31 31 3 Try.underlying31 (by kernel_rfl)
        have F3 : Fr (fun _ => False) w W3 := F2.trans' hF3 (fun i hi e => by omega)
        have hY3 := hY2.fr hF3 (by omega)
        have hG3 := hG2.fr hF3 (by omega)
        have hD3 := hD2.fr hF3 (by omega)
        have a1 := hG.cell 3
        have a2 := hX1.cell 3
        have a3 := hG2.cell 4
        have a4 := hX2.cell 4
        simp only [List.getElem?_toArray, List.getElem?_cons_zero, List.getElem?_cons_succ] at a1 a2 a3 a4
        have g0 := hG3.cell 0
        have g1 := hG3.cell 1
        have g2 := hG3.cell 2
        have g3 := hG3.cell 3
        have g4 := hG3.cell 4
        have y0 := hY3.cell 0
        have y1 := hY3.cell 1
        have y2 := hY3.cell 2
        have y3 := hY3.cell 3
        have y4 := hY3.cell 4
        have yf := hY3.frozen
        simp only [List.getElem?_toArray, List.getElem?_cons_zero, List.getElem?_cons_succ] at g0 g1 g2 g3 g4 y0 y1 y2 y3 y4
        have HY3 := Lib.hid hY3
        clear hX1 hY1 hX2 hY2 hG hG2 hB hB2 hD hD2 HX HY hG3 hY3
        clear e0 e1 e2 e3 e4 x3 x4 hm1 hm2 hwx
        go_wp2_with (at_builtin; refine wpl_builtin2 rfl rfl rfl rfl (bi_copy hc2) ?_)
        have hwx := hx.out
        refine bodyPost_ret (results_cell_row Try.results13 _ _ (x + 1) _ _ _ _ rfl (set5 HY3.out) Try.underlying33 rfl (by kernel_rfl)) rfl ?_
        refine ⟨_, _, ?_, ?_, ?_, ?_, ((((hD3.far (p := ⟨x + 1, 0, none⟩) ?_ _).far (p := ⟨x + 1, 1, none⟩) ?_ _).far (p := ⟨x + 1, 2, none⟩) ?_ _).far (p := ⟨x + 1, 3, none⟩) ?_ _).far (p := ⟨x + 1, 4, none⟩) ?_ _, ((((hB3.far (p := ⟨x + 1, 0, none⟩) ?_ _).far (p := ⟨x + 1, 1, none⟩) ?_ _).far (p := ⟨x + 1, 2, none⟩) ?_ _).far (p := ⟨x + 1, 3, none⟩) ?_ _).far (p := ⟨x + 1, 4, none⟩) ?_ _, ((((F3.setCell (p := ⟨x + 1, 0, none⟩) (.inr ?_) _).setCell (p := ⟨x + 1, 1, none⟩) (.inr ?_) _).setCell (p := ⟨x + 1, 2, none⟩) (.inr ?_) _).setCell (p := ⟨x + 1, 3, none⟩) (.inr ?_) _).setCell (p := ⟨x + 1, 4, none⟩) (.inr ?_) _⟩
        · show Ending.returned _ = Ending.returned (.agg #[.int .i64 i1, .int .i64 i2, .int .i64 q, .slice _ D.length D.length, .slice _ B.length B.length])
          rw [← HND.out, ← HNB.out]
        all_goals ((try simp only []); omega))
    exact AllNextt.nil
    all_goals (
      refine leaf3 ?_
      intro W hb1 hb2 hb3 hF
      have hs0 : x + 1 < w1.heap.size := HY.out.lt
      generalize e3 : w1.heap.size + 1 + 1 = n3 at hb1 hb2 hb3 ⊢
      generalize e2 : w1.heap.size + 1 = n2 at hb1 hb2 hb3 ⊢
      generalize e1 : w1.heap.size = n1 at hb1 hb2 hb3 hs0 ⊢
      have q1 : n1 ≠ n2 := by omega
      have q2 : n1 ≠ n3 := by omega
      have q3 : n2 ≠ n3 := by omega
      have q4 : x + 1 < n2 := by omega
      have q5 : x + 1 < n3 := by omega
      clear e1 e2 e3
      rename Blk W _ 29 _ => hD
      rename Blk W _ 54 _ => hB
      rename Blk W _ 33 _ => hG
      obtain ⟨gd, hgd⟩ : ∃ g, Blk W g 29 (madeCells #[.int .i64 0, .int .i64 0] (nd * 2)) := ⟨_, hD⟩
      have hwx := hx.out
      have hX1 := HX.out.fr hF (fun h => h)
      have hY1 := HY.out.fr hF (fun h => h)
      have F1 : Fr (fun _ => False) w W := HF.out.trans hF
      clear hgd gd
      obtain ⟨W2, hc2, hD2, hF2⟩ := idFlat.copy_all (P := Try.prog) hD (n := nd) (by show (madeCells _ _).size = nd * 2; simp [madeCells]) (c := cd) (Kd.C_below HD.out (F1.below (fun _ _ h => h))) 30 30 3 Try.underlying30 (by kernel_rfl)
      have F2 : Fr (fun _ => False) w W2 := F1.trans' hF2 (fun i hi e => by omega)
      have hX2 := hX1.fr hF2 (by omega)
      have hY2 := hY1.fr hF2 (by omega)
      have hG2 := hG.fr hF2 (by omega)
      have hB2 := hB.fr hF2 (by omega)
      obtain ⟨W3, hc3, hB3, hF3⟩ := cmdFlat.copy_all (P := Try.prog) hB2 (n := nb) (by show (madeCells _ _).size = nb * 3; simp [madeCells]) (c := cb) (Kd.C_below HB.out (F2.below (fun _ _ h => h))) 31 31 3 Try.underlying31 (by kernel_rfl)
      have F3 : Fr (fun _ => False) w W3 := F2.trans' hF3 (fun i hi e => by omega)
      have hY3 := hY2.fr hF3 (by omega)
      have hG3 := hG2.fr hF3 (by omega)
      have hD3 := hD2.fr hF3 (by omega)
      have a1 := hG.cell 3
      have a2 := hX1.cell 3
      have a3 := hG2.cell 4
      have a4 := hX2.cell 4
      simp only [List.getElem?_toArray, List.getElem?_cons_zero, List.getElem?_cons_succ] at a1 a2 a3 a4
      have g0 := hG3.cell 0
      have g1 := hG3.cell 1
      have g2 := hG3.cell 2
      have g3 := hG3.cell 3
      have g4 := hG3.cell 4
      have y0 := hY3.cell 0
      have y1 := hY3.cell 1
      have y2 := hY3.cell 2
      have y3 := hY3.cell 3
      have y4 := hY3.cell 4
      have yf := hY3.frozen
      simp only [List.getElem?_toArray, List.getElem?_cons_zero, List.getElem?_cons_succ] at g0 g1 g2 g3 g4 y0 y1 y2 y3 y4
      have HY3 := Lib.hid hY3
      clear hX1 hY1 hX2 hY2 hG hG2 hB hB2 hD hD2 HX HY hG3 hY3
      clear e0 e1 e2 e3 e4 x3 x4 hm1 hm2 hwx
      go_wp2_with (at_builtin; refine wpl_builtin2 rfl rfl rfl rfl (bi_copy hc2) ?_)
      have hwx := hx.out
      refine bodyPost_ret (results_cell_row Try.results13 _ _ (x + 1) _ _ _ _ rfl (set5 HY3.out) Try.underlying33 rfl (by kernel_rfl)) rfl ?_
      refine ⟨_, _, ?_, ?_, ?_, ?_, ((((hD3.far (p := ⟨x + 1, 0, none⟩) ?_ _).far (p := ⟨x + 1, 1, none⟩) ?_ _).far (p := ⟨x + 1, 2, none⟩) ?_ _).far (p := ⟨x + 1, 3, none⟩) ?_ _).far (p := ⟨x + 1, 4, none⟩) ?_ _, ((((hB3.far (p := ⟨x + 1, 0, none⟩) ?_ _).far (p := ⟨x + 1, 1, none⟩) ?_ _).far (p := ⟨x + 1, 2, none⟩) ?_ _).far (p := ⟨x + 1, 3, none⟩) ?_ _).far (p := ⟨x + 1, 4, none⟩) ?_ _, ((((F3.setCell (p := ⟨x + 1, 0, none⟩) (.inr ?_) _).setCell (p := ⟨x + 1, 1, none⟩) (.inr ?_) _).setCell (p := ⟨x + 1, 2, none⟩) (.inr ?_) _).setCell (p := ⟨x + 1, 3, none⟩) (.inr ?_) _).setCell (p := ⟨x + 1, 4, none⟩) (.inr ?_) _⟩
      · show Ending.returned _ = Ending.returned (.agg #[.int .i64 i1, .int .i64 i2, .int .i64 q, .slice _ D.length D.length, .slice _ B.length B.length])
        rw [← HND.out, ← HNB.out]
      all_goals ((try simp only []); omega))
  exact AllNextt.nil
end Go.Proofs.Ytmfbcebbklimoaa
