/- The law RootsActs, walked. -/
import Derived.Test.YtlpigldogglmcaaRootsQ
set_option linter.unusedVariables false
set_option linter.unusedSimpArgs false
namespace Go.Proofs.Ytlpigldogglmcaa
open Go.RowKit
open Go.Proofs.YtlpigldogglmcaaW.PrintWords

theorem id_cells {w : World} {g : Nat} {a : Int × Int} (h : Blk w g 28 #[.int .i64 a.1, .int .i64 a.2]) : w.cell? ⟨g, 0, none⟩ = some (.int .i64 a.1) ∧ w.cell? ⟨g, 1, none⟩ = some (.int .i64 a.2) := ⟨h.cell 0, h.cell 1⟩
set_option maxRecDepth 100000 in
set_option maxHeartbeats 2000000 in
theorem works24 (w : World) : Calls Try.prog 15 #[] w fun r w' => r = .returned (.bool true) ∧ Fr (fun _ => False) w w' := by
  go_enter Try.func15, Try.ntmps15
  go_wp2_with fail
  refine (row_new w).mono ?_
  rintro r w1 ⟨rfl, hw1⟩
  have hR := row_fresh w
  rw [← hw1] at hR
  have HF : Hid (Fr (fun _ => False) w w1) := Lib.hid (by rw [hw1]; exact ((Fr.refl _ _).alloc _).alloc _)
  obtain ⟨g, hg⟩ : ∃ g, g = w.heap.size + 1 := ⟨_, rfl⟩
  have hz1 : w1.heap.size = w.heap.size + 2 := by rw [hw1]; simp
  rw [← hg] at hR ⊢
  have HR := Lib.hid hR
  clear hw1 hR
  replace hg := Lib.hid hg
  replace hz1 := Lib.hid hz1
  obtain ⟨xa, hxa⟩ : ∃ xa, xa = w1.heap.size := ⟨_, rfl⟩
  have hA := (Blk.new w1 28 #[.int .i64 0, .int .i64 1]).alloc (.cells #[.int .i64 0, .int .i64 2] 28)
  have hB := Blk.new (w1.alloc (.cells #[.int .i64 0, .int .i64 1] 28)) 28 #[.int .i64 0, .int .i64 2]
  rw [World.size_alloc, ← hxa] at hB
  rw [← hxa] at hA
  have hR2 := HR.out.fr ((((Fr.refl (fun _ => False) _).alloc (.cells #[.int .i64 0, .int .i64 1] 28))).alloc (.cells #[.int .i64 0, .int .i64 2] 28)) (fun _ _ _ h => h)
  have hF2 := (HF.out.alloc (.cells #[.int .i64 0, .int .i64 1] 28)).alloc (.cells #[.int .i64 0, .int .i64 2] 28)
  have HA := Lib.hid hA
  have HB := Lib.hid hB
  have HR2 := Lib.hid hR2
  have HF2 := Lib.hid hF2
  clear hA hB hR2 hF2
  go_wp2_with fail
  rw [← hxa]
  replace hxa := Lib.hid hxa
  refine (row_push_yes HR2.out (0, 2) ⟨rfl, rfl⟩ (by simp) (by omega)).mono ?_
  rintro r w2 ⟨rfl, S2, hR3, hF3, hS3⟩
  have na2 : ¬ S2 xa := fun h => by
    have e1 := hxa.out; have e2 := hz1.out
    rcases hS3 xa h with h | h
    · omega
    · simp at h; omega
  have nb2 : ¬ S2 (xa + 1) := fun h => by
    have e1 := hxa.out; have e2 := hz1.out
    rcases hS3 _ h with h | h
    · omega
    · simp at h; omega
  have hA := HA.out.fr hF3 (fun h => by have e1 := hxa.out; have e2 := hz1.out; omega)
  have hB := HB.out.fr hF3 (fun h => by have e1 := hxa.out; have e2 := hz1.out; omega)
  have F3 := HF2.out.trans' hF3 (fun i hi h => by omega)
  obtain ⟨x0, x1⟩ := id_cells (a := (0, 1)) hA
  obtain ⟨y0, y1⟩ := id_cells (a := (0, 2)) hB
  replace HA := Lib.hid hA
  replace HB := Lib.hid hB
  replace HF := Lib.hid F3
  have HR3 := Lib.hid hR3
  have Na2 := Lib.hid na2
  have Nb2 := Lib.hid nb2
  clear hA hB hF3 hS3 F3 HR2 HF2 hR3 HR na2 nb2
  go_wp2_with fail
  refine (row_push_yes HR3.out (0, 1) ⟨rfl, rfl⟩ (by simp) (by omega)).mono ?_
  rintro r w3 ⟨rfl, S3, hR4, hF4, hS4⟩
  have na3 : ¬ S3 xa := fun h => by
    rcases hS4 xa h with h | h
    · exact Na2.out h
    · have := HA.out.lt; omega
  have nb3 : ¬ S3 (xa + 1) := fun h => by
    rcases hS4 _ h with h | h
    · exact Nb2.out h
    · have := HB.out.lt; omega
  have hA := HA.out.fr hF4 Na2.out
  have hB := HB.out.fr hF4 Nb2.out
  have F4 := HF.out.trans' hF4 (fun i hi h => by have := (HR3.out.2.1 i h).1; omega)
  obtain ⟨x0, x1⟩ := id_cells (a := (0, 1)) hA
  obtain ⟨y0, y1⟩ := id_cells (a := (0, 2)) hB
  replace HA := Lib.hid hA
  replace HB := Lib.hid hB
  replace HF := Lib.hid F4
  have HR4 := Lib.hid hR4
  have Na3 := Lib.hid na3
  have Nb3 := Lib.hid nb3
  clear hA hB hF4 hS4 F4 HR3 hR4 na3 nb3
  go_wp2_with fail
  refine (row_push_no HR4.out (0, 2) ⟨rfl, rfl⟩ (by simp)).mono ?_
  rintro r w4 ⟨rfl, hF5⟩
  have hR5 := HR4.out.fr hF5 (fun _ _ _ h => h)
  have hA := HA.out.fr hF5 (fun h => h)
  have hB := HB.out.fr hF5 (fun h => h)
  have F5 := HF.out.trans hF5
  obtain ⟨x0, x1⟩ := id_cells (a := (0, 1)) hA
  obtain ⟨y0, y1⟩ := id_cells (a := (0, 2)) hB
  replace HA := Lib.hid hA
  replace HB := Lib.hid hB
  replace HF := Lib.hid F5
  replace HR4 := Lib.hid hR5
  clear hA hB hF5 F5 hR5
  go_wp2_with fail
  refine (row_pop_yes (a := (0, 2)) (t := [(0, 1)]) HR4.out (by omega)).mono ?_
  rintro r w5 ⟨rfl, hR6, hF6⟩
  have hA := HA.out.fr hF6 Na3.out
  have hB := HB.out.fr hF6 Nb3.out
  have F6 := HF.out.trans' hF6 (fun i hi h => by have := (HR4.out.2.1 i h).1; omega)
  replace hA := hA.alloc (.cells #[.int .i64 0, .int .i64 2] 28)
  replace hB := hB.alloc (.cells #[.int .i64 0, .int .i64 2] 28)
  have hR7 := hR6.fr ((Fr.refl (fun _ => False) _).alloc (.cells #[.int .i64 0, .int .i64 2] 28)) (fun _ _ _ h => h)
  have F7 := F6.alloc (.cells #[.int .i64 0, .int .i64 2] 28)
  obtain ⟨x0, x1⟩ := id_cells (a := (0, 1)) hA
  obtain ⟨y0, y1⟩ := id_cells (a := (0, 2)) hB
  have he := fun w => eqId 0 2 0 2 w
  simp only [decide_true] at he
  replace HA := Lib.hid hA
  replace HB := Lib.hid hB
  replace HF := Lib.hid F7
  replace HR4 := Lib.hid hR7
  clear hA hB hF6 F6 hR6 F7 hR7
  go_wp2_with fail
  refine (row_len HR4.out (by omega)).mono ?_
  rintro r w6 ⟨rfl, hF7⟩
  replace x0 := hF7.cell x0 (fun h => h)
  replace x1 := hF7.cell x1 (fun h => h)
  replace y0 := hF7.cell y0 (fun h => h)
  replace y1 := hF7.cell y1 (fun h => h)
  replace HF := Lib.hid (HF.out.trans hF7)
  have hR7 := HR4.out.fr hF7 (fun _ _ _ h => h)
  replace HR4 := Lib.hid hR7
  clear hF7 hR7
  go_wp2_with fail
  refine (row_has HR4.out (0, 1) ⟨rfl, rfl⟩).mono ?_
  rintro r w7 ⟨rfl, hF7⟩
  rw [show decide (((0 : Int), (1 : Int)) ∈ [((0 : Int), (1 : Int))]) = true by decide]
  replace x0 := hF7.cell x0 (fun h => h)
  replace x1 := hF7.cell x1 (fun h => h)
  replace y0 := hF7.cell y0 (fun h => h)
  replace y1 := hF7.cell y1 (fun h => h)
  replace HF := Lib.hid (HF.out.trans hF7)
  have hR7 := HR4.out.fr hF7 (fun _ _ _ h => h)
  replace HR4 := Lib.hid hR7
  clear hF7 hR7
  go_wp2_with fail
  refine (row_has HR4.out (0, 2) ⟨rfl, rfl⟩).mono ?_
  rintro r w8 ⟨rfl, hF7⟩
  rw [show decide (((0 : Int), (2 : Int)) ∈ [((0 : Int), (1 : Int))]) = false by decide]
  replace HF := Lib.hid (HF.out.trans hF7)
  clear hF7
  go_wp2_with fail
  go_ret
  exact ⟨rfl, HF.out⟩
def actK : Kd (Bool × (Int × Int)) := Kd.pair Kd.bool idK
theorem acts_at {w : World} {A : Option Addr} {n : Nat} {L : List (Bool × (Int × Int))} (h : actK.C w A n L) {i : Nat} (hi : i < n) :
    ∃ b off p a, ∃ hl : i < L.length, L[i] = (p, a) ∧ A = some ⟨b, off, none⟩ ∧ w.cell? ⟨b, off + i * 3, none⟩ = some (.bool p) ∧ w.cell? ⟨b, off + i * 3 + 1, none⟩ = some (.int .i64 a.1) ∧ w.cell? ⟨b, off + i * 3 + 1 + 1, none⟩ = some (.int .i64 a.2) := by
  obtain ⟨b, off, c, hi', hA, hc, ⟨c0, c1, rfl, h0, h1⟩, hcell⟩ := C_at h (by decide) hi
  rw [show c0 = [.bool L[i].1] from h0, idK_K h1] at hcell
  have hs : actK.sz = 3 := rfl
  rw [hs] at hcell
  exact ⟨b, off, L[i].1, L[i].2, hi', rfl, hA, hcell 0 _ rfl, hcell 1 _ rfl, hcell 2 _ rfl⟩
end Go.Proofs.Ytlpigldogglmcaa
