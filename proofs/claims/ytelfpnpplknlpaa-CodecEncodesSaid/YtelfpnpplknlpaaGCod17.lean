/- Texts of Cod, merged (17 of 27): CodB. -/
import Derived.Test.YtelfpnpplknlpaaGCod14
import Derived.Test.YtelfpnpplknlpaaGCod15
import Derived.Test.YtelfpnpplknlpaaGCod2
import Derived.Test.YtelfpnpplknlpaaGCod16
set_option linter.unusedVariables false
set_option linter.unusedSimpArgs false
/- The reference's bytes of a record. -/
namespace Go.Proofs.Ytelfpnpplknlpaa
open Go.RowKit
open Go.Proofs.YtelfpnpplknlpaaW.PrintWords

theorem OwB.rdb {w : World} {B n c : Nat} {A : Option Addr} {xs : List Int} (h : OwB w B (.slice A n c) xs) : RdB w A xs := by
  obtain ⟨A2, c2, e, hr⟩ := h.reads
  injection e with e _ _
  rw [e]; exact hr
theorem OwB.grown_ {w w' : World} {B : Nat} {v : Value} {xs : List Int} {T : Nat → Prop} (h : OwB w B v xs) (hF : Fr (fun k => some k = v.ownBlock) w w') (hT : ∀ k, B ≤ k → T k) : Fr T w w' :=
  hF.mono (fun i _ h1 => hT i (own_base h i h1.symm))
set_option maxRecDepth 100000 in
set_option maxHeartbeats 8000000 in
theorem ref_bytes11 (r : Rec) (Ad Ab : Option Addr) (cd cb : Nat) (w : World) (h : RecAt w r Ad Ab cd cb) (hg : RecGood r) (h0 : errRec r = 0) :
    Calls Try.prog 15 #[recV r Ad Ab cd cb] w fun e w' => ∃ v, e = .returned v ∧ OwB w' w.heap.size v (encRec r ++ be8 (dOf (encRec r))) ∧ Fr (fun _ => False) w w' := by
  obtain ⟨⟨i1, i2⟩, q, D, B⟩ := r
  obtain ⟨out, hout⟩ : ∃ out, out = encRec ((i1, i2), q, D, B) := ⟨_, rfl⟩
  have HOB := Lib.hid (show Byt out from by rw [hout]; exact encRec_byt h0)
  rw [← hout]
  obtain ⟨z1, z2, z3, z4, z5, z6⟩ := errRec_zero h0
  try simp only at z1 z2 z3 z4 z5 z6
  obtain ⟨a0, a1, a2, a3⟩ := errId_ok z1
  obtain ⟨b1, b2⟩ := errBat_zero z6
  try simp only at a0 a1 a2 a3
  obtain ⟨n1, rfl⟩ := Int.eq_ofNat_of_zero_le a0
  obtain ⟨n2, rfl⟩ := Int.eq_ofNat_of_zero_le (show 0 ≤ i2 from by omega)
  obtain ⟨n3, rfl⟩ := Int.eq_ofNat_of_zero_le (show 0 ≤ q from by omega)
  obtain ⟨nd, hnd⟩ : ∃ nd, nd = D.length := ⟨_, rfl⟩
  obtain ⟨nb, hnb⟩ : ∃ nb, nb = B.length := ⟨_, rfl⟩
  rw [show recV (((n1 : Int), (n2 : Int)), (n3 : Int), D, B) Ad Ab cd cb = .agg #[.int .i64 (n1 : Int), .int .i64 (n2 : Int), .int .i64 (n3 : Int), .slice Ad nd cd, .slice Ab nb cb] by rw [hnd, hnb]]
  have HNN := Lib.hid (show n1 < 8 ∧ n2 ≤ 1048576 ∧ n3 ≤ 1073741824 ∧ nd ≤ 16 ∧ nb ≤ 8 from by omega)
  have HDD := Lib.hid z5
  have HBB := Lib.hid b2
  have HA := Lib.hid h
  have HG := Lib.hid hg
  have HND := Lib.hid hnd
  have HNB := Lib.hid hnb
  have HOUT := Lib.hid hout
  obtain ⟨gx, hgx⟩ : ∃ gx, gx = w.heap.size := ⟨_, rfl⟩
  have hX := Blk.new w 32 #[.int .i64 (n1 : Int), .int .i64 (n2 : Int), .int .i64 (n3 : Int), .slice Ad nd cd, .slice Ab nb cb]
  have hF := (Fr.refl (fun _ => False) w).alloc (.cells #[.int .i64 (n1 : Int), .int .i64 (n2 : Int), .int .i64 (n3 : Int), .slice Ad nd cd, .slice Ab nb cb] 32)
  rw [← hgx] at hX
  have hs1 : gx + 1 = (w.alloc (.cells #[.int .i64 (n1 : Int), .int .i64 (n2 : Int), .int .i64 (n3 : Int), .slice Ad nd cd, .slice Ab nb cb] 32)).heap.size := by rw [hgx]; simp
  obtain ⟨wA, hwA⟩ : ∃ wA, wA = w.alloc (.cells #[.int .i64 (n1 : Int), .int .i64 (n2 : Int), .int .i64 (n3 : Int), .slice Ad nd cd, .slice Ab nb cb] 32) := ⟨_, rfl⟩
  rw [← hwA] at hX hF hs1
  have HX := Lib.hid hX
  have HF := Lib.hid hF
  have HS := Lib.hid hs1
  have HGX := Lib.hid hgx
  obtain ⟨St, hSt⟩ : ∃ St : World → Prop, St = Fr (fun b => gx < b) wA := ⟨_, rfl⟩
  have HT := Lib.hid (show ∀ x, Fr (fun b => gx < b) wA x → At St x from fun x hx => by unfold At; rw [hSt]; exact hx)
  have HTI := Lib.hid (show ∀ x, At St x → Fr (fun b => gx < b) wA x from fun x hx => by have h1 := hx.out; rw [hSt] at h1; exact h1)
  have l0 : ∀ x, At St x → x.cell? ⟨gx, 0, none⟩ = some (.int .i64 (n1 : Int)) := fun x hx => ((HX.out.fr (HTI.out x hx) (Nat.lt_irrefl _)).cell 0)
  have l1 : ∀ x, At St x → x.cell? ⟨gx, 1, none⟩ = some (.int .i64 (n2 : Int)) := fun x hx => ((HX.out.fr (HTI.out x hx) (Nat.lt_irrefl _)).cell 1)
  have l2 : ∀ x, At St x → x.cell? ⟨gx, 2, none⟩ = some (.int .i64 (n3 : Int)) := fun x hx => ((HX.out.fr (HTI.out x hx) (Nat.lt_irrefl _)).cell 2)
  have l3 : ∀ x, At St x → x.cell? ⟨gx, 3, none⟩ = some (.slice Ad nd cd) := fun x hx => ((HX.out.fr (HTI.out x hx) (Nat.lt_irrefl _)).cell 3)
  have l4 : ∀ x, At St x → x.cell? ⟨gx, 4, none⟩ = some (.slice Ab nb cb) := fun x hx => ((HX.out.fr (HTI.out x hx) (Nat.lt_irrefl _)).cell 4)
  have HRA := Lib.hid (show ∀ x, At St x → RecAt x (((n1 : Int), (n2 : Int)), (n3 : Int), D, B) Ad Ab cd cb from fun x hx => HA.out.fr (HF.out.trans' (HTI.out x hx) (fun i hi h1 => by have h2 : gx < i := h1; have := HGX.out; omega)))
  have u1 := u64_of_nat (n := n1) (by omega)
  have u2 := u64_of_nat (n := n2) (by omega)
  have u3 := u64_of_nat (n := n3) (by omega)
  have u4 := u64_of_nat (n := nd) (by omega)
  have u5 := u64_of_nat (n := nb) (by omega)
  have hT0 : At St wA.drew := HT.out _ (Fr.refl _ _).drew
  have hTA : At St wA := HT.out _ (Fr.refl _ _)
  clear h hg h0 hout z1 z2 z3 z4 z5 z6 a0 a1 a2 a3 b1 b2 hnd hnb hX hF hs1 hSt
  go_enter Try.func15, Try.ntmps15
  go_wp2_with fail
  rw [← hwA, ← hgx]
  clear hwA hgx hTA
  refine rt_start [] (At St) 12 (by kernel_rfl) rfl ?_
  refine rt_free 0 (v := ?_) rfl (by kernel_rfl) (by kernel_rfl) (by kernel_rfl) (by kernel_rfl) (fun _ _ _ h => h) (by rfl) (fun _ => by first | assumption | exact HS0 _ rfl | exact HT.out _ (by repeat (first | exact Fr.refl _ _ | apply Fr.drew | refine Fr.alloc ?_ _))) ?_ ?_
  rotate_left 1
  · intro w; go_simp <;> with_reducible rfl
  try simp only [Act.put, List.setIfInBounds_toArray, List.set_cons_zero, List.set_cons_succ]
  refine rt_free 1 (v := ?_) rfl (by kernel_rfl) (by kernel_rfl) (by kernel_rfl) (by kernel_rfl) (fun _ _ _ h => h) (by rfl) (fun _ => by first | assumption | exact HS0 _ rfl | exact HT.out _ (by repeat (first | exact Fr.refl _ _ | apply Fr.drew | refine Fr.alloc ?_ _))) ?_ ?_
  rotate_left 1
  · intro w; go_simp <;> with_reducible rfl
  try simp only [Act.put, List.setIfInBounds_toArray, List.set_cons_zero, List.set_cons_succ]
  refine rt_take 2 (v := ?_) rfl (by kernel_rfl) (by kernel_rfl) (by kernel_rfl) (by kernel_rfl) (fun _ _ _ h => h) (by rfl) (by first | assumption | exact HS0 _ rfl | exact HT.out _ (by repeat (first | exact Fr.refl _ _ | apply Fr.drew | refine Fr.alloc ?_ _))) ?_ ?_
  rotate_left 1
  · intro w hSw; go_simp <;> with_reducible rfl
  try simp only [Act.put, List.setIfInBounds_toArray, List.set_cons_zero, List.set_cons_succ]
  refine rt_free 3 (v := ?_) rfl (by kernel_rfl) (by kernel_rfl) (by kernel_rfl) (by kernel_rfl) (fun _ _ _ h => h) (by rfl) (fun _ => by first | assumption | exact HS0 _ rfl | exact HT.out _ (by repeat (first | exact Fr.refl _ _ | apply Fr.drew | refine Fr.alloc ?_ _))) ?_ ?_
  rotate_left 1
  · intro w; go_simp <;> with_reducible rfl
  try simp only [Act.put, List.setIfInBounds_toArray, List.set_cons_zero, List.set_cons_succ]
  refine rt_free 5 (v := ?_) rfl (by kernel_rfl) (by kernel_rfl) (by kernel_rfl) (by kernel_rfl) (fun _ _ _ h => h) (by rfl) (fun _ => by first | assumption | exact HS0 _ rfl | exact HT.out _ (by repeat (first | exact Fr.refl _ _ | apply Fr.drew | refine Fr.alloc ?_ _))) ?_ ?_
  rotate_left 1
  · intro w; go_simp <;> with_reducible rfl
  try simp only [Act.put, List.setIfInBounds_toArray, List.set_cons_zero, List.set_cons_succ]
  refine rt_free 6 (v := ?_) rfl (by kernel_rfl) (by kernel_rfl) (by kernel_rfl) (by kernel_rfl) (fun _ _ _ h => h) (by rfl) (fun _ => by first | assumption | exact HS0 _ rfl | exact HT.out _ (by repeat (first | exact Fr.refl _ _ | apply Fr.drew | refine Fr.alloc ?_ _))) ?_ ?_
  rotate_left 1
  · intro w; go_simp <;> with_reducible rfl
  try simp only [Act.put, List.setIfInBounds_toArray, List.set_cons_zero, List.set_cons_succ]
  refine rt_take 7 (v := ?_) rfl (by kernel_rfl) (by kernel_rfl) (by kernel_rfl) (by kernel_rfl) (fun _ _ _ h => h) (by rfl) (by first | assumption | exact HS0 _ rfl | exact HT.out _ (by repeat (first | exact Fr.refl _ _ | apply Fr.drew | refine Fr.alloc ?_ _))) ?_ ?_
  rotate_left 1
  · intro w hSw; go_simp <;> with_reducible rfl
  try simp only [Act.put, List.setIfInBounds_toArray, List.set_cons_zero, List.set_cons_succ]
  refine rt_free 8 (v := ?_) rfl (by kernel_rfl) (by kernel_rfl) (by kernel_rfl) (by kernel_rfl) (fun _ _ _ h => h) (by rfl) (fun _ => by first | assumption | exact HS0 _ rfl | exact HT.out _ (by repeat (first | exact Fr.refl _ _ | apply Fr.drew | refine Fr.alloc ?_ _))) ?_ ?_
  rotate_left 1
  · intro w; go_simp <;> with_reducible rfl
  try simp only [Act.put, List.setIfInBounds_toArray, List.set_cons_zero, List.set_cons_succ]
  refine rt_one 4 rfl (by kernel_rfl) (fun K hK => ?_)
  go_simp
  refine (ref_bytes n1 _ (by have := HNN.out; omega)).mono ?_
  rintro r w1 ⟨v1, rfl, ho1, hF1⟩
  obtain ⟨A1, c1, rfl, _⟩ := ho1.reads
  have hG1 := (Fr.refl (fun _ => False) wA).drew.trans hF1
  have hT1 := HT.out _ (hG1.mono (fun _ _ h => h.elim))
  have HO1 := Lib.hid (ho1.lower (B' := gx + 1) (Nat.le_of_eq HS.out))
  clear ho1 hT0
  refine hK.out (At St) _ _ (fun _ h => h) (fun _ => by (assumption)) ?_
  clear hK K
  try simp only [Act.put, List.setIfInBounds_toArray, List.set_cons_zero, List.set_cons_succ]
  refine rt_one 9 rfl (by kernel_rfl) (fun K hK => ?_)
  go_simp
  refine (ref_bytes n2 _ (by have := HNN.out; omega)).mono ?_
  rintro r w2 ⟨v2, rfl, ho2, hF2⟩
  obtain ⟨A2, c2, rfl, hr2⟩ := ho2.reads
  have hG2 := hG1.trans hF2
  have hT2 := HT.out _ (hG2.mono (fun _ _ h => h.elim))
  have HO2 := Lib.hid (HO1.out.fr hF2 (fun _ _ _ h => h))
  have HR2 := Lib.hid hr2
  have HG2 := Lib.hid hG2
  clear ho2 hT1 hr2 hF2 hG1 hF1 HO1
  refine hK.out (At St) _ _ (fun _ h => h) (fun _ => by (assumption)) ?_
  clear hK K
  try simp only [Act.put, List.setIfInBounds_toArray, List.set_cons_zero, List.set_cons_succ]
  refine rt_one 10 rfl (by kernel_rfl) (fun K hK => ?_)
  refine wp_append8 (gx + 1) (by rfl) _ _ rfl (.slice A1 (digs n1).length c1) (digs n1) (digs n2) A2 c2 rfl rfl HO2.out HR2.out (by rw [HS.out]; exact HG2.out.size) (by have h1 := digs_len10 (m := n1) (by have := HNN.out; omega); have h2 := digs_len10 (m := n2) (by have := HNN.out; omega); omega) ?_
  intro v3 w3 ho3 hF3
  have hG3 := (HG2.out.mono (S' := fun b => gx < b) (fun _ _ h => h.elim)).trans (HO2.out.grown_ hF3 (T := fun b => gx < b) (fun k hk => hk))
  have hT3 := HT.out _ hG3
  have HO3 := Lib.hid ho3
  have HG3 := Lib.hid hG3
  clear ho3 hF3 hG3 hT2
  refine hK.out (At St) _ _ (fun _ h => h) (fun _ => by (assumption)) ?_
  clear hK K
  try simp only [Act.put, List.setIfInBounds_toArray, List.set_cons_zero, List.set_cons_succ]
  refine rt_free 11 (v := ?_) rfl (by kernel_rfl) (by kernel_rfl) (by kernel_rfl) (by kernel_rfl) (fun _ _ _ h => h) (by rfl) (fun _ => by first | assumption | exact HS0 _ rfl | exact HT.out _ (by repeat (first | exact Fr.refl _ _ | apply Fr.drew | refine Fr.alloc ?_ _))) ?_ ?_
  rotate_left 1
  · intro w; go_simp <;> with_reducible rfl
  try simp only [Act.put, List.setIfInBounds_toArray, List.set_cons_zero, List.set_cons_succ]
  refine rt_done (by kernel_rfl) ?_
  obtain ⟨A3, c3, rfl, _⟩ := HO3.out.reads
  obtain ⟨p1, hp1⟩ : ∃ p1, p1 = digs n1 ++ digs n2 := ⟨_, rfl⟩
  rw [← hp1] at HO3 ⊢
  have HP1 := Lib.hid hp1
  have HL1 := Lib.hid (show p1.length ≤ 20 from by rw [hp1, List.length_append]; have h1 := digs_len10 (m := n1) (by have := HNN.out; omega); have h2 := digs_len10 (m := n2) (by have := HNN.out; omega); omega)
  clear hp1
  go_wp2_with fail
  refine rt_start [] (At St) 13 (by kernel_rfl) rfl ?_
  have HGd := Lib.hid HG3.out.drew
  have HOd := Lib.hid (HO3.out.fr (Fr.refl (fun _ => False) _).drew (fun _ _ _ h => h))
  have hTd := HT.out _ HGd.out
  clear HG3 HO3
  generalize (World.drew _) = Wd at HGd HOd hTd ⊢
  refine rt_free 0 (v := ?_) rfl (by kernel_rfl) (by kernel_rfl) (by kernel_rfl) (by kernel_rfl) (fun _ _ _ h => h) (by rfl) (fun _ => by first | assumption | exact HS0 _ rfl | exact HT.out _ (by repeat (first | exact Fr.refl _ _ | apply Fr.drew | refine Fr.alloc ?_ _))) ?_ ?_
  rotate_left 1
  · intro w; go_simp <;> with_reducible rfl
  try simp only [Act.put, List.setIfInBounds_toArray, List.set_cons_zero, List.set_cons_succ]
  refine rt_free 1 (v := ?_) rfl (by kernel_rfl) (by kernel_rfl) (by kernel_rfl) (by kernel_rfl) (fun _ _ _ h => h) (by rfl) (fun _ => by first | assumption | exact HS0 _ rfl | exact HT.out _ (by repeat (first | exact Fr.refl _ _ | apply Fr.drew | refine Fr.alloc ?_ _))) ?_ ?_
  rotate_left 1
  · intro w; go_simp <;> with_reducible rfl
  try simp only [Act.put, List.setIfInBounds_toArray, List.set_cons_zero, List.set_cons_succ]
  refine rt_take 2 (v := ?_) rfl (by kernel_rfl) (by kernel_rfl) (by kernel_rfl) (by kernel_rfl) (fun _ _ _ h => h) (by rfl) (by first | assumption | exact HS0 _ rfl | exact HT.out _ (by repeat (first | exact Fr.refl _ _ | apply Fr.drew | refine Fr.alloc ?_ _))) ?_ ?_
  rotate_left 1
  · intro w hSw; go_simp <;> with_reducible rfl
  try simp only [Act.put, List.setIfInBounds_toArray, List.set_cons_zero, List.set_cons_succ]
  refine rt_free 3 (v := ?_) rfl (by kernel_rfl) (by kernel_rfl) (by kernel_rfl) (by kernel_rfl) (fun _ _ _ h => h) (by rfl) (fun _ => by first | assumption | exact HS0 _ rfl | exact HT.out _ (by repeat (first | exact Fr.refl _ _ | apply Fr.drew | refine Fr.alloc ?_ _))) ?_ ?_
  rotate_left 1
  · intro w; go_simp <;> with_reducible rfl
  try simp only [Act.put, List.setIfInBounds_toArray, List.set_cons_zero, List.set_cons_succ]
  refine rt_free 6 (v := ?_) rfl (by kernel_rfl) (by kernel_rfl) (by kernel_rfl) (by kernel_rfl) (fun _ _ _ h => h) (by rfl) (fun _ => by first | assumption | exact HS0 _ rfl | exact HT.out _ (by repeat (first | exact Fr.refl _ _ | apply Fr.drew | refine Fr.alloc ?_ _))) ?_ ?_
  rotate_left 1
  · intro w; go_simp <;> with_reducible rfl
  try simp only [Act.put, List.setIfInBounds_toArray, List.set_cons_zero, List.set_cons_succ]
  refine rt_take 7 (v := ?_) rfl (by kernel_rfl) (by kernel_rfl) (by kernel_rfl) (by kernel_rfl) (fun _ _ _ h => h) (by rfl) (by first | assumption | exact HS0 _ rfl | exact HT.out _ (by repeat (first | exact Fr.refl _ _ | apply Fr.drew | refine Fr.alloc ?_ _))) ?_ ?_
  rotate_left 1
  · intro w hSw; go_simp <;> with_reducible rfl
  try simp only [Act.put, List.setIfInBounds_toArray, List.set_cons_zero, List.set_cons_succ]
  refine rt_free 8 (v := ?_) rfl (by kernel_rfl) (by kernel_rfl) (by kernel_rfl) (by kernel_rfl) (fun _ _ _ h => h) (by rfl) (fun _ => by first | assumption | exact HS0 _ rfl | exact HT.out _ (by repeat (first | exact Fr.refl _ _ | apply Fr.drew | refine Fr.alloc ?_ _))) ?_ ?_
  rotate_left 1
  · intro w; go_simp <;> with_reducible rfl
  try simp only [Act.put, List.setIfInBounds_toArray, List.set_cons_zero, List.set_cons_succ]
  refine rt_free 9 (v := ?_) rfl (by kernel_rfl) (by kernel_rfl) (by kernel_rfl) (by kernel_rfl) (fun _ _ _ h => h) (by rfl) (fun _ => by first | assumption | exact HS0 _ rfl | exact HT.out _ (by repeat (first | exact Fr.refl _ _ | apply Fr.drew | refine Fr.alloc ?_ _))) ?_ ?_
  rotate_left 1
  · intro w; go_simp <;> with_reducible rfl
  try simp only [Act.put, List.setIfInBounds_toArray, List.set_cons_zero, List.set_cons_succ]
  refine rt_one 4 rfl (by kernel_rfl) (fun K hK => ?_)
  go_simp
  refine (ref_bytes n3 _ (by have := HNN.out; omega)).mono ?_
  rintro r w4 ⟨v4, rfl, ho4, hF4⟩
  obtain ⟨A4, c4, rfl, hr4⟩ := ho4.reads
  have HG4 := Lib.hid (HGd.out.trans (hF4.mono (fun _ _ h => h.elim)))
  have hT4 := HT.out _ HG4.out
  have HO4 := Lib.hid (HOd.out.fr hF4 (fun _ _ _ h => h))
  have HR4 := Lib.hid hr4
  clear ho4 hr4 hF4 HOd HGd hTd
  refine hK.out (At St) _ _ (fun _ h => h) (fun _ => by (assumption)) ?_
  clear hK K
  try simp only [Act.put, List.setIfInBounds_toArray, List.set_cons_zero, List.set_cons_succ]
  refine rt_one 5 rfl (by kernel_rfl) (fun K hK => ?_)
  refine wp_append8 (gx + 1) (by rfl) _ _ rfl (.slice A3 p1.length c3) p1 (digs n3) A4 c4 rfl rfl HO4.out HR4.out (by rw [HS.out]; exact HG4.out.size) (by have h1 := HL1.out; have h2 := digs_len10 (m := n3) (by have := HNN.out; omega); omega) ?_
  intro va wa ho hF
  have HG5 := Lib.hid (HG4.out.trans (HO4.out.grown_ hF (T := fun b => gx < b) (fun k hk => hk)))
  have hT5 := HT.out _ HG5.out
  have HLp2 := Lib.hid (show (p1 ++ (digs n3)).length ≤ 30 from by rw [List.length_append]; have h1 := HL1.out; have h2 := digs_len10 (m := n3) (by have := HNN.out; omega); omega)
  obtain ⟨p2, hp2⟩ : ∃ x, x = p1 ++ (digs n3) := ⟨_, rfl⟩
  rw [← hp2] at ho HLp2
  have HEp2 := Lib.hid hp2
  obtain ⟨A5, c5, rfl, _⟩ := ho.reads
  have HO5 := Lib.hid ho
  clear ho hF hp2 hT4 HO4 HG4 HR4
  refine hK.out (At St) _ _ (fun _ h => h) (fun _ => by (assumption)) ?_
  clear hK K
  try simp only [Act.put, List.setIfInBounds_toArray, List.set_cons_zero, List.set_cons_succ]
  refine rt_one 10 rfl (by kernel_rfl) (fun K hK => ?_)
  go_simp
  refine (ref_bytes nd _ (by have := HNN.out; omega)).mono ?_
  rintro r w6 ⟨v6, rfl, ho6, hF6⟩
  obtain ⟨A6, c6, rfl, hr6⟩ := ho6.reads
  have HG6 := Lib.hid (HG5.out.trans (hF6.mono (fun _ _ h => h.elim)))
  have hT6 := HT.out _ HG6.out
  have HO6 := Lib.hid (HO5.out.fr hF6 (fun _ _ _ h => h))
  have HR6 := Lib.hid hr6
  clear ho6 hr6 hF6 HO5 HG5 hT5
  refine hK.out (At St) _ _ (fun _ h => h) (fun _ => by (assumption)) ?_
  clear hK K
  try simp only [Act.put, List.setIfInBounds_toArray, List.set_cons_zero, List.set_cons_succ]
  refine rt_one 11 rfl (by kernel_rfl) (fun K hK => ?_)
  refine wp_append8 (gx + 1) (by rfl) _ _ rfl (.slice A5 p2.length c5) p2 (digs nd) A6 c6 rfl rfl HO6.out HR6.out (by rw [HS.out]; exact HG6.out.size) (by have h1 := HLp2.out; have h2 := digs_len10 (m := nd) (by have := HNN.out; omega); omega) ?_
  intro va wa ho hF
  have HG7 := Lib.hid (HG6.out.trans (HO6.out.grown_ hF (T := fun b => gx < b) (fun k hk => hk)))
  have hT7 := HT.out _ HG7.out
  have HLp3 := Lib.hid (show (p2 ++ (digs nd)).length ≤ 40 from by rw [List.length_append]; have h1 := HLp2.out; have h2 := digs_len10 (m := nd) (by have := HNN.out; omega); omega)
  obtain ⟨p3, hp3⟩ : ∃ x, x = p2 ++ (digs nd) := ⟨_, rfl⟩
  rw [← hp3] at ho HLp3
  have HEp3 := Lib.hid hp3
  obtain ⟨A7, c7, rfl, _⟩ := ho.reads
  have HO7 := Lib.hid ho
  clear ho hF hp3 hT6 HO6 HG6 HR6
  refine hK.out (At St) _ _ (fun _ h => h) (fun _ => by (assumption)) ?_
  clear hK K
  try simp only [Act.put, List.setIfInBounds_toArray, List.set_cons_zero, List.set_cons_succ]
  refine rt_free 12 (v := ?_) rfl (by kernel_rfl) (by kernel_rfl) (by kernel_rfl) (by kernel_rfl) (fun _ _ _ h => h) (by rfl) (fun _ => by first | assumption | exact HS0 _ rfl | exact HT.out _ (by repeat (first | exact Fr.refl _ _ | apply Fr.drew | refine Fr.alloc ?_ _))) ?_ ?_
  rotate_left 1
  · intro w; go_simp <;> with_reducible rfl
  try simp only [Act.put, List.setIfInBounds_toArray, List.set_cons_zero, List.set_cons_succ]
  refine rt_done (by kernel_rfl) ?_
  go_wp2_with fail
  have hndb : (nd : Int) ≤ 16 := by have := HNN.out; omega
  go_loopw [3, 4] (fun v i wr => ∃ (k : Nat) (Ak : Option Addr) (ck : Nat), k ≤ nd ∧ v = .slice Ak (p3 ++ (D.take k).flatMap encId).length ck ∧ i = .int .i64 k ∧ OwB wr (gx + 1) (.slice Ak (p3 ++ (D.take k).flatMap encId).length ck) (p3 ++ (D.take k).flatMap encId) ∧ Fr (fun b => gx < b) wA wr) (fun _ i _ => nd - (intOf i).toNat)
  case atStart =>
    have e0 : p3 ++ (D.take 0).flatMap encId = p3 := by simp
    exact ⟨0, A7, c7, Nat.zero_le _, by rw [e0], rfl, by rw [e0]; exact HO7.out, HG7.out⟩
  case round =>
    obtain ⟨k, Ak, ck, hk, rfl, rfl, hO, hG⟩ := hrel
    have HLq := Lib.hid (show (p3 ++ (D.take k).flatMap encId).length ≤ 400 from by
      have h1 := flat_le (L := D.take k) (f := encId) (n := 20) (fun a ha => encId_len (HDD.out a (List.mem_of_mem_take ha)))
      have h2 : (D.take k).length ≤ k := by rw [List.length_take]; omega
      have := HLp3.out
      rw [List.length_append]
      omega)
    obtain ⟨q, hq⟩ : ∃ q, q = p3 ++ (D.take k).flatMap encId := ⟨_, rfl⟩
    rw [← hq] at hO HLq ⊢
    have HQ := Lib.hid hq
    have HO8 := Lib.hid hO
    have HG8 := Lib.hid hG
    have y3 := l3 wr (HT.out _ hG)
    clear hO hG hq HO7 HG7
    rcases Nat.lt_or_ge k nd with hlt | hge
    · have c0 : ∀ x, At St x → ∃ bd off, Ad = some ⟨bd, off, none⟩ ∧ x.cell? ⟨bd, off + k * 2, none⟩ = some (.int .i64 (ida D k).1) ∧ x.cell? ⟨bd, off + k * 2 + 1, none⟩ = some (.int .i64 (ida D k).2) := fun x hx => ids_at (n := nd) (by rw [HND.out]; exact (HRA.out x hx).deps) hlt
      have hcd : nd ≤ cd := by rw [HND.out]; exact HA.out.ld
      obtain ⟨bd, off, rfl, _⟩ := c0 wr (HT.out _ HG8.out)
      have hid := HDD.out (ida D k) (by rw [ida_eq (by rw [← HND.out]; exact hlt)]; exact List.getElem_mem _)
      obtain ⟨q0, q1, q2, q3⟩ := errId_ok hid
      obtain ⟨u, hu⟩ := Int.eq_ofNat_of_zero_le q0
      obtain ⟨v, hv⟩ := Int.eq_ofNat_of_zero_le (show 0 ≤ (ida D k).2 from by omega)
      have HUV := Lib.hid (show u ≤ 1048576 ∧ v ≤ 1048576 from by omega)
      have v1 := u64_of_nat (n := u) (by omega)
      have v2 := u64_of_nat (n := v) (by omega)
      have HST := Lib.hid (show p3 ++ (D.take (k + 1)).flatMap encId = q ++ digs u ++ digs v from by
        rw [ids_step (by rw [← HND.out]; exact hlt), HQ.out]
        unfold encId
        rw [hu, hv]
        simp [List.append_assoc])
      have d0 : ∀ x, At St x → x.cell? ⟨bd, off + k * 2, none⟩ = some (.int .i64 (u : Int)) := fun x hx => by
        obtain ⟨b', o', e, h1, _⟩ := c0 x hx
        injection e with e; injection e with e1 e2; subst e1 e2; rw [← hu]; exact h1
      have d1 : ∀ x, At St x → x.cell? ⟨bd, off + k * 2 + 1, none⟩ = some (.int .i64 (v : Int)) := fun x hx => by
        obtain ⟨b', o', e, _, h1⟩ := c0 x hx
        injection e with e; injection e with e1 e2; subst e1 e2; rw [← hv]; exact h1
      clear c0 hid q0 q1 q2 q3 hu hv
      go_wp2_with fail
      refine rt_start [] (At St) 20 (by kernel_rfl) rfl ?_
      have HGd := Lib.hid HG8.out.drew
      have HOd := Lib.hid (HO8.out.fr (Fr.refl (fun _ => False) _).drew (fun _ _ _ h => h))
      have hTd := HT.out _ HGd.out
      clear HG8 HO8
      generalize (World.drew _) = Wd at HGd HOd hTd ⊢
      refine rt_free 0 (v := ?_) rfl (by kernel_rfl) (by kernel_rfl) (by kernel_rfl) (by kernel_rfl) (fun _ _ _ h => h) (by rfl) (fun _ => by first | assumption | exact HS0 _ rfl | exact HT.out _ (by repeat (first | exact Fr.refl _ _ | apply Fr.drew | refine Fr.alloc ?_ _))) ?_ ?_
      rotate_left 1
      · intro w; go_simp <;> with_reducible rfl
      try simp only [Act.put, List.setIfInBounds_toArray, List.set_cons_zero, List.set_cons_succ]
      refine rt_free 1 (v := ?_) rfl (by kernel_rfl) (by kernel_rfl) (by kernel_rfl) (by kernel_rfl) (fun _ _ _ h => h) (by rfl) (fun _ => by first | assumption | exact HS0 _ rfl | exact HT.out _ (by repeat (first | exact Fr.refl _ _ | apply Fr.drew | refine Fr.alloc ?_ _))) ?_ ?_
      rotate_left 1
      · intro w; go_simp <;> with_reducible rfl
      try simp only [Act.put, List.setIfInBounds_toArray, List.set_cons_zero, List.set_cons_succ]
      refine rt_take 2 (v := ?_) rfl (by kernel_rfl) (by kernel_rfl) (by kernel_rfl) (by kernel_rfl) (fun _ _ _ h => h) (by rfl) (by first | assumption | exact HS0 _ rfl | exact HT.out _ (by repeat (first | exact Fr.refl _ _ | apply Fr.drew | refine Fr.alloc ?_ _))) ?_ ?_
      rotate_left 1
      · intro w hSw; go_simp <;> with_reducible rfl
      try simp only [Act.put, List.setIfInBounds_toArray, List.set_cons_zero, List.set_cons_succ]
      refine rt_free 3 (v := ?_) rfl (by kernel_rfl) (by kernel_rfl) (by kernel_rfl) (by kernel_rfl) (fun _ _ _ h => h) (by rfl) (fun _ => by first | assumption | exact HS0 _ rfl | exact HT.out _ (by repeat (first | exact Fr.refl _ _ | apply Fr.drew | refine Fr.alloc ?_ _))) ?_ ?_
      rotate_left 1
      · intro w; go_simp <;> with_reducible rfl
      try simp only [Act.put, List.setIfInBounds_toArray, List.set_cons_zero, List.set_cons_succ]
      refine rt_free 4 (v := ?_) rfl (by kernel_rfl) (by kernel_rfl) (by kernel_rfl) (by kernel_rfl) (fun _ _ _ h => h) (by rfl) (fun _ => by first | assumption | exact HS0 _ rfl | exact HT.out _ (by repeat (first | exact Fr.refl _ _ | apply Fr.drew | refine Fr.alloc ?_ _))) ?_ ?_
      rotate_left 1
      · intro w; go_simp <;> with_reducible rfl
      try simp only [Act.put, List.setIfInBounds_toArray, List.set_cons_zero, List.set_cons_succ]
      refine rt_free 5 (v := ?_) rfl (by kernel_rfl) (by kernel_rfl) (by kernel_rfl) (by kernel_rfl) (fun _ _ _ h => h) (by rfl) (fun _ => by first | assumption | exact HS0 _ rfl | exact HT.out _ (by repeat (first | exact Fr.refl _ _ | apply Fr.drew | refine Fr.alloc ?_ _))) ?_ ?_
      rotate_left 1
      · intro w; go_simp <;> with_reducible rfl
      try simp only [Act.put, List.setIfInBounds_toArray, List.set_cons_zero, List.set_cons_succ]
      refine rt_take 6 (v := ?_) rfl (by kernel_rfl) (by kernel_rfl) (by kernel_rfl) (by kernel_rfl) (fun _ _ _ h => h) (by rfl) (by first | assumption | exact HS0 _ rfl | exact HT.out _ (by repeat (first | exact Fr.refl _ _ | apply Fr.drew | refine Fr.alloc ?_ _))) ?_ ?_
      rotate_left 1
      · intro w hSw; go_simp <;> with_reducible rfl
      try simp only [Act.put, List.setIfInBounds_toArray, List.set_cons_zero, List.set_cons_succ]
      refine rt_free 7 (v := ?_) rfl (by kernel_rfl) (by kernel_rfl) (by kernel_rfl) (by kernel_rfl) (fun _ _ _ h => h) (by rfl) (fun _ => by first | assumption | exact HS0 _ rfl | exact HT.out _ (by repeat (first | exact Fr.refl _ _ | apply Fr.drew | refine Fr.alloc ?_ _))) ?_ ?_
      rotate_left 1
      · intro w; go_simp <;> with_reducible rfl
      try simp only [Act.put, List.setIfInBounds_toArray, List.set_cons_zero, List.set_cons_succ]
      refine rt_free 10 (v := ?_) rfl (by kernel_rfl) (by kernel_rfl) (by kernel_rfl) (by kernel_rfl) (fun _ _ _ h => h) (by rfl) (fun _ => by first | assumption | exact HS0 _ rfl | exact HT.out _ (by repeat (first | exact Fr.refl _ _ | apply Fr.drew | refine Fr.alloc ?_ _))) ?_ ?_
      rotate_left 1
      · intro w; go_simp <;> with_reducible rfl
      try simp only [Act.put, List.setIfInBounds_toArray, List.set_cons_zero, List.set_cons_succ]
      refine rt_take 11 (v := ?_) rfl (by kernel_rfl) (by kernel_rfl) (by kernel_rfl) (by kernel_rfl) (fun _ _ _ h => h) (by rfl) (by first | assumption | exact HS0 _ rfl | exact HT.out _ (by repeat (first | exact Fr.refl _ _ | apply Fr.drew | refine Fr.alloc ?_ _))) ?_ ?_
      rotate_left 1
      · intro w hSw; go_simp <;> with_reducible rfl
      try simp only [Act.put, List.setIfInBounds_toArray, List.set_cons_zero, List.set_cons_succ]
      refine rt_free 12 (v := ?_) rfl (by kernel_rfl) (by kernel_rfl) (by kernel_rfl) (by kernel_rfl) (fun _ _ _ h => h) (by rfl) (fun _ => by first | assumption | exact HS0 _ rfl | exact HT.out _ (by repeat (first | exact Fr.refl _ _ | apply Fr.drew | refine Fr.alloc ?_ _))) ?_ ?_
      rotate_left 1
      · intro w; go_simp <;> with_reducible rfl
      try simp only [Act.put, List.setIfInBounds_toArray, List.set_cons_zero, List.set_cons_succ]
      refine rt_free 13 (v := ?_) rfl (by kernel_rfl) (by kernel_rfl) (by kernel_rfl) (by kernel_rfl) (fun _ _ _ h => h) (by rfl) (fun _ => by first | assumption | exact HS0 _ rfl | exact HT.out _ (by repeat (first | exact Fr.refl _ _ | apply Fr.drew | refine Fr.alloc ?_ _))) ?_ ?_
      rotate_left 1
      · intro w; go_simp <;> with_reducible rfl
      try simp only [Act.put, List.setIfInBounds_toArray, List.set_cons_zero, List.set_cons_succ]
      refine rt_free 14 (v := ?_) rfl (by kernel_rfl) (by kernel_rfl) (by kernel_rfl) (by kernel_rfl) (fun _ _ _ h => h) (by rfl) (fun _ => by first | assumption | exact HS0 _ rfl | exact HT.out _ (by repeat (first | exact Fr.refl _ _ | apply Fr.drew | refine Fr.alloc ?_ _))) ?_ ?_
      rotate_left 1
      · intro w; go_simp <;> with_reducible rfl
      try simp only [Act.put, List.setIfInBounds_toArray, List.set_cons_zero, List.set_cons_succ]
      refine rt_take 15 (v := ?_) rfl (by kernel_rfl) (by kernel_rfl) (by kernel_rfl) (by kernel_rfl) (fun _ _ _ h => h) (by rfl) (by first | assumption | exact HS0 _ rfl | exact HT.out _ (by repeat (first | exact Fr.refl _ _ | apply Fr.drew | refine Fr.alloc ?_ _))) ?_ ?_
      rotate_left 1
      · intro w hSw; go_simp <;> with_reducible rfl
      try simp only [Act.put, List.setIfInBounds_toArray, List.set_cons_zero, List.set_cons_succ]
      refine rt_free 16 (v := ?_) rfl (by kernel_rfl) (by kernel_rfl) (by kernel_rfl) (by kernel_rfl) (fun _ _ _ h => h) (by rfl) (fun _ => by first | assumption | exact HS0 _ rfl | exact HT.out _ (by repeat (first | exact Fr.refl _ _ | apply Fr.drew | refine Fr.alloc ?_ _))) ?_ ?_
      rotate_left 1
      · intro w; go_simp <;> with_reducible rfl
      try simp only [Act.put, List.setIfInBounds_toArray, List.set_cons_zero, List.set_cons_succ]
      refine rt_one 8 rfl (by kernel_rfl) (fun K hK => ?_)
      go_simp
      refine (ref_bytes u _ (by have := HUV.out; omega)).mono ?_
      rintro r w9 ⟨v9, rfl, ho9, hF9⟩
      obtain ⟨A9, c9, rfl, hr9⟩ := ho9.reads
      have HG9 := Lib.hid (HGd.out.trans (hF9.mono (fun _ _ h => h.elim)))
      have hT9 := HT.out _ HG9.out
      have HO9 := Lib.hid (HOd.out.fr hF9 (fun _ _ _ h => h))
      have HR9 := Lib.hid hr9
      clear ho9 hr9 hF9 HOd HGd hTd
      refine hK.out (At St) _ _ (fun _ h => h) (fun _ => by (assumption)) ?_
      clear hK K
      try simp only [Act.put, List.setIfInBounds_toArray, List.set_cons_zero, List.set_cons_succ]
      refine rt_one 9 rfl (by kernel_rfl) (fun K hK => ?_)
      refine wp_append8 (gx + 1) (by rfl) _ _ rfl (.slice Ak q.length ck) q (digs u) A9 c9 rfl rfl HO9.out HR9.out (by rw [HS.out]; exact HG9.out.size) (by have h1 := HLq.out; have h2 := digs_len10 (m := u) (by have := HUV.out; omega); omega) ?_
      intro va wa ho hF
      have HG10 := Lib.hid (HG9.out.trans (HO9.out.grown_ hF (T := fun b => gx < b) (fun k hk => hk)))
      have hT10 := HT.out _ HG10.out
      have HLq5 := Lib.hid (show (q ++ (digs u)).length ≤ 410 from by rw [List.length_append]; have h1 := HLq.out; have h2 := digs_len10 (m := u) (by have := HUV.out; omega); omega)
      obtain ⟨q5, hq5⟩ : ∃ x, x = q ++ (digs u) := ⟨_, rfl⟩
      rw [← hq5] at ho HLq5
      have HEq5 := Lib.hid hq5
      obtain ⟨A10, c10, rfl, _⟩ := ho.reads
      have HO10 := Lib.hid ho
      clear ho hF hq5 hT9 HO9 HG9 HR9
      refine hK.out (At St) _ _ (fun _ h => h) (fun _ => by (assumption)) ?_
      clear hK K
      try simp only [Act.put, List.setIfInBounds_toArray, List.set_cons_zero, List.set_cons_succ]
      refine rt_one 17 rfl (by kernel_rfl) (fun K hK => ?_)
      go_simp
      refine (ref_bytes v _ (by have := HUV.out; omega)).mono ?_
      rintro r w11 ⟨v11, rfl, ho11, hF11⟩
      obtain ⟨A11, c11, rfl, hr11⟩ := ho11.reads
      have HG11 := Lib.hid (HG10.out.trans (hF11.mono (fun _ _ h => h.elim)))
      have hT11 := HT.out _ HG11.out
      have HO11 := Lib.hid (HO10.out.fr hF11 (fun _ _ _ h => h))
      have HR11 := Lib.hid hr11
      clear ho11 hr11 hF11 HO10 HG10 hT10
      refine hK.out (At St) _ _ (fun _ h => h) (fun _ => by (assumption)) ?_
      clear hK K
      try simp only [Act.put, List.setIfInBounds_toArray, List.set_cons_zero, List.set_cons_succ]
      refine rt_one 18 rfl (by kernel_rfl) (fun K hK => ?_)
      refine wp_append8 (gx + 1) (by rfl) _ _ rfl (.slice A10 q5.length c10) q5 (digs v) A11 c11 rfl rfl HO11.out HR11.out (by rw [HS.out]; exact HG11.out.size) (by have h1 := HLq5.out; have h2 := digs_len10 (m := v) (by have := HUV.out; omega); omega) ?_
      intro va wa ho hF
      have HG12 := Lib.hid (HG11.out.trans (HO11.out.grown_ hF (T := fun b => gx < b) (fun k hk => hk)))
      have hT12 := HT.out _ HG12.out
      have HLq6 := Lib.hid (show (q5 ++ (digs v)).length ≤ 420 from by rw [List.length_append]; have h1 := HLq5.out; have h2 := digs_len10 (m := v) (by have := HUV.out; omega); omega)
      obtain ⟨q6, hq6⟩ : ∃ x, x = q5 ++ (digs v) := ⟨_, rfl⟩
      rw [← hq6] at ho HLq6
      have HEq6 := Lib.hid hq6
      obtain ⟨A12, c12, rfl, _⟩ := ho.reads
      have HO12 := Lib.hid ho
      clear ho hF hq6 hT11 HO11 HG11 HR11
      refine hK.out (At St) _ _ (fun _ h => h) (fun _ => by (assumption)) ?_
      clear hK K
      try simp only [Act.put, List.setIfInBounds_toArray, List.set_cons_zero, List.set_cons_succ]
      refine rt_free 19 (v := ?_) rfl (by kernel_rfl) (by kernel_rfl) (by kernel_rfl) (by kernel_rfl) (fun _ _ _ h => h) (by rfl) (fun _ => by first | assumption | exact HS0 _ rfl | exact HT.out _ (by repeat (first | exact Fr.refl _ _ | apply Fr.drew | refine Fr.alloc ?_ _))) ?_ ?_
      rotate_left 1
      · intro w; go_simp <;> with_reducible rfl
      try simp only [Act.put, List.setIfInBounds_toArray, List.set_cons_zero, List.set_cons_succ]
      refine rt_done (by kernel_rfl) ?_
      have HEQ := Lib.hid (show q6 = p3 ++ (D.take (k + 1)).flatMap encId from by rw [HST.out, HEq6.out, HEq5.out])
      go_wp2_with fail
      go_roundw
      case rel => exact ⟨k + 1, A12, c12, by omega, by rw [← HEQ.out], by go_num, by rw [← HEQ.out]; exact HO12.out, HG12.out⟩
      case measure => simp [intOf]; omega
    · obtain rfl : nd = k := by omega
      have tnn : decide (nd < nd) = false := decide_eq_false (by omega)
      have y4 := l4 wr (HT.out _ HG8.out)
      have HP4 := Lib.hid (show q = p3 ++ D.flatMap encId from by rw [HQ.out, List.take_of_length_le (by rw [HND.out]; exact Nat.le_refl _)])
      clear hge hk
      go_wp2_with fail
      refine (ref_bytes nb _ (by have := HNN.out; omega)).mono ?_
      rintro r w9 ⟨v9, rfl, ho9, hF9⟩
      obtain ⟨A9, c9, rfl, hr9⟩ := ho9.reads
      have HG9 := Lib.hid (HG8.out.trans (hF9.mono (fun _ _ h => h.elim)))
      have hT9 := HT.out _ HG9.out
      have HO9 := Lib.hid (HO8.out.fr hF9 (fun _ _ _ h => h))
      have HR9 := Lib.hid hr9
      clear ho9 hr9 hF9 HO8 HG8 y3 tnn
      have hl9 : q.length + (digs nb).length ≤ 140737488355328 := by have h1 := HLq.out; have h2 := digs_len10 (m := nb) (by have := HNN.out; omega); omega
      have hb9 : gx + 1 ≤ w9.heap.size := by rw [HS.out]; exact HG9.out.size
      clear hT9
      go_wp2_with (at_builtin; refine append8_mine (gx + 1) rfl _ _ rfl (.slice Ak q.length ck) q (digs nb) A9 c9 rfl rfl HO9.out HR9.out hb9 hl9 ?_; intro va wa ho hF; obtain ⟨p4, hp4⟩ : ∃ x, x = q ++ digs nb := ⟨_, rfl⟩; rw [← hp4] at ho; obtain ⟨A10, c10, rfl, _⟩ := ho.reads; have HG10 := Lib.hid (HG9.out.trans (HO9.out.grown_ hF (T := fun b => gx < b) (fun k hk => hk))); have HO10 := Lib.hid ho; clear ho hF)
      have HEp4 := Lib.hid hp4
      have HLp4 := Lib.hid (show p4.length ≤ 410 from by rw [hp4, List.length_append]; have h1 := HLq.out; have h2 := digs_len10 (m := nb) (by have := HNN.out; omega); omega)
      have hnbb : (nb : Int) ≤ 8 := by have := HNN.out; omega
      clear hp4 hl9 hb9 y4 HO9 HG9 HR9

      go_loopw [3, 5] (fun v i wp => ∃ (k : Nat) (Ak : Option Addr) (ck : Nat), k ≤ nb ∧ v = .slice Ak (p4 ++ (B.take k).flatMap encCmd).length ck ∧ i = .int .i64 k ∧ OwB wp (gx + 1) (.slice Ak (p4 ++ (B.take k).flatMap encCmd).length ck) (p4 ++ (B.take k).flatMap encCmd) ∧ Fr (fun b => gx < b) wA wp) (fun _ i _ => nb - (intOf i).toNat)
      case atStart =>
        have e0 : p4 ++ (B.take 0).flatMap encCmd = p4 := by simp
        exact ⟨0, A10, c10, Nat.zero_le _, by rw [e0, HEp4.out, List.length_append], rfl, by rw [e0]; exact HO10.out, HG10.out⟩
      case round =>
        obtain ⟨wq, rfl⟩ : ∃ x, x = wr := ⟨_, rfl⟩
        obtain ⟨k, Ak, ck, hk, rfl, rfl, hO, hG⟩ := hrel
        have HLm := Lib.hid (show (p4 ++ (B.take k).flatMap encCmd).length ≤ 800 from by
          have h1 := flat_le (L := B.take k) (f := encCmd) (n := 40) (fun a ha => encCmd_len (HBB.out a (List.mem_of_mem_take ha)))
          have h2 : (B.take k).length ≤ k := by rw [List.length_take]; omega
          have := HLp4.out
          rw [List.length_append]
          omega)
        obtain ⟨m, hm⟩ : ∃ m, m = p4 ++ (B.take k).flatMap encCmd := ⟨_, rfl⟩
        rw [← hm] at hO HLm ⊢
        have HM := Lib.hid hm
        have HO8 := Lib.hid hO
        have HG8 := Lib.hid hG
        have y4 := l4 wq (HT.out _ hG)
        clear hO hG hm HO10 HG10
        rcases Nat.lt_or_ge k nb with hlt | hge
        · have c0 : ∀ x, At St x → ∃ bd off, Ab = some ⟨bd, off, none⟩ ∧ x.cell? ⟨bd, off + k * 3, none⟩ = some (.int .i64 (cmx B k).1) ∧ x.cell? ⟨bd, off + k * 3 + 1, none⟩ = some (.string (cmx B k).2.1) ∧ x.cell? ⟨bd, off + k * 3 + 1 + 1, none⟩ = some (.float .f64 (cmx B k).2.2) := fun x hx => cmds_at (n := nb) (by rw [HNB.out]; exact (HRA.out x hx).batch) hlt
          have hcd : nb ≤ cb := by rw [HNB.out]; exact HA.out.lb
          obtain ⟨bd, off, rfl, _⟩ := c0 wq (HT.out _ HG8.out)
          have hx := cmx_mem (L := B) (i := k) (by rw [← HNB.out]; exact hlt)
          have hok := HBB.out _ hx
          have hgd := HG.out _ hx
          obtain ⟨x, hxx⟩ : ∃ x, x = cmx B k := ⟨_, rfl⟩
          have HSTP := Lib.hid (show p4 ++ (B.take (k + 1)).flatMap encCmd = m ++ encCmd x from by rw [cmds_step (by rw [← HNB.out]; exact hlt), HM.out, List.append_assoc, hxx])
          simp only [← hxx] at c0 hok hgd
          obtain ⟨kk, ss, vv⟩ := x
          have hk0 : 0 ≤ kk := by rcases hok.1 with h | h | h | h <;> (simp only at h; omega)
          obtain ⟨u, rfl⟩ := Int.eq_ofNat_of_zero_le hk0
          have HU := Lib.hid (show u ≤ 4 ∧ ss.size ≤ 12 ∧ vv < 18446744073709551616 from ⟨by rcases hok.1 with h | h | h | h <;> (simp only at h; omega), hok.2.1.2.2, hgd.2⟩)
          have v1 := u64_of_nat (n := u) (by have := HU.out; omega)
          have d0 : ∀ x, At St x → x.cell? ⟨bd, off + k * 3, none⟩ = some (.int .i64 (u : Int)) := fun x hx => by
            obtain ⟨b', o', e, h1, _⟩ := c0 x hx
            injection e with e; injection e with e1 e2; subst e1 e2; exact h1
          have d1 : ∀ x, At St x → x.cell? ⟨bd, off + k * 3 + 1, none⟩ = some (.string ss) := fun x hx => by
            obtain ⟨b', o', e, _, h1, _⟩ := c0 x hx
            injection e with e; injection e with e1 e2; subst e1 e2; exact h1
          have d2 : ∀ x, At St x → x.cell? ⟨bd, off + k * 3 + 1 + 1, none⟩ = some (.float .f64 vv) := fun x hx => by
            obtain ⟨b', o', e, _, _, h1⟩ := c0 x hx
            injection e with e; injection e with e1 e2; subst e1 e2; exact h1
          clear c0 hx hok hgd hxx hk0
          go_wp2_with fail
          refine rt_start [] (At St) 19 (by kernel_rfl) rfl ?_
          have HGd := Lib.hid HG8.out.drew
          have HOd := Lib.hid (HO8.out.fr (Fr.refl (fun _ => False) _).drew (fun _ _ _ h => h))
          have hTd := HT.out _ HGd.out
          clear HG8 HO8
          generalize (World.drew _) = Wd at HGd HOd hTd ⊢
          refine rt_free 0 (v := ?_) rfl (by kernel_rfl) (by kernel_rfl) (by kernel_rfl) (by kernel_rfl) (fun _ _ _ h => h) (by rfl) (fun _ => by first | assumption | exact HS0 _ rfl | exact HT.out _ (by repeat (first | exact Fr.refl _ _ | apply Fr.drew | refine Fr.alloc ?_ _))) ?_ ?_
          rotate_left 1
          · intro w; go_simp <;> with_reducible rfl
          try simp only [Act.put, List.setIfInBounds_toArray, List.set_cons_zero, List.set_cons_succ]
          refine rt_free 1 (v := ?_) rfl (by kernel_rfl) (by kernel_rfl) (by kernel_rfl) (by kernel_rfl) (fun _ _ _ h => h) (by rfl) (fun _ => by first | assumption | exact HS0 _ rfl | exact HT.out _ (by repeat (first | exact Fr.refl _ _ | apply Fr.drew | refine Fr.alloc ?_ _))) ?_ ?_
          rotate_left 1
          · intro w; go_simp <;> with_reducible rfl
          try simp only [Act.put, List.setIfInBounds_toArray, List.set_cons_zero, List.set_cons_succ]
          refine rt_take 2 (v := ?_) rfl (by kernel_rfl) (by kernel_rfl) (by kernel_rfl) (by kernel_rfl) (fun _ _ _ h => h) (by rfl) (by first | assumption | exact HS0 _ rfl | exact HT.out _ (by repeat (first | exact Fr.refl _ _ | apply Fr.drew | refine Fr.alloc ?_ _))) ?_ ?_
          rotate_left 1
          · intro w hSw; go_simp <;> with_reducible rfl
          try simp only [Act.put, List.setIfInBounds_toArray, List.set_cons_zero, List.set_cons_succ]
          refine rt_free 3 (v := ?_) rfl (by kernel_rfl) (by kernel_rfl) (by kernel_rfl) (by kernel_rfl) (fun _ _ _ h => h) (by rfl) (fun _ => by first | assumption | exact HS0 _ rfl | exact HT.out _ (by repeat (first | exact Fr.refl _ _ | apply Fr.drew | refine Fr.alloc ?_ _))) ?_ ?_
          rotate_left 1
          · intro w; go_simp <;> with_reducible rfl
          try simp only [Act.put, List.setIfInBounds_toArray, List.set_cons_zero, List.set_cons_succ]
          refine rt_free 4 (v := ?_) rfl (by kernel_rfl) (by kernel_rfl) (by kernel_rfl) (by kernel_rfl) (fun _ _ _ h => h) (by rfl) (fun _ => by first | assumption | exact HS0 _ rfl | exact HT.out _ (by repeat (first | exact Fr.refl _ _ | apply Fr.drew | refine Fr.alloc ?_ _))) ?_ ?_
          rotate_left 1
          · intro w; go_simp <;> with_reducible rfl
          try simp only [Act.put, List.setIfInBounds_toArray, List.set_cons_zero, List.set_cons_succ]
          refine rt_free 5 (v := ?_) rfl (by kernel_rfl) (by kernel_rfl) (by kernel_rfl) (by kernel_rfl) (fun _ _ _ h => h) (by rfl) (fun _ => by first | assumption | exact HS0 _ rfl | exact HT.out _ (by repeat (first | exact Fr.refl _ _ | apply Fr.drew | refine Fr.alloc ?_ _))) ?_ ?_
          rotate_left 1
          · intro w; go_simp <;> with_reducible rfl
          try simp only [Act.put, List.setIfInBounds_toArray, List.set_cons_zero, List.set_cons_succ]
          refine rt_take 6 (v := ?_) rfl (by kernel_rfl) (by kernel_rfl) (by kernel_rfl) (by kernel_rfl) (fun _ _ _ h => h) (by rfl) (by first | assumption | exact HS0 _ rfl | exact HT.out _ (by repeat (first | exact Fr.refl _ _ | apply Fr.drew | refine Fr.alloc ?_ _))) ?_ ?_
          rotate_left 1
          · intro w hSw; go_simp <;> with_reducible rfl
          try simp only [Act.put, List.setIfInBounds_toArray, List.set_cons_zero, List.set_cons_succ]
          refine rt_free 7 (v := ?_) rfl (by kernel_rfl) (by kernel_rfl) (by kernel_rfl) (by kernel_rfl) (fun _ _ _ h => h) (by rfl) (fun _ => by first | assumption | exact HS0 _ rfl | exact HT.out _ (by repeat (first | exact Fr.refl _ _ | apply Fr.drew | refine Fr.alloc ?_ _))) ?_ ?_
          rotate_left 1
          · intro w; go_simp <;> with_reducible rfl
          try simp only [Act.put, List.setIfInBounds_toArray, List.set_cons_zero, List.set_cons_succ]
          refine rt_free 10 (v := ?_) rfl (by kernel_rfl) (by kernel_rfl) (by kernel_rfl) (by kernel_rfl) (fun _ _ _ h => h) (by rfl) (fun _ => by first | assumption | exact HS0 _ rfl | exact HT.out _ (by repeat (first | exact Fr.refl _ _ | apply Fr.drew | refine Fr.alloc ?_ _))) ?_ ?_
          rotate_left 1
          · intro w; go_simp <;> with_reducible rfl
          try simp only [Act.put, List.setIfInBounds_toArray, List.set_cons_zero, List.set_cons_succ]
          refine rt_take 11 (v := ?_) rfl (by kernel_rfl) (by kernel_rfl) (by kernel_rfl) (by kernel_rfl) (fun _ _ _ h => h) (by rfl) (by first | assumption | exact HS0 _ rfl | exact HT.out _ (by repeat (first | exact Fr.refl _ _ | apply Fr.drew | refine Fr.alloc ?_ _))) ?_ ?_
          rotate_left 1
          · intro w hSw; go_simp <;> with_reducible rfl
          try simp only [Act.put, List.setIfInBounds_toArray, List.set_cons_zero, List.set_cons_succ]
          refine rt_free 12 (v := ?_) rfl (by kernel_rfl) (by kernel_rfl) (by kernel_rfl) (by kernel_rfl) (fun _ _ _ h => h) (by rfl) (fun _ => by first | assumption | exact HS0 _ rfl | exact HT.out _ (by repeat (first | exact Fr.refl _ _ | apply Fr.drew | refine Fr.alloc ?_ _))) ?_ ?_
          rotate_left 1
          · intro w; go_simp <;> with_reducible rfl
          try simp only [Act.put, List.setIfInBounds_toArray, List.set_cons_zero, List.set_cons_succ]
          refine rt_free 13 (v := ?_) rfl (by kernel_rfl) (by kernel_rfl) (by kernel_rfl) (by kernel_rfl) (fun _ _ _ h => h) (by rfl) (fun _ => by first | assumption | exact HS0 _ rfl | exact HT.out _ (by repeat (first | exact Fr.refl _ _ | apply Fr.drew | refine Fr.alloc ?_ _))) ?_ ?_
          rotate_left 1
          · intro w; go_simp <;> with_reducible rfl
          try simp only [Act.put, List.setIfInBounds_toArray, List.set_cons_zero, List.set_cons_succ]
          refine rt_free 14 (v := ?_) rfl (by kernel_rfl) (by kernel_rfl) (by kernel_rfl) (by kernel_rfl) (fun _ _ _ h => h) (by rfl) (fun _ => by first | assumption | exact HS0 _ rfl | exact HT.out _ (by repeat (first | exact Fr.refl _ _ | apply Fr.drew | refine Fr.alloc ?_ _))) ?_ ?_
          rotate_left 1
          · intro w; go_simp <;> with_reducible rfl
          try simp only [Act.put, List.setIfInBounds_toArray, List.set_cons_zero, List.set_cons_succ]
          refine rt_take 15 (v := ?_) rfl (by kernel_rfl) (by kernel_rfl) (by kernel_rfl) (by kernel_rfl) (fun _ _ _ h => h) (by rfl) (by first | assumption | exact HS0 _ rfl | exact HT.out _ (by repeat (first | exact Fr.refl _ _ | apply Fr.drew | refine Fr.alloc ?_ _))) ?_ ?_
          rotate_left 1
          · intro w hSw; go_simp <;> with_reducible rfl
          try simp only [Act.put, List.setIfInBounds_toArray, List.set_cons_zero, List.set_cons_succ]
          refine rt_one 8 rfl (by kernel_rfl) (fun K hK => ?_)
          go_simp
          refine (ref_bytes u _ (by have := HU.out; omega)).mono ?_
          rintro r w9 ⟨v9, rfl, ho9, hF9⟩
          obtain ⟨A9, c9, rfl, hr9⟩ := ho9.reads
          have HG9 := Lib.hid (HGd.out.trans (hF9.mono (fun _ _ h => h.elim)))
          have hT9 := HT.out _ HG9.out
          have HO9 := Lib.hid (HOd.out.fr hF9 (fun _ _ _ h => h))
          have HR9 := Lib.hid hr9
          clear ho9 hr9 hF9 HOd HGd hTd
          refine hK.out (At St) _ _ (fun _ h => h) (fun _ => by (assumption)) ?_
          clear hK K
          try simp only [Act.put, List.setIfInBounds_toArray, List.set_cons_zero, List.set_cons_succ]
          refine rt_one 9 rfl (by kernel_rfl) (fun K hK => ?_)
          refine wp_append8 (gx + 1) (by rfl) _ _ rfl (.slice Ak m.length ck) m (digs u) A9 c9 rfl rfl HO9.out HR9.out (by rw [HS.out]; exact HG9.out.size) (by have h1 := HLm.out; have h2 := digs_len10 (m := u) (by have := HU.out; omega); omega) ?_
          intro va wa ho hF
          have HG11 := Lib.hid (HG9.out.trans (HO9.out.grown_ hF (T := fun b => gx < b) (fun k hk => hk)))
          have hT11 := HT.out _ HG11.out
          have HLm1 := Lib.hid (show (m ++ (digs u)).length ≤ 810 from by rw [List.length_append]; have h1 := HLm.out; have h2 := digs_len10 (m := u) (by have := HU.out; omega); omega)
          obtain ⟨m1, hm1⟩ : ∃ x, x = m ++ (digs u) := ⟨_, rfl⟩
          rw [← hm1] at ho HLm1
          have HEm1 := Lib.hid hm1
          obtain ⟨A11, c11, rfl, _⟩ := ho.reads
          have HO11 := Lib.hid ho
          clear ho hF hm1 hT9 HO9 HG9 HR9
          refine hK.out (At St) _ _ (fun _ h => h) (fun _ => by (assumption)) ?_
          clear hK K
          try simp only [Act.put, List.setIfInBounds_toArray, List.set_cons_zero, List.set_cons_succ]
          refine rt_one 16 rfl (by kernel_rfl) (fun K hK => ?_)
          go_simp
          refine (ref_text ss _ (by have := HU.out; omega)).mono ?_
          rintro r w12 ⟨v12, rfl, ho12, hF12⟩
          obtain ⟨A12, c12, rfl, hr12⟩ := ho12.reads
          have HG12 := Lib.hid (HG11.out.trans (hF12.mono (fun _ _ h => h.elim)))
          have hT12 := HT.out _ HG12.out
          have HO12 := Lib.hid (HO11.out.fr hF12 (fun _ _ _ h => h))
          have HR12 := Lib.hid hr12
          clear ho12 hr12 hF12 HO11 HG11 hT11
          refine hK.out (At St) _ _ (fun _ h => h) (fun _ => by (assumption)) ?_
          clear hK K
          try simp only [Act.put, List.setIfInBounds_toArray, List.set_cons_zero, List.set_cons_succ]
          refine rt_one 17 rfl (by kernel_rfl) (fun K hK => ?_)
          refine wp_append8 (gx + 1) (by rfl) _ _ rfl (.slice A11 m1.length c11) m1 (digs ss.size ++ bytesOf ss) A12 c12 rfl rfl HO12.out HR12.out (by rw [HS.out]; exact HG12.out.size) (by have h1 := HLm1.out; have h2 := digs_len10 (m := ss.size) (by have := HU.out; omega); have h3 := bytesOf_length ss; have h4 := HU.out; have h5 : (digs ss.size ++ bytesOf ss).length ≤ 22 := (by rw [List.length_append]; omega); omega) ?_
          intro va wa ho hF
          have HG13 := Lib.hid (HG12.out.trans (HO12.out.grown_ hF (T := fun b => gx < b) (fun k hk => hk)))
          have hT13 := HT.out _ HG13.out
          have HLm2 := Lib.hid (show (m1 ++ (digs ss.size ++ bytesOf ss)).length ≤ 840 from by rw [List.length_append]; have h1 := HLm1.out; have h2 := digs_len10 (m := ss.size) (by have := HU.out; omega); have h3 := bytesOf_length ss; have h4 := HU.out; have h5 : (digs ss.size ++ bytesOf ss).length ≤ 22 := (by rw [List.length_append]; omega); omega)
          obtain ⟨m2, hm2⟩ : ∃ x, x = m1 ++ (digs ss.size ++ bytesOf ss) := ⟨_, rfl⟩
          rw [← hm2] at ho HLm2
          have HEm2 := Lib.hid hm2
          obtain ⟨A13, c13, rfl, _⟩ := ho.reads
          have HO13 := Lib.hid ho
          clear ho hF hm2 hT12 HO12 HG12 HR12
          refine hK.out (At St) _ _ (fun _ h => h) (fun _ => by (assumption)) ?_
          clear hK K
          try simp only [Act.put, List.setIfInBounds_toArray, List.set_cons_zero, List.set_cons_succ]
          refine rt_free 18 (v := ?_) rfl (by kernel_rfl) (by kernel_rfl) (by kernel_rfl) (by kernel_rfl) (fun _ _ _ h => h) (by rfl) (fun _ => by first | assumption | exact HS0 _ rfl | exact HT.out _ (by repeat (first | exact Fr.refl _ _ | apply Fr.drew | refine Fr.alloc ?_ _))) ?_ ?_
          rotate_left 1
          · intro w; go_simp <;> with_reducible rfl
          try simp only [Act.put, List.setIfInBounds_toArray, List.set_cons_zero, List.set_cons_succ]
          refine rt_done (by kernel_rfl) ?_
          have e4 := l4 _ hT13
          have f0 := d0 _ hT13
          have f2 := d2 _ hT13
          have hv : hasV u = (((u : Int) == 2) || ((u : Int) == 4)) := by
            unfold hasV
            have e1 : ((u : Int) == 2) = (u == 2) := by rw [Bool.eq_iff_iff]; simp; omega
            have e2 : ((u : Int) == 4) = (u == 4) := by rw [Bool.eq_iff_iff]; simp; omega
            rw [e1, e2]
          obtain ⟨t1, ht1⟩ : ∃ t, ((u : Int) == 2) = t := ⟨_, rfl⟩
          obtain ⟨t2, ht2⟩ : ∃ t, ((u : Int) == 4) = t := ⟨_, rfl⟩
          rw [ht1, ht2] at hv
          have HH := Lib.hid hv
          clear hv hT13
          cases t1 with
          | true =>
            have HEQ := Lib.hid (show m2 ++ be8 (canonP vv) = p4 ++ (B.take (k + 1)).flatMap encCmd from by rw [HSTP.out, HEm2.out, HEm1.out]; unfold encCmd; simp only [Int.toNat_natCast, HH.out]; simp)
            go_wp2_with fail
            refine (ref_bits11 vv (by have := HU.out; omega) _).mono ?_
            rintro r wb ⟨rfl, rfl⟩
            go_wp2_with fail
            refine (ref_big (canonP vv) _ (canon_lt (by have := HU.out; omega))).mono ?_
            rintro r w14 ⟨v14, rfl, ho14, hF14⟩
            obtain ⟨A14, c14, rfl, hr14⟩ := ho14.reads
            have HG14 := Lib.hid (HG13.out.trans (hF14.mono (fun _ _ h => h.elim)))
            have hT14 := HT.out _ HG14.out
            have HO14 := Lib.hid (HO13.out.fr hF14 (fun _ _ _ h => h))
            have HR14 := Lib.hid hr14
            clear ho14 hr14 hF14 HO13 HG13 e4 f0 f2

            have hl9 : m2.length + (be8 (canonP vv)).length ≤ 140737488355328 := by have h1 := HLm2.out; have h2 : (be8 (canonP vv)).length = 8 := rfl; omega
            have hb9 : gx + 1 ≤ w14.heap.size := by rw [HS.out]; exact HG14.out.size
            clear hT14
            go_wp2_with (at_builtin; refine append8_mine (gx + 1) rfl _ _ rfl (.slice A13 m2.length c13) m2 (be8 (canonP vv)) A14 c14 rfl rfl HO14.out HR14.out hb9 hl9 ?_; intro va wa ho hF; obtain ⟨m3, hm3⟩ : ∃ x, x = m2 ++ be8 (canonP vv) := ⟨_, rfl⟩; rw [← hm3] at ho HEQ; have HEm3 := Lib.hid (show m3.length = m2.length + (be8 (canonP vv)).length from by rw [hm3, List.length_append]); obtain ⟨A15, c15, rfl, _⟩ := ho.reads; have HG15 := Lib.hid (HG14.out.trans (HO14.out.grown_ hF (T := fun b => gx < b) (fun k hk => hk))); have HO15 := Lib.hid ho; clear ho hF)
            go_roundw
            case rel => exact ⟨k + 1, A15, c15, by omega, by rw [← HEQ.out, HEm3.out], by go_num, by rw [← HEQ.out]; exact HO15.out, HG15.out⟩
            case measure => simp [intOf]; omega

          | false =>
            cases t2 with
            | true =>
              have HEQ := Lib.hid (show m2 ++ be8 (canonP vv) = p4 ++ (B.take (k + 1)).flatMap encCmd from by rw [HSTP.out, HEm2.out, HEm1.out]; unfold encCmd; simp only [Int.toNat_natCast, HH.out]; simp)
              go_wp2_with fail
              refine (ref_bits11 vv (by have := HU.out; omega) _).mono ?_
              rintro r wb ⟨rfl, rfl⟩
              go_wp2_with fail
              refine (ref_big (canonP vv) _ (canon_lt (by have := HU.out; omega))).mono ?_
              rintro r w14 ⟨v14, rfl, ho14, hF14⟩
              obtain ⟨A14, c14, rfl, hr14⟩ := ho14.reads
              have HG14 := Lib.hid (HG13.out.trans (hF14.mono (fun _ _ h => h.elim)))
              have hT14 := HT.out _ HG14.out
              have HO14 := Lib.hid (HO13.out.fr hF14 (fun _ _ _ h => h))
              have HR14 := Lib.hid hr14
              clear ho14 hr14 hF14 HO13 HG13 e4 f0 f2

              have hl9 : m2.length + (be8 (canonP vv)).length ≤ 140737488355328 := by have h1 := HLm2.out; have h2 : (be8 (canonP vv)).length = 8 := rfl; omega
              have hb9 : gx + 1 ≤ w14.heap.size := by rw [HS.out]; exact HG14.out.size
              clear hT14
              go_wp2_with (at_builtin; refine append8_mine (gx + 1) rfl _ _ rfl (.slice A13 m2.length c13) m2 (be8 (canonP vv)) A14 c14 rfl rfl HO14.out HR14.out hb9 hl9 ?_; intro va wa ho hF; obtain ⟨m3, hm3⟩ : ∃ x, x = m2 ++ be8 (canonP vv) := ⟨_, rfl⟩; rw [← hm3] at ho HEQ; have HEm3 := Lib.hid (show m3.length = m2.length + (be8 (canonP vv)).length from by rw [hm3, List.length_append]); obtain ⟨A15, c15, rfl, _⟩ := ho.reads; have HG15 := Lib.hid (HG14.out.trans (HO14.out.grown_ hF (T := fun b => gx < b) (fun k hk => hk))); have HO15 := Lib.hid ho; clear ho hF)
              go_roundw
              case rel => exact ⟨k + 1, A15, c15, by omega, by rw [← HEQ.out, HEm3.out], by go_num, by rw [← HEQ.out]; exact HO15.out, HG15.out⟩
              case measure => simp [intOf]; omega

            | false =>
              have HEQ := Lib.hid (show m2 = p4 ++ (B.take (k + 1)).flatMap encCmd from by rw [HSTP.out, HEm2.out, HEm1.out]; unfold encCmd; simp only [Int.toNat_natCast, HH.out]; simp)
              go_wp2_with fail
              go_roundw
              case rel => exact ⟨k + 1, A13, c13, by omega, by rw [← HEQ.out], by go_num, by rw [← HEQ.out]; exact HO13.out, HG13.out⟩
              case measure => simp [intOf]; omega
        · obtain rfl : nb = k := by omega
          have tnn : decide (nb < nb) = false := decide_eq_false (by omega)
          have HMO := Lib.hid (show m = out from by
            rw [HM.out, List.take_of_length_le (by rw [HNB.out]; exact Nat.le_refl _), HEp4.out, HP4.out, HEp3.out, HEp2.out, HP1.out, HOUT.out, HND.out, HNB.out]
            unfold encRec
            simp [List.append_assoc])
          clear hge hk
          go_wp2_with fail
          refine (ref_of Ak m ck _ HO8.out.rdb (by rw [HMO.out]; exact HOB.out) (by have := HLm.out; omega)).mono ?_
          rintro r wb ⟨rfl, rfl⟩
          go_wp2_with fail
          refine (ref_big (dOf m) _ (dOf_lt m)).mono ?_
          rintro r w9 ⟨v9, rfl, ho9, hF9⟩
          obtain ⟨A9, c9, rfl, hr9⟩ := ho9.reads
          have HG9 := Lib.hid (HG8.out.trans (hF9.mono (fun _ _ h => h.elim)))
          have hT9 := HT.out _ HG9.out
          have HO9 := Lib.hid (HO8.out.fr hF9 (fun _ _ _ h => h))
          have HR9 := Lib.hid hr9
          clear ho9 hr9 hF9 HO8 HG8 y4 tnn

          have hl9 : m.length + (be8 (dOf m)).length ≤ 140737488355328 := by have h1 := HLm.out; have h2 : (be8 (dOf m)).length = 8 := rfl; omega
          have hb9 : gx + 1 ≤ w9.heap.size := by rw [HS.out]; exact HG9.out.size
          clear hT9
          go_wp2_with (at_builtin; refine append8_mine (gx + 1) rfl _ _ rfl (.slice Ak m.length ck) m (be8 (dOf m)) A9 c9 rfl rfl HO9.out HR9.out hb9 hl9 ?_; intro va wa ho hF; have HG10 := Lib.hid (HG9.out.trans (HO9.out.grown_ hF (T := fun b => gx < b) (fun k hk => hk))); have HO10 := Lib.hid ho; clear ho hF)
          go_ret
          exact ⟨_, rfl, by rw [← HMO.out]; exact HO10.out.lower (by rw [← HGX.out]; exact Nat.le_succ _), HF.out.trans' HG10.out (fun i hi h => by have h1 : gx < i := h; have := HGX.out; omega)⟩
end Go.Proofs.Ytelfpnpplknlpaa
