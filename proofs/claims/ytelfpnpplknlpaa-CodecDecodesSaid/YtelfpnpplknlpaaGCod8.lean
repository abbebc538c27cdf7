/- Texts of Cod, merged (8 of 27): RecP, RecQ, WireL. -/
import Derived.Test.YtelfpnpplknlpaaGCod5
import Derived.Test.YtelfpnpplknlpaaGCod6
import Derived.Test.YtelfpnpplknlpaaGCod7
import Derived.Test.YtelfpnpplknlpaaGCod2
import Derived.Deep.RegionWith
set_option linter.unusedVariables false
set_option linter.unusedSimpArgs false
/- Records: what is wrong first, by the program. -/
namespace Go.Proofs.Ytelfpnpplknlpaa
open Go.RowKit
open Go.Proofs.YtelfpnpplknlpaaW.PrintWords

/-- The first that is not 0, of m from the k-th on. -/
def fnz (f : Nat → Int) : Nat → Nat → Int
  | 0, _ => 0
  | m + 1, k => if f k = 0 then fnz f m (k + 1) else f k
theorem fnz_zero (f : Nat → Int) : ∀ m k, (∀ j, k ≤ j → j < k + m → f j = 0) → fnz f m k = 0
  | 0, _, _ => rfl
  | m + 1, k, h => by
    rw [fnz, if_pos (h k (Nat.le_refl _) (by omega))]
    exact fnz_zero f m (k + 1) fun j h1 h2 => h j (by omega) (by omega)
theorem fnz_at (f : Nat → Int) : ∀ m k i, k ≤ i → i < k + m → (∀ j, k ≤ j → j < i → f j = 0) → f i ≠ 0 → fnz f m k = f i
  | 0, _, _, h1, h2, _, _ => by omega
  | m + 1, k, i, h1, h2, h3, h4 => by
    rw [fnz]
    rcases Nat.lt_or_ge k i with h | h
    · rw [if_pos (h3 k (Nat.le_refl _) h)]
      exact fnz_at f m (k + 1) i h (by omega) (fun j a b => h3 j (by omega) b) h4
    · obtain rfl : k = i := by omega
      rw [if_neg h4]
def errOwn (a : Int × Int) (q : Int) : Int := if errId a = 0 then (if q < 1 ∨ 1073741824 < q then 9 else 0) else errId a
def errDep (a : Int × Int) (D : List (Int × Int)) (k : Nat) : Int :=
  if errId (ida D k) = 0 then (if ida D k = a then 6 else if 0 < k ∧ idLess (ida D (k - 1)) (ida D k) = false then 11 else 0) else errId (ida D k)
def errDeps (a : Int × Int) (D : List (Int × Int)) : Int := if 16 < D.length then 10 else fnz (errDep a D) D.length 0
noncomputable def errRec (r : Rec) : Int := if errOwn r.1 r.2.1 = 0 then (if errDeps r.1 r.2.2.1 = 0 then errBat r.2.2.2 else errDeps r.1 r.2.2.1) else errOwn r.1 r.2.1
theorem wrap_in (j : Int) (h0 : -9223372036854775808 ≤ j) (h1 : j ≤ 9223372036854775807) : IntKind.i64.wrap j = j := by
  simp only [IntKind.wrap, IntKind.signed, IntKind.bits]
  first | omega | go_num
theorem idCmp_less (a b : Int × Int) : decide (0 ≤ idCmp a b) = !idLess a b := by
  unfold idCmp
  by_cases h : a = b
  · subst h
    rw [if_pos rfl, show idLess a a = false from by unfold idLess; rw [if_pos rfl]; exact decide_eq_false (by omega)]
    rfl
  · rw [if_neg h]
    cases idLess a b <;> rfl
theorem errId_pos (a : Int × Int) : errId a = 0 ∨ errId a = 7 ∨ errId a = 8 := by
  unfold errId
  split
  · exact .inr (.inl rfl)
  · split
    · exact .inr (.inr rfl)
    · exact .inl rfl
abbrev lookV (i1 i2 q : Int) (Ad Ab : Option Addr) (nd nb cd cb : Nat) : Value := .agg #[.int .i64 i1, .int .i64 i2, .int .i64 q, .slice Ad nd cd, .slice Ab nb cb]
set_option maxHeartbeats 2000000 in
theorem look_own (i1 i2 q : Int) (Ad Ab : Option Addr) (nd nb cd cb : Nat) (w : World) :
    Calls Try.prog 47 #[lookV i1 i2 q Ad Ab nd nb cd cb] w fun r w' => r = .returned (.int .i64 (errOwn (i1, i2) q)) ∧ Fr (fun _ => False) w w' := by
  have hF := (Fr.refl (fun _ => False) w).alloc (.cells #[.int .i64 i1, .int .i64 i2, .int .i64 q, .slice Ad nd cd, .slice Ab nb cb] 87)
  have hX := Blk.new w 87 #[.int .i64 i1, .int .i64 i2, .int .i64 q, .slice Ad nd cd, .slice Ab nb cb]
  by_cases h : errId (i1, i2) = 0
  · have e0 : errOwn (i1, i2) q = if q < 1 ∨ 1073741824 < q then 9 else 0 := if_pos h
    have t0 : (errId (i1, i2) != 0) = false := by simp [h]
    clear h
    by_cases h1 : q < 1
    · have t1 : decide (q < 1) = true := decide_eq_true h1
      rw [e0, if_pos (.inl h1)]
      clear e0 h1
      go_enter Try.func47, Try.ntmps47
      go_wp2_with fail
      refine (id_check i1 i2 _).mono ?_
      rintro r w1 ⟨rfl, hF1⟩
      have x2 := (hX.fr hF1 (fun h => h)).cell 2
      simp only [List.getElem?_toArray, List.getElem?_cons_zero, List.getElem?_cons_succ] at x2
      generalize errId (i1, i2) = z at *
      go_wp2_with fail
      go_ret
      exact ⟨rfl, hF.trans hF1⟩
    · have t1 : decide (q < 1) = false := decide_eq_false h1
      by_cases h2 : 1073741824 < q
      · have t2 : decide (1073741824 < q) = true := decide_eq_true h2
        rw [e0, if_pos (.inr h2)]
        clear e0 h1 h2
        go_enter Try.func47, Try.ntmps47
        go_wp2_with fail
        refine (id_check i1 i2 _).mono ?_
        rintro r w1 ⟨rfl, hF1⟩
        have x2 := (hX.fr hF1 (fun h => h)).cell 2
        simp only [List.getElem?_toArray, List.getElem?_cons_zero, List.getElem?_cons_succ] at x2
        generalize errId (i1, i2) = z at *
        go_wp2_with fail
        go_ret
        exact ⟨rfl, hF.trans hF1⟩
      · have t2 : decide (1073741824 < q) = false := decide_eq_false h2
        rw [e0, if_neg (fun h => h.elim h1 h2)]
        clear e0 h1 h2
        go_enter Try.func47, Try.ntmps47
        go_wp2_with fail
        refine (id_check i1 i2 _).mono ?_
        rintro r w1 ⟨rfl, hF1⟩
        have x2 := (hX.fr hF1 (fun h => h)).cell 2
        simp only [List.getElem?_toArray, List.getElem?_cons_zero, List.getElem?_cons_succ] at x2
        generalize errId (i1, i2) = z at *
        go_wp2_with fail
        go_ret
        exact ⟨rfl, hF.trans hF1⟩
  · rw [show errOwn (i1, i2) q = errId (i1, i2) from if_neg h]
    have t0 : (errId (i1, i2) != 0) = true := by simp [h]
    clear h
    go_enter Try.func47, Try.ntmps47
    go_wp2_with fail
    refine (id_check i1 i2 _).mono ?_
    rintro r w1 ⟨rfl, hF1⟩
    go_wp2_with fail
    go_ret
    exact ⟨rfl, hF.trans hF1⟩
theorem look_does (i1 i2 q : Int) (Ad Ab : Option Addr) (nd nb cd cb : Nat) (B : List Cmd) (w : World) (h : cmdK.C w Ab nb B) (hB : ∀ x ∈ B, CmdGood x) :
    Calls Try.prog 49 #[lookV i1 i2 q Ad Ab nd nb cd cb] w fun r w' => r = .returned (.int .i64 (errBat B)) ∧ Fr (fun _ => False) w w' := by
  have hF := (Fr.refl (fun _ => False) w).alloc (.cells #[.int .i64 i1, .int .i64 i2, .int .i64 q, .slice Ad nd cd, .slice Ab nb cb] 87)
  have HH := Lib.hid (bat_check Ab nb cb B _ (Kd.C_below h (hF.below (fun _ _ h => h))) hB)
  clear h hB
  go_enter Try.func49, Try.ntmps49
  go_wp2_with fail
  refine HH.out.mono ?_
  rintro r w1 ⟨rfl, hF1⟩
  go_wp2_with fail
  go_ret
  exact ⟨rfl, hF.trans hF1⟩
set_option maxRecDepth 100000 in
set_option maxHeartbeats 4000000 in
theorem look_deps (i1 i2 q : Int) (Ad Ab : Option Addr) (nd nb cd cb : Nat) (D : List (Int × Int)) (w : World) (h : idK.C w Ad nd D) :
    Calls Try.prog 48 #[lookV i1 i2 q Ad Ab nd nb cd cb] w fun r w' => r = .returned (.int .i64 (errDeps (i1, i2) D)) ∧ Fr (fun _ => False) w w' := by
  have hF := (Fr.refl (fun _ => False) w).alloc (.cells #[.int .i64 i1, .int .i64 i2, .int .i64 q, .slice Ad nd cd, .slice Ab nb cb] 87)
  have hX := Blk.new w 87 #[.int .i64 i1, .int .i64 i2, .int .i64 q, .slice Ad nd cd, .slice Ab nb cb]
  have HL := Lib.hid (show D.length = nd from h.1)
  have hmx : nd ≤ 9223372036854775807 := h.2.1
  have HC := Lib.hid h
  clear h
  by_cases h16 : 16 < nd
  · have t1 : decide ((16 : Int) < (nd : Int)) = true := decide_eq_true (by omega)
    rw [show errDeps (i1, i2) D = 10 from if_pos (by rw [HL.out]; exact h16)]
    clear h16
    go_enter Try.func48, Try.ntmps48
    go_wp2_with fail
    go_ret
    exact ⟨rfl, hF⟩
  · have t1 : decide ((16 : Int) < (nd : Int)) = false := decide_eq_false (by omega)
    have e0 : errDeps (i1, i2) D = fnz (errDep (i1, i2) D) D.length 0 := if_neg (by rw [HL.out]; exact h16)
    have E0 := Lib.hid e0
    clear e0
    go_enter Try.func48, Try.ntmps48
    go_wp2_with fail
    generalize w.alloc (.cells #[.int .i64 i1, .int .i64 i2, .int .i64 q, .slice Ad nd cd, .slice Ab nb cb] 87) = w1 at hF hX ⊢
    obtain ⟨x, hx⟩ : ∃ x, x = w.heap.size := ⟨_, rfl⟩
    rw [← hx] at hX ⊢
    have HX := Lib.hid hX
    have HF := Lib.hid hF
    clear t1 hF hX hx
    go_loopw [15] (fun i wr => ∃ k : Nat, k ≤ nd ∧ i = .int .i64 k ∧ (∀ j, j < k → errDep (i1, i2) D j = 0) ∧ Fr (fun _ => False) w1 wr) (fun i _ => nd - (intOf i).toNat)
    case atStart => exact ⟨0, Nat.zero_le _, rfl, fun _ h => by omega, Fr.refl _ _⟩
    case round =>
      obtain ⟨k, hk, rfl, hno, hG⟩ := hrel
      replace hno := Lib.hid hno
      replace hG := Lib.hid hG
      rcases Nat.lt_or_ge k nd with hlt | hge
      · obtain ⟨b, off, rfl, h0, h1⟩ := ids_at (Kd.C_below HC.out ((HF.out.trans hG.out).below (fun _ _ h => h))) hlt
        have F1 := (Fr.refl (fun _ => False) wr).alloc (.cells #[.int .i64 (ida D k).1, .int .i64 (ida D k).2] 28)
        have hD := Blk.new wr 28 #[.int .i64 (ida D k).1, .int .i64 (ida D k).2]
        have HF1 := Lib.hid F1
        have HD := Lib.hid hD
        clear F1 hD
        go_wp2_with fail
        refine (id_check (ida D k).1 (ida D k).2 _).mono ?_
        rintro r w2 ⟨rfl, hF2⟩
        rw [show (((ida D k).1, (ida D k).2) : Int × Int) = ida D k from rfl]
        have F2 := (hG.out.trans HF1.out).trans hF2
        have HF2 := Lib.hid F2
        have HD2 := Lib.hid (HD.out.fr hF2 (fun h => h))
        have HX2 := Lib.hid (HX.out.fr F2 (fun h => h))
        clear h0 h1 hF2 F2 HF1 HD
        have eAt : errDep (i1, i2) D k ≠ 0 → errDeps (i1, i2) D = errDep (i1, i2) D k := fun h => E0.out.trans (fnz_at _ _ _ k (Nat.zero_le _) (by rw [HL.out]; omega) (fun j _ hj => hno.out j hj) h)
        have EAT := Lib.hid eAt
        clear eAt
        by_cases hz : errId (ida D k) = 0
        · have t0 : (errId (ida D k) != 0) = false := by simp [hz]
          have x0 := HX2.out.cell 0
          have x1 := HX2.out.cell 1
          have y0 := HD2.out.cell 0
          have y1 := HD2.out.cell 1
          simp only [List.getElem?_toArray, List.getElem?_cons_zero, List.getElem?_cons_succ] at x0 x1 y0 y1
          have he := fun w => eqId (ida D k).1 (ida D k).2 i1 i2 w
          by_cases hq : ida D k = (i1, i2)
          · have hqd : decide (((ida D k).1, (ida D k).2) = (i1, i2)) = true := decide_eq_true hq
            simp only [hqd] at he
            have e6 : errDep (i1, i2) D k = 6 := by unfold errDep; rw [if_pos hz, if_pos hq]
            have e7 := EAT.out (by rw [e6]; decide)
            rw [e6] at e7
            have E7 := Lib.hid e7
            clear hz hq hqd e6 e7
            go_wp2_with fail
            go_ret
            refine ⟨?_, HF.out.trans HF2.out⟩
            rw [E7.out]
            rfl
          · have hqd : decide (((ida D k).1, (ida D k).2) = (i1, i2)) = false := decide_eq_false hq
            simp only [hqd] at he
            have ed : errDep (i1, i2) D k = if 0 < k ∧ idLess (ida D (k - 1)) (ida D k) = false then 11 else 0 := by unfold errDep; rw [if_pos hz, if_neg hq]
            have ED := Lib.hid ed
            clear hz hq hqd ed
            go_wp2_with fail
            clear he x0 x1 t0
            by_cases hk0 : 0 < k
            · have t1 : decide (0 < k) = true := decide_eq_true hk0
              obtain ⟨j, hj⟩ : ∃ j, j = k - 1 := ⟨_, rfl⟩
              have tk : (k : Int) - 1 = (j : Int) := by omega
              have twj : IntKind.i64.wrap (j : Int) = (j : Int) := wrap_in (j : Int) (by omega) (by omega)
              have hjn : j < nd := by omega
              have HJ := Lib.hid hj
              have HK0 := Lib.hid hk0
              obtain ⟨b1, o1, hA, h0, h1⟩ := ids_at (Kd.C_below HC.out ((HF.out.trans HF2.out).below (fun _ _ h => h))) hjn
              injection hA with hA
              injection hA with hA1 hA2
              subst hA1
              subst hA2
              have x3 := HX2.out.cell 3
              simp only [List.getElem?_toArray, List.getElem?_cons_zero, List.getElem?_cons_succ] at x3
              obtain ⟨St, hSt⟩ : ∃ St : World → Prop, St = Fr (fun _ => False) w2 := ⟨_, rfl⟩
              have HT := Lib.hid (show ∀ w', Fr (fun _ => False) w2 w' → At St w' from fun w' h => by unfold At; rw [hSt]; exact h)
              have lift : ∀ (q : Addr) (v : Value), w2.cell? q = some v → ∀ w', At St w' → w'.cell? q = some v := fun q v hq w' h => by replace h := h.out; rw [hSt] at h; exact h.cell hq (fun h => h)
              have e0 := lift _ _ x3
              have e1 := lift _ _ h0
              have e2 := lift _ _ h1
              have e3 := lift _ _ y0
              have e4 := lift _ _ y1
              have hT0 := HT.out w2.drew (Fr.refl _ _).drew
              obtain ⟨lc, hlc⟩ : ∃ lc, lc = idLess ((ida D j).1, (ida D j).2) ((ida D k).1, (ida D k).2) := ⟨_, rfl⟩
              have tl := idCmp_less ((ida D j).1, (ida D j).2) ((ida D k).1, (ida D k).2)
              rw [← hlc] at tl
              have ex : errDep (i1, i2) D k = if lc = false then 11 else 0 := by
                rw [ED.out, hlc, hj]
                by_cases h : idLess (ida D (k - 1)) (ida D k) = false
                · rw [if_pos ⟨hk0, h⟩, if_pos h]
                · rw [if_neg (fun h' => h h'.2), if_neg h]
              have EX := Lib.hid ex
              clear hSt lift x3 h0 h1 y0 y1 hj hk0 hlc ex
              refine rt_start [] (At St) 14 (by kernel_rfl) rfl ?_
              refine rt_free 0 (v := ?_) rfl (by kernel_rfl) (by kernel_rfl) (by kernel_rfl) (by kernel_rfl) (fun _ _ _ h => h) (by rfl) (fun _ => by first | assumption | exact HS0 _ rfl | exact HT.out _ (by repeat (first | exact Fr.refl _ _ | apply Fr.drew | refine Fr.alloc ?_ _))) ?_ ?_
              rotate_left 1
              · intro w; go_simp <;> with_reducible rfl
              try simp only [Act.put, List.setIfInBounds_toArray, List.set_cons_zero, List.set_cons_succ]
              refine rt_free 1 (v := ?_) rfl (by kernel_rfl) (by kernel_rfl) (by kernel_rfl) (by kernel_rfl) (fun _ _ _ h => h) (by rfl) (fun _ => by first | assumption | exact HS0 _ rfl | exact HT.out _ (by repeat (first | exact Fr.refl _ _ | apply Fr.drew | refine Fr.alloc ?_ _))) ?_ ?_
              rotate_left 1
              · intro w; go_simp <;> with_reducible rfl
              try simp only [Act.put, List.setIfInBounds_toArray, List.set_cons_zero, List.set_cons_succ]
              refine rt_free 2 (v := ?_) rfl (by kernel_rfl) (by kernel_rfl) (by kernel_rfl) (by kernel_rfl) (fun _ _ _ h => h) (by rfl) (fun _ => by first | assumption | exact HS0 _ rfl | exact HT.out _ (by repeat (first | exact Fr.refl _ _ | apply Fr.drew | refine Fr.alloc ?_ _))) ?_ ?_
              rotate_left 1
              · intro w; go_simp <;> with_reducible rfl
              try simp only [Act.put, List.setIfInBounds_toArray, List.set_cons_zero, List.set_cons_succ]
              refine rt_free 3 (v := ?_) rfl (by kernel_rfl) (by kernel_rfl) (by kernel_rfl) (by kernel_rfl) (fun _ _ _ h => h) (by rfl) (fun _ => by first | assumption | exact HS0 _ rfl | exact HT.out _ (by repeat (first | exact Fr.refl _ _ | apply Fr.drew | refine Fr.alloc ?_ _))) ?_ ?_
              rotate_left 1
              · intro w; go_simp <;> with_reducible rfl
              try simp only [Act.put, List.setIfInBounds_toArray, List.set_cons_zero, List.set_cons_succ]
              refine rt_free 4 (v := ?_) rfl (by kernel_rfl) (by kernel_rfl) (by kernel_rfl) (by kernel_rfl) (fun _ _ _ h => h) (by rfl) (fun _ => by first | assumption | exact HS0 _ rfl | exact HT.out _ (by repeat (first | exact Fr.refl _ _ | apply Fr.drew | refine Fr.alloc ?_ _))) ?_ ?_
              rotate_left 1
              · intro w; go_simp <;> with_reducible rfl
              try simp only [Act.put, List.setIfInBounds_toArray, List.set_cons_zero, List.set_cons_succ]
              refine rt_take 5 (v := ?_) rfl (by kernel_rfl) (by kernel_rfl) (by kernel_rfl) (by kernel_rfl) (fun _ _ _ h => h) (by rfl) (by first | assumption | exact HS0 _ rfl | exact HT.out _ (by repeat (first | exact Fr.refl _ _ | apply Fr.drew | refine Fr.alloc ?_ _))) ?_ ?_
              rotate_left 1
              · intro w hSw; go_simp <;> with_reducible rfl
              try simp only [Act.put, List.setIfInBounds_toArray, List.set_cons_zero, List.set_cons_succ]
              refine rt_free 6 (v := ?_) rfl (by kernel_rfl) (by kernel_rfl) (by kernel_rfl) (by kernel_rfl) (fun _ _ _ h => h) (by rfl) (fun _ => by first | assumption | exact HS0 _ rfl | exact HT.out _ (by repeat (first | exact Fr.refl _ _ | apply Fr.drew | refine Fr.alloc ?_ _))) ?_ ?_
              rotate_left 1
              · intro w; go_simp <;> with_reducible rfl
              try simp only [Act.put, List.setIfInBounds_toArray, List.set_cons_zero, List.set_cons_succ]
              refine rt_free 7 (v := ?_) rfl (by kernel_rfl) (by kernel_rfl) (by kernel_rfl) (by kernel_rfl) (fun _ _ _ h => h) (by rfl) (fun _ => by first | assumption | exact HS0 _ rfl | exact HT.out _ (by repeat (first | exact Fr.refl _ _ | apply Fr.drew | refine Fr.alloc ?_ _))) ?_ ?_
              rotate_left 1
              · intro w; go_simp <;> with_reducible rfl
              try simp only [Act.put, List.setIfInBounds_toArray, List.set_cons_zero, List.set_cons_succ]
              refine rt_free 8 (v := ?_) rfl (by kernel_rfl) (by kernel_rfl) (by kernel_rfl) (by kernel_rfl) (fun _ _ _ h => h) (by rfl) (fun _ => by first | assumption | exact HS0 _ rfl | exact HT.out _ (by repeat (first | exact Fr.refl _ _ | apply Fr.drew | refine Fr.alloc ?_ _))) ?_ ?_
              rotate_left 1
              · intro w; go_simp <;> with_reducible rfl
              try simp only [Act.put, List.setIfInBounds_toArray, List.set_cons_zero, List.set_cons_succ]
              refine rt_take 9 (v := ?_) rfl (by kernel_rfl) (by kernel_rfl) (by kernel_rfl) (by kernel_rfl) (fun _ _ _ h => h) (by rfl) (by first | assumption | exact HS0 _ rfl | exact HT.out _ (by repeat (first | exact Fr.refl _ _ | apply Fr.drew | refine Fr.alloc ?_ _))) ?_ ?_
              rotate_left 1
              · intro w hSw; go_simp <;> with_reducible rfl
              try simp only [Act.put, List.setIfInBounds_toArray, List.set_cons_zero, List.set_cons_succ]
              refine rt_take 10 (v := ?_) rfl (by kernel_rfl) (by kernel_rfl) (by kernel_rfl) (by kernel_rfl) (fun _ _ _ h => h) (by rfl) (by first | assumption | exact HS0 _ rfl | exact HT.out _ (by repeat (first | exact Fr.refl _ _ | apply Fr.drew | refine Fr.alloc ?_ _))) ?_ ?_
              rotate_left 1
              · intro w hSw; go_simp <;> with_reducible rfl
              try simp only [Act.put, List.setIfInBounds_toArray, List.set_cons_zero, List.set_cons_succ]
              refine rt_one 11 rfl (by kernel_rfl) (fun K hK => ?_)
              go_simp
              refine (id_cmp (ida D j).1 (ida D j).2 (ida D k).1 (ida D k).2 _).mono ?_
              rintro r w5 ⟨rfl, hF5⟩
              have F5 := Lib.hid ((Fr.refl (fun _ => False) w2).drew.trans hF5)
              have hT5 := HT.out _ F5.out
              clear hF5
              go_wp2_with fail
              refine hK.out (At St) _ _ (fun _ h => h) (fun _ => by (exact hT5)) ?_
              clear hK K
              try simp only [Act.put, List.setIfInBounds_toArray, List.set_cons_zero, List.set_cons_succ]
              refine rt_free 12 (v := ?_) rfl (by kernel_rfl) (by kernel_rfl) (by kernel_rfl) (by kernel_rfl) (fun _ _ _ h => h) (by rfl) (fun _ => by first | assumption | exact HS0 _ rfl | exact HT.out _ (by repeat (first | exact Fr.refl _ _ | apply Fr.drew | refine Fr.alloc ?_ _))) ?_ ?_
              rotate_left 1
              · intro w; go_simp <;> with_reducible rfl
              try simp only [Act.put, List.setIfInBounds_toArray, List.set_cons_zero, List.set_cons_succ]
              refine rt_free 13 (v := ?_) rfl (by kernel_rfl) (by kernel_rfl) (by kernel_rfl) (by kernel_rfl) (fun _ _ _ h => h) (by rfl) (fun _ => by first | assumption | exact HS0 _ rfl | exact HT.out _ (by repeat (first | exact Fr.refl _ _ | apply Fr.drew | refine Fr.alloc ?_ _))) ?_ ?_
              rotate_left 1
              · intro w; go_simp <;> with_reducible rfl
              try simp only [Act.put, List.setIfInBounds_toArray, List.set_cons_zero, List.set_cons_succ]
              refine rt_done (by kernel_rfl) ?_
              clear e0 e1 e2 e3 e4 hT0 hT5 tl t1 tk twj
              cases lc
              · have e6 : errDep (i1, i2) D k = 11 := EX.out.trans (if_pos rfl)
                have e7 := EAT.out (by rw [e6]; decide)
                rw [e6] at e7
                have E7 := Lib.hid e7
                clear e6 e7
                go_wp2_with fail
                go_ret
                refine ⟨?_, (HF.out.trans HF2.out).trans F5.out⟩
                rw [E7.out]
                rfl
              · have E8 := Lib.hid (EX.out.trans (if_neg (fun h => by cases h)))
                go_wp2_with fail
                go_roundw
                case rel =>
                  refine ⟨k + 1, by omega, by go_num, fun j hj => ?_, HF2.out.trans F5.out⟩
                  rcases Nat.lt_or_ge j k with h | h
                  · exact hno.out j h
                  · obtain rfl : j = k := by omega
                    exact E8.out
                case measure => simp [intOf]; omega
            · have t1 : decide (0 < k) = false := decide_eq_false hk0
              have e8 := ED.out.trans (if_neg (fun h => hk0 h.1))
              have E8 := Lib.hid e8
              obtain ⟨St, hSt⟩ : ∃ St : World → Prop, St = Fr (fun _ => False) w2 := ⟨_, rfl⟩
              have hT0 : At St w2.drew := by unfold At; rw [hSt]; exact (Fr.refl _ _).drew
              clear hSt hk0 e8 y0 y1
              refine rt_start [] (At St) 14 (by kernel_rfl) rfl ?_
              refine rt_free 0 (v := ?_) rfl (by kernel_rfl) (by kernel_rfl) (by kernel_rfl) (by kernel_rfl) (fun _ _ _ h => h) (by rfl) (fun _ => by first | assumption | exact HS0 _ rfl | exact HT.out _ (by repeat (first | exact Fr.refl _ _ | apply Fr.drew | refine Fr.alloc ?_ _))) ?_ ?_
              rotate_left 1
              · intro w; go_simp <;> with_reducible rfl
              try simp only [Act.put, List.setIfInBounds_toArray, List.set_cons_zero, List.set_cons_succ]
              refine rt_free 1 (v := ?_) rfl (by kernel_rfl) (by kernel_rfl) (by kernel_rfl) (by kernel_rfl) (fun _ _ _ h => h) (by rfl) (fun _ => by first | assumption | exact HS0 _ rfl | exact HT.out _ (by repeat (first | exact Fr.refl _ _ | apply Fr.drew | refine Fr.alloc ?_ _))) ?_ ?_
              rotate_left 1
              · intro w; go_simp <;> with_reducible rfl
              try simp only [Act.put, List.setIfInBounds_toArray, List.set_cons_zero, List.set_cons_succ]
              refine rt_free 2 (v := ?_) rfl (by kernel_rfl) (by kernel_rfl) (by kernel_rfl) (by kernel_rfl) (fun _ _ _ h => h) (by rfl) (fun _ => by first | assumption | exact HS0 _ rfl | exact HT.out _ (by repeat (first | exact Fr.refl _ _ | apply Fr.drew | refine Fr.alloc ?_ _))) ?_ ?_
              rotate_left 1
              · intro w; go_simp <;> with_reducible rfl
              try simp only [Act.put, List.setIfInBounds_toArray, List.set_cons_zero, List.set_cons_succ]
              refine rt_skip 3 rfl (by kernel_rfl) (by kernel_rfl) (by kernel_rfl) (by kernel_rfl) (fun _ _ _ h => h) (by rfl) (fun _ => by first | assumption | exact HS0 _ rfl | exact HT.out _ (by repeat (first | exact Fr.refl _ _ | apply Fr.drew | refine Fr.alloc ?_ _))) ?_
              try simp only [Act.put, List.setIfInBounds_toArray, List.set_cons_zero, List.set_cons_succ]
              refine rt_skip 4 rfl (by kernel_rfl) (by kernel_rfl) (by kernel_rfl) (by kernel_rfl) (fun _ _ _ h => h) (by rfl) (fun _ => by first | assumption | exact HS0 _ rfl | exact HT.out _ (by repeat (first | exact Fr.refl _ _ | apply Fr.drew | refine Fr.alloc ?_ _))) ?_
              try simp only [Act.put, List.setIfInBounds_toArray, List.set_cons_zero, List.set_cons_succ]
              refine rt_skip 5 rfl (by kernel_rfl) (by kernel_rfl) (by kernel_rfl) (by kernel_rfl) (fun _ _ _ h => h) (by rfl) (fun _ => by first | assumption | exact HS0 _ rfl | exact HT.out _ (by repeat (first | exact Fr.refl _ _ | apply Fr.drew | refine Fr.alloc ?_ _))) ?_
              try simp only [Act.put, List.setIfInBounds_toArray, List.set_cons_zero, List.set_cons_succ]
              refine rt_skip 6 rfl (by kernel_rfl) (by kernel_rfl) (by kernel_rfl) (by kernel_rfl) (fun _ _ _ h => h) (by rfl) (fun _ => by first | assumption | exact HS0 _ rfl | exact HT.out _ (by repeat (first | exact Fr.refl _ _ | apply Fr.drew | refine Fr.alloc ?_ _))) ?_
              try simp only [Act.put, List.setIfInBounds_toArray, List.set_cons_zero, List.set_cons_succ]
              refine rt_skip 7 rfl (by kernel_rfl) (by kernel_rfl) (by kernel_rfl) (by kernel_rfl) (fun _ _ _ h => h) (by rfl) (fun _ => by first | assumption | exact HS0 _ rfl | exact HT.out _ (by repeat (first | exact Fr.refl _ _ | apply Fr.drew | refine Fr.alloc ?_ _))) ?_
              try simp only [Act.put, List.setIfInBounds_toArray, List.set_cons_zero, List.set_cons_succ]
              refine rt_skip 8 rfl (by kernel_rfl) (by kernel_rfl) (by kernel_rfl) (by kernel_rfl) (fun _ _ _ h => h) (by rfl) (fun _ => by first | assumption | exact HS0 _ rfl | exact HT.out _ (by repeat (first | exact Fr.refl _ _ | apply Fr.drew | refine Fr.alloc ?_ _))) ?_
              try simp only [Act.put, List.setIfInBounds_toArray, List.set_cons_zero, List.set_cons_succ]
              refine rt_skip 9 rfl (by kernel_rfl) (by kernel_rfl) (by kernel_rfl) (by kernel_rfl) (fun _ _ _ h => h) (by rfl) (fun _ => by first | assumption | exact HS0 _ rfl | exact HT.out _ (by repeat (first | exact Fr.refl _ _ | apply Fr.drew | refine Fr.alloc ?_ _))) ?_
              try simp only [Act.put, List.setIfInBounds_toArray, List.set_cons_zero, List.set_cons_succ]
              refine rt_skip 10 rfl (by kernel_rfl) (by kernel_rfl) (by kernel_rfl) (by kernel_rfl) (fun _ _ _ h => h) (by rfl) (fun _ => by first | assumption | exact HS0 _ rfl | exact HT.out _ (by repeat (first | exact Fr.refl _ _ | apply Fr.drew | refine Fr.alloc ?_ _))) ?_
              try simp only [Act.put, List.setIfInBounds_toArray, List.set_cons_zero, List.set_cons_succ]
              refine rt_skip 11 rfl (by kernel_rfl) (by kernel_rfl) (by kernel_rfl) (by kernel_rfl) (fun _ _ _ h => h) (by rfl) (fun _ => by first | assumption | exact HS0 _ rfl | exact HT.out _ (by repeat (first | exact Fr.refl _ _ | apply Fr.drew | refine Fr.alloc ?_ _))) ?_
              try simp only [Act.put, List.setIfInBounds_toArray, List.set_cons_zero, List.set_cons_succ]
              refine rt_skip 12 rfl (by kernel_rfl) (by kernel_rfl) (by kernel_rfl) (by kernel_rfl) (fun _ _ _ h => h) (by rfl) (fun _ => by first | assumption | exact HS0 _ rfl | exact HT.out _ (by repeat (first | exact Fr.refl _ _ | apply Fr.drew | refine Fr.alloc ?_ _))) ?_
              try simp only [Act.put, List.setIfInBounds_toArray, List.set_cons_zero, List.set_cons_succ]
              refine rt_free 13 (v := ?_) rfl (by kernel_rfl) (by kernel_rfl) (by kernel_rfl) (by kernel_rfl) (fun _ _ _ h => h) (by rfl) (fun _ => by first | assumption | exact HS0 _ rfl | exact HT.out _ (by repeat (first | exact Fr.refl _ _ | apply Fr.drew | refine Fr.alloc ?_ _))) ?_ ?_
              rotate_left 1
              · intro w; go_simp <;> with_reducible rfl
              try simp only [Act.put, List.setIfInBounds_toArray, List.set_cons_zero, List.set_cons_succ]
              refine rt_done (by kernel_rfl) ?_
              go_wp2_with fail
              go_roundw
              case rel =>
                refine ⟨k + 1, by omega, by go_num, fun j hj => ?_, HF2.out.drew⟩
                rcases Nat.lt_or_ge j k with h | h
                · exact hno.out j h
                · obtain rfl : j = k := by omega
                  exact E8.out
              case measure => simp [intOf]; omega
        · have t0 : (errId (ida D k) != 0) = true := by simp [hz]
          have e6 : errDep (i1, i2) D k = errId (ida D k) := by unfold errDep; rw [if_neg hz]
          have e7 := EAT.out (by rw [e6]; exact hz)
          rw [e6] at e7
          have E7 := Lib.hid e7
          clear hz e6 e7
          go_wp2_with fail
          go_ret
          refine ⟨?_, HF.out.trans HF2.out⟩
          rw [E7.out]
          rfl
      · have e1 : errDeps (i1, i2) D = 0 := E0.out.trans (fnz_zero _ _ _ fun j _ hj => hno.out j (by rw [HL.out] at hj; omega))
        have E1 := Lib.hid e1
        obtain rfl : nd = k := by omega
        have tnn : decide (nd < nd) = false := decide_eq_false (by omega)
        clear e1
        go_wp2_with fail
        go_ret
        refine ⟨?_, HF.out.trans hG.out⟩
        rw [E1.out]
        rfl
end Go.Proofs.Ytelfpnpplknlpaa
/- Records: what is wrong, the same, which stands ahead, the cost; by the program. -/
namespace Go.Proofs.Ytelfpnpplknlpaa
open Go.RowKit
open Go.Proofs.YtelfpnpplknlpaaW.PrintWords

def RecGood (r : Rec) : Prop := ∀ x ∈ r.2.2.2, CmdGood x
set_option maxRecDepth 100000 in
set_option maxHeartbeats 4000000 in
theorem rec_check (r : Rec) (Ad Ab : Option Addr) (cd cb : Nat) (w : World) (h : RecAt w r Ad Ab cd cb) (hg : RecGood r) :
    Calls Try.prog 23 #[recV r Ad Ab cd cb] w fun e w' => e = .returned (.int .i64 (errRec r)) ∧ Fr (fun _ => False) w w' := by
  obtain ⟨⟨i1, i2⟩, q, D, B⟩ := r
  obtain ⟨nd, hnd⟩ : ∃ nd, nd = D.length := ⟨_, rfl⟩
  obtain ⟨nb, hnb⟩ : ∃ nb, nb = B.length := ⟨_, rfl⟩
  have HD := Lib.hid (show idK.C w Ad nd D by rw [hnd]; exact h.deps)
  have HB := Lib.hid (show cmdK.C w Ab nb B by rw [hnb]; exact h.batch)
  have HG := Lib.hid (show ∀ x ∈ B, CmdGood x from hg)
  rw [show recV ((i1, i2), q, D, B) Ad Ab cd cb = lookV i1 i2 q Ad Ab nd nb cd cb by rw [hnd, hnb]]
  clear h hg hnd hnb
  have hX := (Blk.new w 32 #[.int .i64 i1, .int .i64 i2, .int .i64 q, .slice Ad nd cd, .slice Ab nb cb]).alloc (.cells #[.func (.func 47) #[] #[], .func (.func 48) #[] #[], .func (.func 49) #[] #[]] 84)
  have hF := ((Fr.refl (fun _ => False) w).alloc (.cells #[.int .i64 i1, .int .i64 i2, .int .i64 q, .slice Ad nd cd, .slice Ab nb cb] 32)).alloc (.cells #[.func (.func 47) #[] #[], .func (.func 48) #[] #[], .func (.func 49) #[] #[]] 84)
  have hY := Blk.new (w.alloc (.cells #[.int .i64 i1, .int .i64 i2, .int .i64 q, .slice Ad nd cd, .slice Ab nb cb] 32)) 84 #[.func (.func 47) #[] #[], .func (.func 48) #[] #[], .func (.func 49) #[] #[]]
  rw [World.size_alloc] at hY
  by_cases h1 : errOwn (i1, i2) q = 0
  · have t1 : (errOwn (i1, i2) q != 0) = false := by simp [h1]
    by_cases h2 : errDeps (i1, i2) D = 0
    · have t2 : (errDeps (i1, i2) D != 0) = false := by simp [h2]
      have e : errRec ((i1, i2), q, D, B) = errBat B := by unfold errRec; rw [if_pos h1, if_pos h2]
      rw [e]
      clear e h1 h2
      by_cases h3 : errBat B = 0
      · have t3 : (errBat B != 0) = false := by simp [h3]
        rw [h3]
        clear h3
        go_enter Try.func23, Try.ntmps23
        go_wp2_with fail
        refine wp_loop_rounds 4 ?_
        rw [rounds_succ]
        go_wp2_with fail
        refine (look_own i1 i2 q Ad Ab nd nb cd cb _).mono ?_
        rintro r w1 ⟨rfl, hF1⟩
        have hX1 := hX.fr hF1 (fun h => h)
        have hY1 := hY.fr hF1 (fun h => h)
        have x1_0 := hX1.cell 0
        have x1_1 := hX1.cell 1
        have x1_2 := hX1.cell 2
        have x1_3 := hX1.cell 3
        have x1_4 := hX1.cell 4
        have y1 := hY1.cell 1
        simp only [List.getElem?_toArray, List.getElem?_cons_zero, List.getElem?_cons_succ] at x1_0 x1_1 x1_2 x1_3 x1_4 y1
        go_wp2_with fail
        rw [rounds_succ]
        go_wp2_with fail
        refine (look_deps i1 i2 q Ad Ab nd nb cd cb D _ (Kd.C_below HD.out ((hF.trans hF1).below (fun _ _ h => h)))).mono ?_
        rintro r w2 ⟨rfl, hF2⟩
        have hX2 := hX1.fr hF2 (fun h => h)
        have hY2 := hY1.fr hF2 (fun h => h)
        have x2_0 := hX2.cell 0
        have x2_1 := hX2.cell 1
        have x2_2 := hX2.cell 2
        have x2_3 := hX2.cell 3
        have x2_4 := hX2.cell 4
        have y2 := hY2.cell 2
        simp only [List.getElem?_toArray, List.getElem?_cons_zero, List.getElem?_cons_succ] at x2_0 x2_1 x2_2 x2_3 x2_4 y2
        clear x1_0 x1_1 x1_2 x1_3 x1_4 y1
        go_wp2_with fail
        rw [rounds_succ]
        go_wp2_with fail
        refine (look_does i1 i2 q Ad Ab nd nb cd cb B _ (Kd.C_below HB.out (((hF.trans hF1).trans hF2).below (fun _ _ h => h))) HG.out).mono ?_
        rintro r w3 ⟨rfl, hF3⟩
        go_wp2_with fail
        rw [rounds_succ]
        go_wp2_with fail
        go_ret
        exact ⟨rfl, ((hF.trans hF1).trans hF2).trans hF3⟩
      · have t3 : (errBat B != 0) = true := by simp [h3]
        clear h3
        go_enter Try.func23, Try.ntmps23
        go_wp2_with fail
        refine wp_loop_rounds 4 ?_
        rw [rounds_succ]
        go_wp2_with fail
        refine (look_own i1 i2 q Ad Ab nd nb cd cb _).mono ?_
        rintro r w1 ⟨rfl, hF1⟩
        have hX1 := hX.fr hF1 (fun h => h)
        have hY1 := hY.fr hF1 (fun h => h)
        have x1_0 := hX1.cell 0
        have x1_1 := hX1.cell 1
        have x1_2 := hX1.cell 2
        have x1_3 := hX1.cell 3
        have x1_4 := hX1.cell 4
        have y1 := hY1.cell 1
        simp only [List.getElem?_toArray, List.getElem?_cons_zero, List.getElem?_cons_succ] at x1_0 x1_1 x1_2 x1_3 x1_4 y1
        go_wp2_with fail
        rw [rounds_succ]
        go_wp2_with fail
        refine (look_deps i1 i2 q Ad Ab nd nb cd cb D _ (Kd.C_below HD.out ((hF.trans hF1).below (fun _ _ h => h)))).mono ?_
        rintro r w2 ⟨rfl, hF2⟩
        have hX2 := hX1.fr hF2 (fun h => h)
        have hY2 := hY1.fr hF2 (fun h => h)
        have x2_0 := hX2.cell 0
        have x2_1 := hX2.cell 1
        have x2_2 := hX2.cell 2
        have x2_3 := hX2.cell 3
        have x2_4 := hX2.cell 4
        have y2 := hY2.cell 2
        simp only [List.getElem?_toArray, List.getElem?_cons_zero, List.getElem?_cons_succ] at x2_0 x2_1 x2_2 x2_3 x2_4 y2
        clear x1_0 x1_1 x1_2 x1_3 x1_4 y1
        go_wp2_with fail
        rw [rounds_succ]
        go_wp2_with fail
        refine (look_does i1 i2 q Ad Ab nd nb cd cb B _ (Kd.C_below HB.out (((hF.trans hF1).trans hF2).below (fun _ _ h => h))) HG.out).mono ?_
        rintro r w3 ⟨rfl, hF3⟩
        go_wp2_with fail
        go_ret
        exact ⟨rfl, ((hF.trans hF1).trans hF2).trans hF3⟩
    · have t2 : (errDeps (i1, i2) D != 0) = true := by simp [h2]
      have e : errRec ((i1, i2), q, D, B) = errDeps (i1, i2) D := by unfold errRec; rw [if_pos h1, if_neg h2]
      rw [e]
      clear e h1 h2
      go_enter Try.func23, Try.ntmps23
      go_wp2_with fail
      refine wp_loop_rounds 4 ?_
      rw [rounds_succ]
      go_wp2_with fail
      refine (look_own i1 i2 q Ad Ab nd nb cd cb _).mono ?_
      rintro r w1 ⟨rfl, hF1⟩
      have hX1 := hX.fr hF1 (fun h => h)
      have hY1 := hY.fr hF1 (fun h => h)
      have x1_0 := hX1.cell 0
      have x1_1 := hX1.cell 1
      have x1_2 := hX1.cell 2
      have x1_3 := hX1.cell 3
      have x1_4 := hX1.cell 4
      have y1 := hY1.cell 1
      simp only [List.getElem?_toArray, List.getElem?_cons_zero, List.getElem?_cons_succ] at x1_0 x1_1 x1_2 x1_3 x1_4 y1
      go_wp2_with fail
      rw [rounds_succ]
      go_wp2_with fail
      refine (look_deps i1 i2 q Ad Ab nd nb cd cb D _ (Kd.C_below HD.out ((hF.trans hF1).below (fun _ _ h => h)))).mono ?_
      rintro r w2 ⟨rfl, hF2⟩
      go_wp2_with fail
      go_ret
      exact ⟨rfl, (hF.trans hF1).trans hF2⟩
  · have t1 : (errOwn (i1, i2) q != 0) = true := by simp [h1]
    have e : errRec ((i1, i2), q, D, B) = errOwn (i1, i2) q := by unfold errRec; rw [if_neg h1]
    rw [e]
    clear e h1
    go_enter Try.func23, Try.ntmps23
    go_wp2_with fail
    refine wp_loop_rounds 4 ?_
    rw [rounds_succ]
    go_wp2_with fail
    refine (look_own i1 i2 q Ad Ab nd nb cd cb _).mono ?_
    rintro r w1 ⟨rfl, hF1⟩
    go_wp2_with fail
    go_ret
    exact ⟨rfl, hF.trans hF1⟩
end Go.Proofs.Ytelfpnpplknlpaa
/- The laws of layer 9 (wire), walked. -/
namespace Go.Proofs.Ytelfpnpplknlpaa
open Go.RowKit
open Go.Proofs.YtelfpnpplknlpaaW.PrintWords

theorem rd_lit (w : World) (xs : List Int) (hm : xs.length ≤ 9223372036854775807) : RdB (w.alloc (.cells (nums .u8 xs).toArray 5)) (some ⟨w.heap.size, 0, none⟩) xs :=
  own_reads' (own_lit w w.heap.size 5 .u8 xs (Nat.le_refl _) hm)

theorem str3 : strOfNums [7, 172, 2] = ⟨#[7, 172, 2]⟩ := by decide +kernel
theorem str2 : strOfNums [2, 97, 98] = ⟨#[2, 97, 98]⟩ := by decide +kernel
theorem dig300 : digs 300 = [172, 2] := by simp [digs]
theorem dig2 : digs 2 = [2] := by simp [digs]
theorem ab : bytesOf ⟨#[97, 98]⟩ = [97, 98] := by decide +kernel
theorem get300 : getR [172, 2] 0 0 = (300, 2, 0) := by decide +kernel

theorem beTo_snd (m k : Nat) (b : Int) (h0 : 0 ≤ b) (h1 : b ≤ 255) : beTo (m * 256 + b.toNat) (k + 1) = beTo m k ++ [b] := by
  induction k with
  | zero =>
    simp only [beTo, Nat.pow_zero, Nat.div_one, List.nil_append]
    congr 1
    omega
  | succ k ih =>
    rw [beTo, ih, beTo]
    simp only [List.cons_append]
    congr 1
    have : (m * 256 + b.toNat) / 256 ^ (k + 1) = m / 256 ^ k := by
      rw [Nat.pow_succ, Nat.mul_comm (256 ^ k) 256, ← Nat.div_div_eq_div_mul]
      congr 1
      omega
    rw [this]
theorem beTo_val : ∀ (k : Nat) (l : List Int), l.length = k → (∀ x ∈ l, 0 ≤ x ∧ x ≤ 255) → beTo (beVal l) k = l
  | 0, [], _, _ => rfl
  | k + 1, l, hl, hb => by
    have hne : l ≠ [] := by rintro rfl; simp at hl
    obtain ⟨p, b, rfl⟩ : ∃ p b, l = p ++ [b] := ⟨l.dropLast, l.getLast hne, (List.dropLast_concat_getLast hne).symm⟩
    have hb' := hb b (by simp)
    rw [beVal_snoc, beTo_snd _ _ _ hb'.1 hb'.2, beTo_val k p (by simp at hl; exact hl) (fun x hx => hb x (by simp [hx]))]
theorem be8_val {l : List Int} (hl : l.length = 8) (hb : ∀ x ∈ l, 0 ≤ x ∧ x ≤ 255) : be8 (beVal l) = l := beTo_val 8 l hl hb

end Go.Proofs.Ytelfpnpplknlpaa
