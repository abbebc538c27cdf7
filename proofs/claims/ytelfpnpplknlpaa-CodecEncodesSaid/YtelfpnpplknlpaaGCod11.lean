/- Texts of Cod, merged (11 of 27): CodR. -/
import Derived.Test.YtelfpnpplknlpaaGCod10
set_option linter.unusedVariables false
set_option linter.unusedSimpArgs false
/- The code reads a record. -/
namespace Go.Proofs.Ytelfpnpplknlpaa
open Go.RowKit
open Go.Proofs.YtelfpnpplknlpaaW.PrintWords

theorem manyR_err {α : Type} {f : List Int → Rd α} {xs ys : List Int} {i : Nat} {l : List α} {e : Int} (h : manyR f i xs = .ok (l, ys)) (hf : f ys = .error e) : ∀ n, i < n → manyR f n xs = .error e := by
  intro n
  induction n with
  | zero => intro h; omega
  | succ n ih =>
    intro hi
    unfold manyR
    rcases Nat.eq_or_lt_of_le (Nat.le_of_lt_succ hi) with h1 | h1
    · subst h1
      rw [thenR_ok h, hf]
      rfl
    · rw [ih h1]
      rfl
theorem manyR_step {α : Type} {f : List Int → Rd α} {xs ys zs : List Int} {i : Nat} {l : List α} {a : α} (h : manyR f i xs = .ok (l, ys)) (hf : f ys = .ok (a, zs)) : manyR f (i + 1) xs = .ok (l ++ [a], zs) := by
  show thenR (manyR f i xs) _ = _
  rw [thenR_ok h, thenR_ok hf]
/-- One command behind a row of them. -/
theorem app_cmd {W : World} {base : Nat} {ok : Nat → Prop} {v : Value} {xs : List Cmd} {Aq : Option Addr} {cq : Nat} (x : Cmd) (h : cmdK.R 58 W base ok v xs) (hC : cmdK.C W Aq 1 [x]) (hfresh : ∀ k, W.heap.size ≤ k → ok k) (hbase : base ≤ W.heap.size) (hl : xs.length ≤ 1000) :
    ∃ v1 w1, (Builtin.append_ #[30, 30] 30 #[v, .slice Aq 1 cq]).run Try.prog W = .ok v1 w1 ∧ cmdK.R 58 w1 base ok v1 (xs ++ [x]) ∧ W.grownBy w1 v.ownBlock := by
  obtain ⟨v1, w1, hr, hR1, hg, _⟩ := R_rows_run (P := Try.prog) cmdK base 30 30 58 _ 32 Try.underlying30 info_cmd rfl (by decide) (by decide) v xs [x] Aq 1 cq ok (fun _ => False) h hC (fun x cs h => by rw [cmdFlat.K h]; exact cmdFlat.M _ _ _ _) (fun _ h => h.elim) hfresh hbase (by omega)
  exact ⟨v1, w1, hr, hR1, hg⟩
/-- What the reading ends in. -/
def ReadEnd (w : World) (gs : Nat) (m : Except Int Rec) (r : Ending) (w' : World) : Prop := Fr (fun k => k = gs) w w' ∧ match m with
  | .error e => r = panE e
  | .ok R => ∃ Ad Ab cd cb, r = .returned (recV R Ad Ab cd cb) ∧ ∀ w2, Fr (fun b => b ≤ gs) w' w2 → RecAt w2 R Ad Ab cd cb
theorem ReadEnd.err {w w' : World} {gs : Nat} {m : Except Int Rec} {e : Int} {r : Ending} (hm : m = .error e) (hF : Fr (fun k => k = gs) w w') (hr : r = panE e) : ReadEnd w gs m r w' := by subst hm; exact ⟨hF, hr⟩
theorem ReadEnd.ok {w w' : World} {gs : Nat} {m : Except Int Rec} {R : Rec} {r : Ending} (hm : m = .ok R) (hF : Fr (fun k => k = gs) w w') (h : ∃ Ad Ab cd cb, r = .returned (recV R Ad Ab cd cb) ∧ ∀ w2, Fr (fun b => b ≤ gs) w' w2 → RecAt w2 R Ad Ab cd cb) : ReadEnd w gs m r w' := by subst hm; exact ⟨hF, h⟩
set_option maxRecDepth 100000 in
set_option maxHeartbeats 8000000 in
theorem src_read (gs : Nat) (A : Option Addr) (xs : List Int) (c : Nat) (w : World) (h : SrcAt w gs A xs c) :
    Calls Try.prog 18 #[.pointer (some ⟨gs, 0, none⟩)] w (ReadEnd w gs (readR xs)) := by
  have hmf : ∀ (fn : Fn) (first cap : Array Value) (w : World), (Instr.makeFunc fn first cap).run Try.prog w = .ok (.func fn first cap) w := fun _ _ _ _ => rfl
  have HL := Lib.hid h.blk.lt
  have hF0 := ((Fr.refl (fun _ => False) w).alloc (.cells #[.int .i64 0, .int .i64 0, .int .i64 0, .slice none 0 0, .slice none 0 0] 32)).alloc (.cells #[.int .i64 0, .int .i64 0, .int .i64 0, .slice none 0 0, .slice none 0 0] 32)
  have hR0 := (Blk.new w 32 #[.int .i64 0, .int .i64 0, .int .i64 0, .slice none 0 0, .slice none 0 0]).alloc (.cells #[.int .i64 0, .int .i64 0, .int .i64 0, .slice none 0 0, .slice none 0 0] 32)
  have hX0 := Blk.new (w.alloc (.cells #[.int .i64 0, .int .i64 0, .int .i64 0, .slice none 0 0, .slice none 0 0] 32)) 32 #[.int .i64 0, .int .i64 0, .int .i64 0, .slice none 0 0, .slice none 0 0]
  rw [World.size_alloc] at hX0
  have HS0 := Lib.hid (h.fr hF0)
  have HF0 := Lib.hid (hF0.mono (S' := fun k => k = gs) (fun _ _ h => h.elim))
  have HR0 := Lib.hid hR0
  have HX0 := Lib.hid hX0
  have HD0 := Lib.hid (show readR xs = thenR (numR xs) fun i1 a => thenR (numR a) fun i2 b => thenR (numR b) fun q c => thenR (numR c) fun nd d => if 16 < nd then .error 10 else
    thenR (manyR idR nd d) fun D e => thenR (numR e) fun nb f => if 8 < nb then .error 5 else thenR (manyR cmdR nb f) fun B g => endR (((i1 : Int), (i2 : Int)), (q : Int), D, B) g from rfl)
  obtain ⟨A0, hA0⟩ : ∃ A0, A0 = A := ⟨_, rfl⟩
  obtain ⟨c0, hc0⟩ : ∃ c0, c0 = c := ⟨_, rfl⟩
  rw [← hA0, ← hc0] at HS0
  clear h hF0 hR0 hX0 hA0 hc0
  go_enter Try.func18, Try.ntmps18
  go_wp2_with fail
  refine (src_num gs A0 xs c0 _ HS0.out).mono ?_
  rintro r w1 ⟨hF, hm⟩
  cases hn : numR xs with
  | error e =>
    rw [hn] at hm
    subst hm
    exact ⟨rfl, ReadEnd.err (by rw [HD0.out, hn]; rfl) (HF0.out.trans hF) rfl⟩
  | ok p =>
    obtain ⟨n1, x1⟩ := p
    rw [hn] at hm
    obtain ⟨rfl, A1, c1, hS⟩ := hm
    have hd := HD0.out
    rw [hn, thenR_ok rfl] at hd
    have hnb := (numR_inv HS0.out.byt hn).2
    have HD1 := Lib.hid hd
    have HX1 := Lib.hid (HX0.out.fr hF (fun e => by have := HL.out; omega))
    have HR1 := Lib.hid (HR0.out.fr hF (fun e => by have := HL.out; omega))
    have HF1 := Lib.hid (HF0.out.trans hF)
    have HS1 := Lib.hid hS
    have HN1 := Lib.hid hnb
    clear hd hF hS hn hnb HX0 HR0 HF0 HS0 HD0
    go_wp2_with fail
    refine (src_num gs A1 x1 c1 _ HS1.out).mono ?_
    rintro r w2 ⟨hF, hm⟩
    cases hn : numR x1 with
    | error e =>
      rw [hn] at hm
      subst hm
      exact ⟨rfl, ReadEnd.err (by rw [HD1.out, hn]; rfl) (HF1.out.trans hF) rfl⟩
    | ok p =>
      obtain ⟨n2, x2⟩ := p
      rw [hn] at hm
      obtain ⟨rfl, A2, c2, hS⟩ := hm
      have hd := HD1.out
      rw [hn, thenR_ok rfl] at hd
      have hnb := (numR_inv HS1.out.byt hn).2
      have HD2 := Lib.hid hd
      have HX2 := Lib.hid (HX1.out.fr hF (fun e => by have := HL.out; omega))
      have HR2 := Lib.hid (HR1.out.fr hF (fun e => by have := HL.out; omega))
      have HF2 := Lib.hid (HF1.out.trans hF)
      have HS2 := Lib.hid hS
      have HN2 := Lib.hid hnb
      clear hd hF hS hn hnb HX1 HR1 HF1 HS1 HD1
      have k0 := HX2.out.cell 0
      have k1 := HX2.out.cell 1
      have kf := HX2.out.frozen
      simp only [List.getElem?_toArray, List.getElem?_cons_zero, List.getElem?_cons_succ] at k0 k1
      go_wp2_with fail
      clear k0 k1 kf
      have hS := HS2.out.far (((Fr.refl (fun k => gs < k) w2).setCell (p := ⟨w.heap.size + 1, 0, none⟩) (.inl (by have := HL.out; show gs < w.heap.size + 1; omega)) (.int .i64 (n1 : Int))).setCell (p := ⟨w.heap.size + 1, 1, none⟩) (.inl (by have := HL.out; show gs < w.heap.size + 1; omega)) (.int .i64 (n2 : Int)))
      have hX := (HX2.out.set_ 0 (.int .i64 (n1 : Int))).set_ 1 (.int .i64 (n2 : Int))
      have hR := (HR2.out.far (p := ⟨w.heap.size + 1, 0, none⟩) (by show w.heap.size ≠ w.heap.size + 1; omega) (.int .i64 (n1 : Int))).far (p := ⟨w.heap.size + 1, 1, none⟩) (by show w.heap.size ≠ w.heap.size + 1; omega) (.int .i64 (n2 : Int))
      have hF := (HF2.out.setCell (p := ⟨w.heap.size + 1, 0, none⟩) (.inr (Nat.le_succ _)) (.int .i64 (n1 : Int))).setCell (p := ⟨w.heap.size + 1, 1, none⟩) (.inr (Nat.le_succ _)) (.int .i64 (n2 : Int))
      generalize (w2.setCell ⟨w.heap.size + 1, 0, none⟩ (.int .i64 (n1 : Int))).setCell ⟨w.heap.size + 1, 1, none⟩ (.int .i64 (n2 : Int)) = w3 at hS hX hR hF ⊢
      have HS3 := Lib.hid hS
      have HX3 := Lib.hid (show Blk w3 (w.heap.size + 1) 32 #[.int .i64 (n1 : Int), .int .i64 (n2 : Int), .int .i64 0, .slice none 0 0, .slice none 0 0] from hX)
      have HR3 := Lib.hid hR
      have HF3 := Lib.hid hF
      have HD3 := HD2
      clear hS hX hR hF HS2 HX2 HR2 HF2 HD2
      refine (src_num gs A2 x2 c2 _ HS3.out).mono ?_
      rintro r w4 ⟨hF, hm⟩
      cases hn : numR x2 with
      | error e =>
        rw [hn] at hm
        subst hm
        exact ⟨rfl, ReadEnd.err (by rw [HD3.out, hn]; rfl) (HF3.out.trans hF) rfl⟩
      | ok p =>
        obtain ⟨n4, x4⟩ := p
        rw [hn] at hm
        obtain ⟨rfl, A4, c4, hS⟩ := hm
        have hd := HD3.out
        rw [hn, thenR_ok rfl] at hd
        have hnb := (numR_inv HS3.out.byt hn).2
        have HD4 := Lib.hid hd
        have HX4 := Lib.hid (HX3.out.fr hF (fun e => by have := HL.out; omega))
        have HR4 := Lib.hid (HR3.out.fr hF (fun e => by have := HL.out; omega))
        have HF4 := Lib.hid (HF3.out.trans hF)
        have HS4 := Lib.hid hS
        have HN4 := Lib.hid hnb
        clear hd hF hS hn hnb HX3 HR3 HF3 HS3 HD3
        have k0 := HX4.out.cell 2
        have kf := HX4.out.frozen
        simp only [List.getElem?_toArray, List.getElem?_cons_zero, List.getElem?_cons_succ] at k0
        go_wp2_with fail
        clear k0 kf
        have hS := HS4.out.far ((Fr.refl (fun k => gs < k) w4).setCell (p := ⟨w.heap.size + 1, 2, none⟩) (.inl (by have := HL.out; show gs < w.heap.size + 1; omega)) (.int .i64 (n4 : Int)))
        have hX := HX4.out.set_ 2 (.int .i64 (n4 : Int))
        have hR := HR4.out.far (p := ⟨w.heap.size + 1, 2, none⟩) (by show w.heap.size ≠ w.heap.size + 1; omega) (.int .i64 (n4 : Int))
        have hF := HF4.out.setCell (p := ⟨w.heap.size + 1, 2, none⟩) (.inr (Nat.le_succ _)) (.int .i64 (n4 : Int))
        generalize w4.setCell ⟨w.heap.size + 1, 2, none⟩ (.int .i64 (n4 : Int)) = w5 at hS hX hR hF ⊢
        have HS5 := Lib.hid hS
        have HX5 := Lib.hid (show Blk w5 (w.heap.size + 1) 32 #[.int .i64 (n1 : Int), .int .i64 (n2 : Int), .int .i64 (n4 : Int), .slice none 0 0, .slice none 0 0] from hX)
        have HR5 := Lib.hid hR
        have HF5 := Lib.hid hF
        have HD5 := HD4
        clear hS hX hR hF HS4 HX4 HR4 HF4 HD4
        refine (src_num gs A4 x4 c4 _ HS5.out).mono ?_
        rintro r w6 ⟨hF, hm⟩
        cases hn : numR x4 with
        | error e =>
          rw [hn] at hm
          subst hm
          exact ⟨rfl, ReadEnd.err (by rw [HD5.out, hn]; rfl) (HF5.out.trans hF) rfl⟩
        | ok p =>
          obtain ⟨n6, x6⟩ := p
          rw [hn] at hm
          obtain ⟨rfl, A6, c6, hS⟩ := hm
          have hd := HD5.out
          rw [hn, thenR_ok rfl] at hd
          have hnb := (numR_inv HS5.out.byt hn).2
          have HD6 := Lib.hid hd
          have HX6 := Lib.hid (HX5.out.fr hF (fun e => by have := HL.out; omega))
          have HR6 := Lib.hid (HR5.out.fr hF (fun e => by have := HL.out; omega))
          have HF6 := Lib.hid (HF5.out.trans hF)
          have HS6 := Lib.hid hS
          have HN6 := Lib.hid hnb
          clear hd hF hS hn hnb HX5 HR5 HF5 HS5 HD5
          by_cases hk : 16 < n6
          · have tk : decide ((16 : Int) < (n6 : Int)) = true := decide_eq_true (by omega)
            have hd := HD6.out
            rw [if_pos hk] at hd
            have HD7 := Lib.hid hd
            clear hd
            go_wp2_with fail
            refine (must_no 10 (by decide) _).mono ?_
            rintro r w7 ⟨rfl, rfl⟩
            exact ⟨rfl, ReadEnd.err HD7.out HF6.out rfl⟩
          · have tk : decide ((16 : Int) < (n6 : Int)) = false := decide_eq_false (by omega)
            have hd := HD6.out
            rw [if_neg hk] at hd
            have HDD := Lib.hid hd
            have HND := Lib.hid (show n6 ≤ 16 from by omega)
            clear hd hk HD6
            have HBS := Lib.hid (show gs < w6.heap.size ∧ w.heap.size + 1 < w6.heap.size from by have := HX6.out.lt; have := HL.out; omega)
            go_wp2_with fail
            clear tk
            go_loopw [29] (fun i wr => ∃ (k : Nat) (D : List (Int × Int)) (ys : List Int) (Ak Ad : Option Addr) (ck cd : Nat), k ≤ n6 ∧ i = .int .i64 k ∧ D.length = k ∧ manyR idR k x6 = .ok (D, ys) ∧ SrcAt wr gs Ak ys ck ∧ Blk wr (w.heap.size + 1) 32 #[.int .i64 (n1 : Int), .int .i64 (n2 : Int), .int .i64 (n4 : Int), .slice Ad D.length cd, .slice none 0 0] ∧ Blk wr w.heap.size 32 #[.int .i64 0, .int .i64 0, .int .i64 0, .slice none 0 0, .slice none 0 0] ∧ idK.R 28 wr w6.heap.size (fun b => w6.heap.size ≤ b) (.slice Ad D.length cd) D ∧ Fr (fun k => k = gs) w wr ∧ w6.heap.size ≤ wr.heap.size) (fun i _ => n6 - (intOf i).toNat)
            case atStart => exact ⟨0, [], x6, A6, none, c6, 0, Nat.zero_le _, rfl, rfl, rfl, HS6.out, HX6.out, HR6.out, Kd.R_nil _ _ _ _ _, HF6.out, Nat.le_refl _⟩
            case round =>
              obtain ⟨k, D, ys, Ak, Ad, ck, cd, hk, rfl, hDl, hM, hS, hX, hR, hD, hF, hZ⟩ := hrel
              have HZr := Lib.hid hZ
              have HSr := Lib.hid hS
              have HXr := Lib.hid hX
              have HRr := Lib.hid hR
              have HDr := Lib.hid hD
              have HFr := Lib.hid hF
              have HM := Lib.hid hM
              have HDL := Lib.hid hDl
              clear hS hX hR hD hF hM hDl hZ HS6 HX6 HR6 HF6
              rcases Nat.lt_or_ge k n6 with hlt | hge
              · have k100 : k < 100 := by have := HND.out; omega
                go_wp2_with fail
                refine (src_num gs Ak ys ck _ HSr.out).mono ?_
                rintro r w7 ⟨hF, hm⟩
                cases hn : numR ys with
                | error e =>
                  rw [hn] at hm
                  subst hm
                  exact ⟨rfl, ReadEnd.err (by rw [HDD.out, manyR_err HM.out (show idR ys = .error e from by unfold idR; rw [hn]; rfl) n6 hlt]; rfl) (HFr.out.trans hF) rfl⟩
                | ok p =>
                  obtain ⟨n7, x7⟩ := p
                  rw [hn] at hm
                  obtain ⟨rfl, A7, c7, hS⟩ := hm
                  have HQ7 := Lib.hid hn
                  have HX7 := Lib.hid (HXr.out.fr hF (fun e => by have := HL.out; omega))
                  have HR7 := Lib.hid (HRr.out.fr hF (fun e => by have := HL.out; omega))
                  have HD7 := Lib.hid (Kd.R_step HDr.out (fun b hb hl => hF.block b hl (fun e => by have h1 : w6.heap.size ≤ b := hb; have := HBS.out; omega)))
                  have HF7 := Lib.hid (HFr.out.trans hF)
                  have HS7 := Lib.hid hS
                  have HZ7 := Lib.hid (Nat.le_trans HZr.out hF.size)
                  clear hF hS hn HXr HRr HFr HSr HDr HZr
                  go_wp2_with fail
                  refine (src_num gs A7 x7 c7 _ HS7.out).mono ?_
                  rintro r w8 ⟨hF, hm⟩
                  cases hn : numR x7 with
                  | error e =>
                    rw [hn] at hm
                    subst hm
                    exact ⟨rfl, ReadEnd.err (by rw [HDD.out, manyR_err HM.out (show idR ys = .error e from by unfold idR; rw [thenR_ok HQ7.out, hn]; rfl) n6 hlt]; rfl) (HF7.out.trans hF) rfl⟩
                  | ok p =>
                    obtain ⟨n8, x8⟩ := p
                    rw [hn] at hm
                    obtain ⟨rfl, A8, c8, hS⟩ := hm
                    have HQ8 := Lib.hid hn
                    have HX8 := Lib.hid (HX7.out.fr hF (fun e => by have := HL.out; omega))
                    have HR8 := Lib.hid (HR7.out.fr hF (fun e => by have := HL.out; omega))
                    have HD8 := Lib.hid (Kd.R_step HD7.out (fun b hb hl => hF.block b hl (fun e => by have h1 : w6.heap.size ≤ b := hb; have := HBS.out; omega)))
                    have HF8 := Lib.hid (HF7.out.trans hF)
                    have HS8 := Lib.hid hS
                    have HZ8 := Lib.hid (Nat.le_trans HZ7.out hF.size)
                    clear hF hS hn HX7 HR7 HF7 HS7 HD7 HZ7
                    have k3 := HX8.out.cell 3
                    simp only [List.getElem?_toArray, List.getElem?_cons_zero, List.getElem?_cons_succ] at k3
                    go_wp2_with (at_builtin; refine Kd.R_append idK w6.heap.size rfl (.tmp 36) (.tmp 40) 29 28 _ 16 rfl Try.underlying29 info_id rfl (show 0 < idK.sz by decide) (by decide) (.slice Ad D.length cd) D ((n7 : Int), (n8 : Int)) (idCells ((n7 : Int), (n8 : Int))) (fun b => w6.heap.size ≤ b) (fun _ => False) (by rfl) (by rfl) (idK_M _ _ _ _) (fun _ h => h.elim) (fun b hb => Nat.le_trans HZ8.out hb) HD8.out (Below.refl _ _) HZ8.out (by have := HDL.out; omega) ?_; intro v1 W9 hR9 hB9 hg9 hat9; obtain ⟨A9, c9, rfl⟩ := Kd.R_slice hR9; have hX9 := HX8.out.fr (Fr.of_grown hg9) (Kd.R_ne HD8.out HX8.out (by decide)); have k3 := hX9.cell 3; have kf := hX9.frozen; simp only [List.getElem?_toArray, List.getElem?_cons_zero, List.getElem?_cons_succ] at k3; have HX9 := Lib.hid hX9; have HD9 := Lib.hid hR9; have HG9 := Lib.hid hg9; clear hX9 hR9 hB9 hg9 hat9)
                    have hgf : Fr (fun b => w6.heap.size ≤ b) w8 W9 := (Fr.of_grown HG9.out).mono (fun i hi h => Kd.R_base HD8.out i h.symm)
                    have HGF := Lib.hid hgf
                    have HNL := Lib.hid (show (D ++ [((n7 : Int), (n8 : Int))]).length = k + 1 from by rw [List.length_append, HDL.out]; rfl)
                    clear hgf k3 kf
                    go_roundw
                    case rel =>
                      refine ⟨k + 1, D ++ [((n7 : Int), (n8 : Int))], x8, A8, A9, c8, c9, by omega, by go_num, HNL.out, manyR_step HM.out (by unfold idR; rw [thenR_ok HQ7.out, thenR_ok HQ8.out]), ?_, ?_, ?_, ?_, ?_, ?_⟩
                      · exact HS8.out.far ((HGF.out.mono (fun i hi h => by have h1 : w6.heap.size ≤ i := h; have := HBS.out; show gs < i; omega)).setCell (p := ⟨w.heap.size + 1, 3, none⟩) (.inl (by have := HL.out; show gs < w.heap.size + 1; omega)) _)
                      · rw [show (D ++ [((n7 : Int), (n8 : Int))]).length = D.length + 1 from by simp]
                        exact HX9.out.set_ 3 _
                      · exact (HR8.out.fr HGF.out (fun h => by have h1 : w6.heap.size ≤ w.heap.size := h; have := HBS.out; omega)).far (p := ⟨w.heap.size + 1, 3, none⟩) (by show w.heap.size ≠ w.heap.size + 1; omega) _
                      · exact Kd.R_far HD9.out (p := ⟨w.heap.size + 1, 3, none⟩) (fun b hb => by have h1 : w6.heap.size ≤ b := hb; have := HBS.out; show b ≠ w.heap.size + 1; omega) _
                      · exact (HF8.out.trans' HGF.out (fun i hi h => by have h1 : w6.heap.size ≤ i := h; have := HBS.out; omega)).setCell (p := ⟨w.heap.size + 1, 3, none⟩) (.inr (Nat.le_succ _)) _
                      · exact Nat.le_trans (Nat.le_trans HZ8.out HGF.out.size) (Nat.le_of_eq (by simp [World.setCell]))
                    case measure => simp [intOf]; omega
              · obtain rfl : n6 = k := by omega
                have tnn : decide (n6 < n6) = false := decide_eq_false (by omega)
                have hd := HDD.out
                rw [thenR_ok HM.out] at hd
                have HDr2 := Lib.hid hd
                obtain ⟨nD, hnD⟩ : ∃ x, x = D.length := ⟨_, rfl⟩
                clear hd hge hk HM
                go_wp2_with fail
                clear tnn
                refine (src_num gs Ak ys ck _ HSr.out).mono ?_
                rintro r w10 ⟨hF, hm⟩
                cases hn : numR ys with
                | error e =>
                  rw [hn] at hm
                  subst hm
                  exact ⟨rfl, ReadEnd.err (by rw [HDr2.out, hn]; rfl) (HFr.out.trans hF) rfl⟩
                | ok p =>
                  obtain ⟨n10, x10⟩ := p
                  rw [hn] at hm
                  obtain ⟨rfl, A10, c10, hS⟩ := hm
                  have HQ10 := Lib.hid hn
                  have HX10 := Lib.hid (HXr.out.fr hF (fun e => by have := HL.out; omega))
                  have HR10 := Lib.hid (HRr.out.fr hF (fun e => by have := HL.out; omega))
                  have HD10 := Lib.hid (Kd.R_step HDr.out (fun b hb hl => hF.block b hl (fun e => by have h1 : w6.heap.size ≤ b := hb; have := HBS.out; omega)))
                  have HF10 := Lib.hid (HFr.out.trans hF)
                  have HS10 := Lib.hid hS
                  have HZ10 := Lib.hid (Nat.le_trans HZr.out hF.size)
                  clear hF hS hn HXr HRr HFr HSr HDr HZr
                  have hd := HDr2.out
                  rw [thenR_ok HQ10.out] at hd
                  by_cases hk8 : 8 < n10
                  · have tk : decide ((8 : Int) < (n10 : Int)) = true := decide_eq_true (by omega)
                    rw [if_pos hk8] at hd
                    have HD7 := Lib.hid hd
                    clear hd hk8
                    go_wp2_with fail
                    refine (must_no 5 (by decide) _).mono ?_
                    rintro r w7 ⟨rfl, rfl⟩
                    exact ⟨rfl, ReadEnd.err HD7.out HF10.out rfl⟩
                  · have tk : decide ((8 : Int) < (n10 : Int)) = false := decide_eq_false (by omega)
                    rw [if_neg hk8] at hd
                    have HDD2 := Lib.hid hd
                    have HND2 := Lib.hid (show n10 ≤ 8 from by omega)
                    have HB10 := Lib.hid (show gs < w10.heap.size ∧ w.heap.size + 1 < w10.heap.size from by have := HBS.out; have := HZ10.out; omega)
                    have HDb := Lib.hid (Kd.R_mono (Kd.R_bound HD10.out) (ok' := fun b => w6.heap.size ≤ b ∧ b < w10.heap.size) (fun b hb => ⟨hb.1, hb.2.2.1⟩))
                    have HBY := Lib.hid HS10.out.byt
                    clear hd hk8 HDr2 HD10
                    go_wp2_with fail
                    clear tk
                    go_loopw [50] (fun i wp => ∃ (k : Nat) (B : List Cmd) (zs : List Int) (Aj Ab : Option Addr) (cj cb : Nat), k ≤ n10 ∧ i = .int .i64 k ∧ B.length = k ∧ manyR cmdR k x10 = .ok (B, zs) ∧ SrcAt wp gs Aj zs cj ∧ Blk wp (w.heap.size + 1) 32 #[.int .i64 (n1 : Int), .int .i64 (n2 : Int), .int .i64 (n4 : Int), .slice Ad D.length cd, .slice Ab B.length cb] ∧ Blk wp w.heap.size 32 #[.int .i64 0, .int .i64 0, .int .i64 0, .slice none 0 0, .slice none 0 0] ∧ idK.R 28 wp w6.heap.size (fun b => w6.heap.size ≤ b ∧ b < w10.heap.size) (.slice Ad D.length cd) D ∧ cmdK.R 58 wp w10.heap.size (fun b => w10.heap.size ≤ b) (.slice Ab B.length cb) B ∧ Fr (fun k => k = gs) w wp ∧ w10.heap.size ≤ wp.heap.size) (fun i _ => n10 - (intOf i).toNat)
                    case atStart => exact ⟨0, [], x10, A10, none, c10, 0, Nat.zero_le _, rfl, rfl, rfl, HS10.out, HX10.out, HR10.out, HDb.out, Kd.R_nil _ _ _ _ _, HF10.out, Nat.le_refl _⟩
                    case round =>
                      obtain ⟨wq, rfl⟩ : ∃ x, x = wr := ⟨_, rfl⟩
                      obtain ⟨k, B, zs, Aj, Ab, cj, cb, hk, rfl, hBl, hM, hS, hX, hR, hD, hB, hF, hZ⟩ := hrel
                      have HSq := Lib.hid hS
                      have HXq := Lib.hid hX
                      have HRq := Lib.hid hR
                      have HDq := Lib.hid hD
                      have HBq := Lib.hid hB
                      have HFq := Lib.hid hF
                      have HZq := Lib.hid hZ
                      have HMq := Lib.hid hM
                      have HBL := Lib.hid hBl
                      clear hS hX hR hD hB hF hZ hM hBl HS10 HX10 HR10 HDb HF10
                      rcases Nat.lt_or_ge k n10 with hlt | hge
                      · have k100 : k < 100 := by have := HND2.out; omega
                        obtain ⟨St, hSt⟩ : ∃ St : World → Prop, St = fun x => x.cell? ⟨w.heap.size + 1, 4, none⟩ = some (.slice Ab B.length cb) := ⟨_, rfl⟩
                        have y4 : ∀ x, At St x → x.cell? ⟨w.heap.size + 1, 4, none⟩ = some (.slice Ab B.length cb) := fun x h => by have h1 := h.out; rw [hSt] at h1; exact h1
                        have HMK := Lib.hid (show ∀ x, Blk x (w.heap.size + 1) 32 #[.int .i64 (n1 : Int), .int .i64 (n2 : Int), .int .i64 (n4 : Int), .slice Ad D.length cd, .slice Ab B.length cb] → At St x from fun x h => by unfold At; rw [hSt]; exact h.cell 4)
                        have hT0 : At St wq.drew := HMK.out _ (HXq.out.fr (Fr.refl (fun _ => False) wq).drew (fun h => h))
                        clear hSt
                        go_wp2_with fail
                        refine rt_start [7] (At St) 8 (by kernel_rfl) rfl ?_
                        refine rt_free 0 (v := ?_) rfl (by kernel_rfl) (by kernel_rfl) (by kernel_rfl) (by kernel_rfl) (fun _ _ _ h => h) (by rfl) (fun _ => by first | assumption | exact HS0 _ rfl | exact HT.out _ (by repeat (first | exact Fr.refl _ _ | apply Fr.drew | refine Fr.alloc ?_ _))) ?_ ?_
                        rotate_left 1
                        · intro w; go_simp <;> with_reducible rfl
                        try simp only [Act.put, List.setIfInBounds_toArray, List.set_cons_zero, List.set_cons_succ]
                        refine rt_take 1 (v := ?_) rfl (by kernel_rfl) (by kernel_rfl) (by kernel_rfl) (by kernel_rfl) (fun _ _ _ h => h) (by rfl) (by first | assumption | exact HS0 _ rfl | exact HT.out _ (by repeat (first | exact Fr.refl _ _ | apply Fr.drew | refine Fr.alloc ?_ _))) ?_ ?_
                        rotate_left 1
                        · intro w hSw; go_simp <;> with_reducible rfl
                        try simp only [Act.put, List.setIfInBounds_toArray, List.set_cons_zero, List.set_cons_succ]
                        refine rt_free 2 (v := ?_) rfl (by kernel_rfl) (by kernel_rfl) (by kernel_rfl) (by kernel_rfl) (fun _ _ _ h => h) (by rfl) (fun _ => by first | assumption | exact HS0 _ rfl | exact HT.out _ (by repeat (first | exact Fr.refl _ _ | apply Fr.drew | refine Fr.alloc ?_ _))) ?_ ?_
                        rotate_left 1
                        · intro w; go_simp <;> with_reducible rfl
                        try simp only [Act.put, List.setIfInBounds_toArray, List.set_cons_zero, List.set_cons_succ]
                        refine rt_one 3 rfl (by kernel_rfl) (fun K hK => ?_)
                        go_simp
                        refine (src_cmd gs Aj zs cj _ (HSq.out.fr (Fr.refl _ _).drew)).mono ?_
                        rintro r W4 ⟨hF4, hm⟩
                        rcases hn : cmdR zs with e | p
                        focus (rw [hn] at hm; subst hm; exact ⟨rfl, ReadEnd.err (by rw [HDD2.out, manyR_err HMq.out hn n10 hlt]; rfl) (HFq.out.trans ((Fr.refl (fun k => k = gs) wq).drew.trans hF4)) rfl⟩)
                        obtain ⟨x, us⟩ := p
                        rw [hn] at hm
                        obtain ⟨rfl, A4, c4, hS4⟩ := hm
                        have hF4 := (Fr.refl (fun k => k = gs) wq).drew.trans hF4
                        have HN4 := Lib.hid hn
                        have HX4 := Lib.hid (HXq.out.fr hF4 (fun e => by have := HL.out; omega))
                        have HR4 := Lib.hid (HRq.out.fr hF4 (fun e => by have := HL.out; omega))
                        have HD4 := Lib.hid (Kd.R_step HDq.out (fun b hb hl => hF4.block b hl (fun e => by have h1 := hb.1; have := HBS.out; omega)))
                        have HB4 := Lib.hid (Kd.R_step HBq.out (fun b hb hl => hF4.block b hl (fun e => by have h1 : w10.heap.size ≤ b := hb; have := HB10.out; omega)))
                        have HF4 := Lib.hid (HFq.out.trans hF4)
                        have HS4 := Lib.hid hS4
                        have HZ4 := Lib.hid (Nat.le_trans HZq.out hF4.size)
                        have hT4 := HMK.out _ HX4.out
                        clear hF4 hS4 hn HSq HXq HRq HDq HBq HFq HZq hT0
                        refine hK.out (At St) _ _ (fun _ h => h) (fun _ => by (assumption)) ?_
                        clear hK K
                        try simp only [Act.put, List.setIfInBounds_toArray, List.set_cons_zero, List.set_cons_succ]
                        refine rt_one 4 rfl (by kernel_rfl) (fun K hK => ?_)
                        go_simp
                        have hA4 := (Fr.refl (fun _ => False) W4).alloc (.cells #[.int .i64 x.1, .string x.2.1, .float .f64 x.2.2] 58)
                        have HC5 := Lib.hid (cmdFlat.blk_C (L := [x]) (Blk.new W4 58 #[.int .i64 x.1, .string x.2.1, .float .f64 x.2.2]) (by simp))
                        have HX5 := Lib.hid (HX4.out.fr hA4 (fun h => h))
                        have HR5 := Lib.hid (HR4.out.fr hA4 (fun h => h))
                        have HD5 := Lib.hid (Kd.R_alloc HD4.out (.cells #[.int .i64 x.1, .string x.2.1, .float .f64 x.2.2] 58))
                        have HB5 := Lib.hid (Kd.R_alloc HB4.out (.cells #[.int .i64 x.1, .string x.2.1, .float .f64 x.2.2] 58))
                        have HF5 := Lib.hid (HF4.out.trans (hA4.mono (fun _ _ h => h.elim)))
                        have HS5 := Lib.hid (HS4.out.fr hA4)
                        have HZ5 := Lib.hid (Nat.le_trans HZ4.out hA4.size)
                        have hT5 := HMK.out _ HX5.out
                        clear hA4 hT4 HX4 HR4 HD4 HB4 HF4 HS4 HZ4
                        generalize W4.heap.size = gx at HC5 ⊢
                        generalize World.alloc _ _ = W5 at HC5 HX5 HR5 HD5 HB5 HF5 HS5 HZ5 hT5 ⊢
                        refine hK.out (At St) _ _ (fun _ h => h) (fun _ => by (assumption)) ?_
                        clear hK K
                        try simp only [Act.put, List.setIfInBounds_toArray, List.set_cons_zero, List.set_cons_succ]
                        refine rt_one 5 rfl (by kernel_rfl) (fun K hK => ?_)
                        obtain ⟨v6, W6, hr, hB6, hg6⟩ := app_cmd x HB5.out HC5.out (fun b hb => Nat.le_trans HZ5.out hb) HZ5.out (by have := HBL.out; omega)
                        refine step_builtin2 rfl rfl rfl rfl (bi_append hr) ?_
                        obtain ⟨A6, c6', rfl⟩ := Kd.R_slice hB6
                        have hF6 : Fr (fun b => w10.heap.size ≤ b) W5 W6 := (Fr.of_grown hg6).mono (fun i hi h => Kd.R_base HB5.out i h.symm)
                        have hX6 := HX5.out.fr hF6 (fun h => by have h1 : w10.heap.size ≤ w.heap.size + 1 := h; have := HB10.out; omega)
                        have HX6 := Lib.hid hX6
                        have HR6 := Lib.hid (HR5.out.fr hF6 (fun h => by have h1 : w10.heap.size ≤ w.heap.size := h; have := HB10.out; omega))
                        have HD6 := Lib.hid (Kd.R_step HD5.out (fun b hb hl => hF6.block b hl (fun e => by have h1 := hb.2; have h2 : w10.heap.size ≤ b := e; omega)))
                        have HB6 := Lib.hid hB6
                        have HF6 := Lib.hid (HF5.out.trans' hF6 (fun i hi h => by have h1 : w10.heap.size ≤ i := h; have := HB10.out; omega))
                        have HS6 := Lib.hid (HS5.out.far (hF6.mono (fun i hi h => by have h1 : w10.heap.size ≤ i := h; have := HB10.out; show gs < i; omega)))
                        have HZ6 := Lib.hid (Nat.le_trans HZ5.out hF6.size)
                        have hT6 := HMK.out _ hX6
                        clear hr hg6 hF6 hX6 hB6 HX5 HR5 HD5 HB5 HF5 HS5 HZ5 HC5 hT5
                        refine hK.out (At St) _ _ (fun _ h => h) (fun _ => by (assumption)) ?_
                        clear hK K
                        try simp only [Act.put, List.setIfInBounds_toArray, List.set_cons_zero, List.set_cons_succ]
                        refine rt_free 6 (v := ?_) rfl (by kernel_rfl) (by kernel_rfl) (by kernel_rfl) (by kernel_rfl) (fun _ _ _ h => h) (by rfl) (fun _ => by first | assumption | exact HS0 _ rfl | exact HT.out _ (by repeat (first | exact Fr.refl _ _ | apply Fr.drew | refine Fr.alloc ?_ _))) ?_ ?_
                        rotate_left 1
                        · intro w; go_simp <;> with_reducible rfl
                        try simp only [Act.put, List.setIfInBounds_toArray, List.set_cons_zero, List.set_cons_succ]
                        refine rt_one 7 rfl (by kernel_rfl) (fun K hK => ?_)
                        have kf := HX6.out.frozen
                        have k4 := HX6.out.cell 4
                        simp only [List.getElem?_toArray, List.getElem?_cons_zero, List.getElem?_cons_succ] at k4
                        go_simp
                        refine hK.out (At St) _ _ (fun _ h => h) (late_abs (by kernel_rfl)) ?_
                        clear hK K
                        try simp only [Act.put, List.setIfInBounds_toArray, List.set_cons_zero, List.set_cons_succ]
                        refine rt_done (by kernel_rfl) ?_
                        have HNL := Lib.hid (show (B ++ [x]).length = k + 1 from by rw [List.length_append, HBL.out]; rfl)
                        go_wp2_with fail
                        go_roundw
                        case rel =>
                          refine ⟨k + 1, B ++ [x], us, A4, A6, c4, c6', by omega, by go_num, HNL.out, manyR_step HMq.out HN4.out, ?_, ?_, ?_, ?_, ?_, ?_, ?_⟩
                          · exact HS6.out.far ((Fr.refl (fun k => gs < k) W6).setCell (p := ⟨w.heap.size + 1, 4, none⟩) (.inl (by have := HL.out; show gs < w.heap.size + 1; omega)) _)
                          · rw [show (B ++ [x]).length = B.length + 1 from by simp]
                            exact HX6.out.set_ 4 _
                          · exact HR6.out.far (p := ⟨w.heap.size + 1, 4, none⟩) (by show w.heap.size ≠ w.heap.size + 1; omega) _
                          · exact Kd.R_far HD6.out (p := ⟨w.heap.size + 1, 4, none⟩) (fun b hb => by have h1 := hb.1; have := HBS.out; show b ≠ w.heap.size + 1; omega) _
                          · exact Kd.R_far HB6.out (p := ⟨w.heap.size + 1, 4, none⟩) (fun b hb => by have h1 : w10.heap.size ≤ b := hb; have := HB10.out; show b ≠ w.heap.size + 1; omega) _
                          · exact HF6.out.setCell (p := ⟨w.heap.size + 1, 4, none⟩) (.inr (Nat.le_succ _)) _
                          · exact Nat.le_trans HZ6.out (Nat.le_of_eq (by simp [World.setCell]))
                        case measure => simp [intOf]; omega
                      · obtain rfl : n10 = k := by omega
                        have tnn : decide (n10 < n10) = false := decide_eq_false (by omega)
                        have hd := HDD2.out
                        rw [thenR_ok HMq.out] at hd
                        have HE := Lib.hid hd
                        have s0 := HSq.out.blk.cell 0
                        simp only [List.getElem?_toArray, List.getElem?_cons_zero, List.getElem?_cons_succ] at s0
                        obtain ⟨nz, hnz⟩ : ∃ x, x = zs.length := ⟨_, rfl⟩
                        rw [← hnz] at s0
                        have HNZ := Lib.hid hnz
                        have hnzb : nz ≤ 140737488355328 := by rw [hnz]; exact HSq.out.small
                        have HGD := Lib.hid (show RecGood (((n1 : Int), (n2 : Int)), (n4 : Int), D, B) from fun x hx => by
                          have h := (manyR_inv (enc := encCmd) (W := fun c : Cmd => canonCmd c = c ∧ c.2.1.size ≤ 12 ∧ c.2.2 < 18446744073709551616) (fun ys a zs hy h => cmdR_inv hy h) _ _ _ _ HBY.out HMq.out).2.2 x hx
                          exact ⟨Nat.le_trans h.2.1 (by decide), h.2.2⟩)
                        have HRA := Lib.hid (show RecAt wq (((n1 : Int), (n2 : Int)), (n4 : Int), D, B) Ad Ab cd cb from ⟨(Kd.R_reads' HDq.out).2.1, (Kd.R_reads' HBq.out).2.1, (Kd.R_reads' HDq.out).2.2, (Kd.R_reads' HBq.out).2.2⟩)
                        have y0 := HXq.out.cell 0
                        have y1 := HXq.out.cell 1
                        have y2 := HXq.out.cell 2
                        have y3 := HXq.out.cell 3
                        have y4 := HXq.out.cell 4
                        simp only [List.getElem?_toArray, List.getElem?_cons_zero, List.getElem?_cons_succ] at y0 y1 y2 y3 y4
                        clear hd hge hk HMq hnz
                        rcases Nat.eq_zero_or_pos nz with hz | hz
                        · subst hz
                          have hzs : zs = [] := List.length_eq_zero_iff.1 HNZ.out.symm
                          have HEE := Lib.hid (show readR xs = (if errRec (((n1 : Int), (n2 : Int)), (n4 : Int), D, B) = 0 then .ok (((n1 : Int), (n2 : Int)), (n4 : Int), D, B) else .error (errRec (((n1 : Int), (n2 : Int)), (n4 : Int), D, B))) from by rw [HE.out]; unfold endR; rw [if_pos hzs])
                          obtain ⟨R, hRR⟩ : ∃ R : Rec, R = (((n1 : Int), (n2 : Int)), (n4 : Int), D, B) := ⟨_, rfl⟩
                          rw [← hRR] at HEE
                          have HRR := Lib.hid hRR
                          clear hzs hRR
                          go_wp2_with fail
                          refine (rec_check (((n1 : Int), (n2 : Int)), (n4 : Int), D, B) Ad Ab cd cb _ HRA.out HGD.out).mono ?_
                          rintro r wz ⟨rfl, hFz⟩
                          rw [← HRR.out]
                          obtain ⟨e, he⟩ : ∃ e, e = errRec R := ⟨_, rfl⟩
                          rw [← he] at HEE ⊢
                          have HFz := Lib.hid hFz
                          have hXz := HXq.out.fr hFz (fun h => h)
                          have y0 := hXz.cell 0
                          have y1 := hXz.cell 1
                          have y2 := hXz.cell 2
                          have y3 := hXz.cell 3
                          have y4 := hXz.cell 4
                          have HRz := Lib.hid (HRq.out.fr hFz (fun h => h))
                          have z0 := HRz.out.cell 0
                          have z1 := HRz.out.cell 1
                          have z2 := HRz.out.cell 2
                          have z3 := HRz.out.cell 3
                          have z4 := HRz.out.cell 4
                          have zf := HRz.out.frozen
                          simp only [List.getElem?_toArray, List.getElem?_cons_zero, List.getElem?_cons_succ] at y0 y1 y2 y3 y4 z0 z1 z2 z3 z4
                          clear he hFz hXz
                          by_cases h0 : e = 0
                          · subst h0
                            go_wp2_with fail
                            refine (must_ok _).mono ?_
                            rintro r wy ⟨rfl, rfl⟩
                            go_wp2_with fail
                            have hRAf : ∀ wf, Fr (fun b => b ≤ w.heap.size) wq wf → RecAt wf (((n1 : Int), (n2 : Int)), (n4 : Int), D, B) Ad Ab cd cb := fun wf hFF => by
                              have hRD := Kd.R_step (w1 := wf) HDq.out (fun b hb hl => hFF.block b hl (fun e => by have h1 := hb.1; have := HBS.out; have e1 : b ≤ w.heap.size := e; omega))
                              have hRB := Kd.R_step (w1 := wf) HBq.out (fun b hb hl => hFF.block b hl (fun e => by have h1 : w10.heap.size ≤ b := hb; have := HB10.out; have e1 : b ≤ w.heap.size := e; omega))
                              exact ⟨(Kd.R_reads' hRD).2.1, (Kd.R_reads' hRB).2.1, (Kd.R_reads' hRD).2.2, (Kd.R_reads' hRB).2.2⟩
                            have hFF : Fr (fun b => b = w.heap.size) wq (((((wz.setCell ⟨w.heap.size, 0, none⟩ (.int .i64 (n1 : Int))).setCell ⟨w.heap.size, 1, none⟩ (.int .i64 (n2 : Int))).setCell ⟨w.heap.size, 2, none⟩ (.int .i64 (n4 : Int))).setCell ⟨w.heap.size, 3, none⟩ (.slice Ad D.length cd)).setCell ⟨w.heap.size, 4, none⟩ (.slice Ab B.length cb)) :=
                              (((((HFz.out.mono (S' := fun b => b = w.heap.size) (fun _ _ h => h.elim)).setCell (p := ⟨w.heap.size, 0, none⟩) (.inl rfl) _).setCell (p := ⟨w.heap.size, 1, none⟩) (.inl rfl) _).setCell (p := ⟨w.heap.size, 2, none⟩) (.inl rfl) _).setCell (p := ⟨w.heap.size, 3, none⟩) (.inl rfl) _).setCell (p := ⟨w.heap.size, 4, none⟩) (.inl rfl) _
                            have hFG := ((((((HFq.out.trans (HFz.out.mono (fun _ _ h => h.elim))).setCell (p := ⟨w.heap.size, 0, none⟩) (.inr (Nat.le_refl _)) (.int .i64 (n1 : Int))).setCell (p := ⟨w.heap.size, 1, none⟩) (.inr (Nat.le_refl _)) (.int .i64 (n2 : Int))).setCell (p := ⟨w.heap.size, 2, none⟩) (.inr (Nat.le_refl _)) (.int .i64 (n4 : Int))).setCell (p := ⟨w.heap.size, 3, none⟩) (.inr (Nat.le_refl _)) (.slice Ad D.length cd)).setCell (p := ⟨w.heap.size, 4, none⟩) (.inr (Nat.le_refl _)) (.slice Ab B.length cb))
                            refine bodyPost_ret (results_cell_row Try.results18 _ _ w.heap.size _ _ _ _ rfl (set5 HRz.out) Try.underlying32 rfl (by kernel_rfl)) rfl ?_
                            refine ReadEnd.ok (R := R) (by rw [HEE.out]; exact if_pos trivial) hFG ⟨Ad, Ab, cd, cb, by rw [HRR.out], ?_⟩
                            rw [HRR.out]
                            exact fun w2 hw2 => hRAf _ ((hFF.mono (fun i hi h => Nat.le_of_eq h)).trans (hw2.mono (fun i hi h => by have h1 : i ≤ gs := h; have := HL.out; show i ≤ w.heap.size; omega)))
                          · have HNE := Lib.hid h0
                            go_wp2_with fail
                            refine (must_no e HNE.out _).mono ?_
                            rintro r wy ⟨rfl, rfl⟩
                            exact ⟨rfl, ReadEnd.err (by rw [HEE.out, if_neg HNE.out]) (HFq.out.trans (HFz.out.mono (fun _ _ h => h.elim))) rfl⟩
                        · have tz : decide ((0 : Int) < (nz : Int)) = true := decide_eq_true (by omega)
                          have tz' : decide (0 < nz) = true := decide_eq_true hz
                          have HZZ := Lib.hid hz
                          go_wp2_with fail
                          refine (must_no 3 (by decide) _).mono ?_
                          rintro r w11 ⟨rfl, rfl⟩
                          exact ⟨rfl, ReadEnd.err (by rw [HE.out]; unfold endR; rw [if_neg (fun h => by have h1 := HNZ.out; rw [h] at h1; have := HZZ.out; rw [h1] at this; cases this)]) HFq.out rfl⟩
end Go.Proofs.Ytelfpnpplknlpaa
