/- Texts of Cod, merged (13 of 27): CodD, CodN. -/
import Derived.Test.YtelfpnpplknlpaaGCod11
import Derived.Test.YtelfpnpplknlpaaGCod12
import Derived.Test.YtelfpnpplknlpaaGCod1
set_option linter.unusedVariables false
set_option linter.unusedSimpArgs false
/- codec.Decode: any bytes are a record's, or what is wrong is told. -/
namespace Go.Proofs.Ytelfpnpplknlpaa
open Go.RowKit
open Go.Proofs.YtelfpnpplknlpaaW.PrintWords

noncomputable def decR (xs : List Int) : Except Int Rec := if (openR xs).2 = 0 then readR (openR xs).1 else .error (openR xs).2
/-- The walk's end, where nothing gives up. -/
def Calm (Q : Exit → Act → World → Prop) : Exit → Act → World → Prop
  | .normal, a, w => Q .normal a w
  | _, _, _ => False
theorem Calm.out {Q : Exit → Act → World → Prop} (e : Exit) (a : Act) (w : World) (h : Calm Q e a w) : Q e a w := by
  cases e <;> first | exact h | exact h.elim
theorem Calm.mk {Q : Exit → Act → World → Prop} {a : Act} {w : World} (h : Q .normal a w) : Calm Q .normal a w := h
abbrev zeroV : Value := .agg #[.int .i64 0, .int .i64 0, .int .i64 0, .slice none 0 0, .slice none 0 0]
/-- What the decoding ends in. -/
def DecEnd (w : World) (m : Except Int Rec) (r : Ending) (w' : World) : Prop := Fr (fun _ => False) w w' ∧ match m with
  | .error e => r = .returned (.tuple #[zeroV, .int .i64 e])
  | .ok R => ∃ Ad Ab cd cb, r = .returned (.tuple #[recV R Ad Ab cd cb, .int .i64 0]) ∧ RecAt w' R Ad Ab cd cb
theorem DecEnd.err {w w' : World} {m : Except Int Rec} {e : Int} {r : Ending} (hm : m = .error e) (hF : Fr (fun _ => False) w w') (hr : r = .returned (.tuple #[zeroV, .int .i64 e])) : DecEnd w m r w' := by subst hm; exact ⟨hF, hr⟩
theorem DecEnd.ok {w w' : World} {m : Except Int Rec} {R : Rec} {r : Ending} (hm : m = .ok R) (hF : Fr (fun _ => False) w w') (h : ∃ Ad Ab cd cb, r = .returned (.tuple #[recV R Ad Ab cd cb, .int .i64 0]) ∧ RecAt w' R Ad Ab cd cb) : DecEnd w m r w' := by subst hm; exact ⟨hF, h⟩
theorem errno_is (e : Int) (w : World) : (Instr.typeAssert (.iface 33 (.int .i64 e)) 20 33 true).run Try.prog w = .ok (.tuple #[.int .i64 e, .bool true]) w := by kernel_rfl
theorem errno_no (w : World) : (Instr.typeAssert .nilIface 20 33 true).run Try.prog w = .ok (.tuple #[.int .i64 0, .bool false]) w := by kernel_rfl
set_option maxRecDepth 100000 in
theorem catch_err (g q : Nat) (hne : g ≠ q) (a0 a1 a2 a3 a4 x : Value) (e : Int) (older : List PanicEntry) (w : World) (hB : Blk w g 32 #[a0, a1, a2, a3, a4]) (hE : Blk w q 33 #[x]) :
    CallsD Try.prog 17 #[.pointer (some ⟨g, 0, none⟩), .pointer (some ⟨q, 0, none⟩)] (.panicking ({ v := .iface 33 (.int .i64 e), recovered := false } :: older)) w fun r u' w' =>
      r = .returned (.tuple #[]) ∧ u' = .panicking ({ v := .iface 33 (.int .i64 e), recovered := true } :: older) ∧
      w' = (((((w.setCell ⟨g, 0, none⟩ (.int .i64 0)).setCell ⟨g, 1, none⟩ (.int .i64 0)).setCell ⟨g, 2, none⟩ (.int .i64 0)).setCell ⟨g, 3, none⟩ (.slice none 0 0)).setCell ⟨g, 4, none⟩ (.slice none 0 0)).setCell ⟨q, 0, none⟩ (.int .i64 e) := by
  have z0 := hB.cell 0
  have z1 := hB.cell 1
  have z2 := hB.cell 2
  have z3 := hB.cell 3
  have z4 := hB.cell 4
  have zf := hB.frozen
  have q0 := hE.cell 0
  have qf := hE.frozen
  have s1 := ((((((hE.far (p := ⟨g, 0, none⟩) (fun h => hne h.symm) (.int .i64 0)).far (p := ⟨g, 1, none⟩) (fun h => hne h.symm) (.int .i64 0)).far (p := ⟨g, 2, none⟩) (fun h => hne h.symm) (.int .i64 0)).far (p := ⟨g, 3, none⟩) (fun h => hne h.symm) (.slice none 0 0)).far (p := ⟨g, 4, none⟩) (fun h => hne h.symm) (.slice none 0 0))).cell 0
  simp only [List.getElem?_toArray, List.getElem?_cons_zero, List.getElem?_cons_succ] at z0 z1 z2 z3 z4 q0 s1
  refine callsD_of_wpS Try.func17 rfl fun c₀ cs hu => ?_
  apply wpS_seq
  apply wpS_region
  have hr : Array.replicate 12 undef = #[undef, undef, undef, undef, undef, undef, undef, undef, undef, undef, undef, undef] := rfl
  have ha := errno_is e
  simp [wpOpsS, go_sem, recoverD, hu, Try.ntmps17, Exit.thenS, hr, ha]
  apply wpS_seq
  apply wpS_region
  simp [wpOpsS, go_sem, Exit.thenS]
  refine wpS_cond (t := true) (by simp [Act.eval]) ?_
  simp only [if_true]
  apply wpS_region
  simp [wpOpsS, go_sem, z0, z1, z2, z3, z4, zf, q0, qf, s1, bodyPostS, results, Try.results17]
set_option maxRecDepth 100000 in
theorem catch_nil (p q : Addr) (w : World) :
    CallsD Try.prog 17 #[.pointer (some p), .pointer (some q)] .returning w fun e u' w' =>
      e = .returned (.tuple #[]) ∧ u' = .returning ∧ w' = w := by
  refine callsD_of_wpS Try.func17 rfl fun c₀ cs hu => ?_
  apply wpS_seq
  apply wpS_region
  have hr : Array.replicate 12 undef = #[undef, undef, undef, undef, undef, undef, undef, undef, undef, undef, undef, undef] := rfl
  have ha := errno_no
  simp [wpOpsS, go_sem, recoverD, hu, Try.ntmps17, Exit.thenS, hr, ha]
  apply wpS_seq
  apply wpS_region
  simp [wpOpsS, go_sem, Exit.thenS]
  refine wpS_cond (t := false) (by simp [Act.eval]) ?_
  simp only [Bool.false_eq_true, if_false]
  refine wpS_of_wp (wp_skip ?_)
  cases c₀
  simp_all [bodyPostS, results, Try.results17]
theorem set5_Fr {S : Nat → Prop} {a w : World} {g : Nat} (h : Fr S a w) (hg : S g ∨ a.heap.size ≤ g) (v0 v1 v2 v3 v4 : Value) :
    Fr S a (((((w.setCell ⟨g, 0, none⟩ v0).setCell ⟨g, 1, none⟩ v1).setCell ⟨g, 2, none⟩ v2).setCell ⟨g, 3, none⟩ v3).setCell ⟨g, 4, none⟩ v4) :=
  ((((h.setCell (p := ⟨g, 0, none⟩) hg v0).setCell (p := ⟨g, 1, none⟩) hg v1).setCell (p := ⟨g, 2, none⟩) hg v2).setCell (p := ⟨g, 3, none⟩) hg v3).setCell (p := ⟨g, 4, none⟩) hg v4
theorem far5 {w : World} {g q : Nat} {t : TypeId} {cs : Array Value} (h : Blk w q t cs) (hne : q ≠ g) (v0 v1 v2 v3 v4 : Value) :
    Blk (((((w.setCell ⟨g, 0, none⟩ v0).setCell ⟨g, 1, none⟩ v1).setCell ⟨g, 2, none⟩ v2).setCell ⟨g, 3, none⟩ v3).setCell ⟨g, 4, none⟩ v4) q t cs :=
  ((((h.far (p := ⟨g, 0, none⟩) hne v0).far (p := ⟨g, 1, none⟩) hne v1).far (p := ⟨g, 2, none⟩) hne v2).far (p := ⟨g, 3, none⟩) hne v3).far (p := ⟨g, 4, none⟩) hne v4
/-- digest.Open, as one. -/
theorem dig_open_all (A : Option Addr) (xs : List Int) (c : Nat) (w : World) (hc : xs.length ≤ c) (hr : RdB w A xs) (hx : Byt xs) (hl : xs.length ≤ 140737488355328) :
    Calls Try.prog 16 #[.slice A xs.length c] w fun r w' => ∃ v, r = .returned (.tuple #[v, .int .i64 (openR xs).2]) ∧ Fr (fun _ => False) w w' ∧ ((openR xs).2 = 0 → OwB w' w.heap.size v (openR xs).1) := by
  unfold openR
  by_cases h8 : xs.length < 8
  · rw [if_pos h8]
    exact (dig_open_short A xs.length c w h8).mono fun r w' ⟨h1, h2⟩ => ⟨_, h1, h2, fun h => by cases h⟩
  · rw [if_neg h8]
    by_cases hd : dOf (xs.take (xs.length - 8)) = beVal (xs.drop (xs.length - 8))
    · rw [if_pos hd]
      exact (dig_open_ok A xs c (xs.length - 8) w (by omega) hc hr hx hl hd).mono fun r w' ⟨v, h1, h2, h3⟩ => ⟨v, h1, h3, fun _ => h2⟩
    · rw [if_neg hd]
      exact (dig_open_sum A xs c (xs.length - 8) w (by omega) hc hr hx hl hd).mono fun r w' ⟨h1, h2⟩ => ⟨_, h1, h2, fun h => by cases h⟩
theorem openR_byt {xs : List Int} (hx : Byt xs) : Byt (openR xs).1 ∧ (openR xs).1.length ≤ xs.length := by
  unfold openR
  split
  · exact ⟨fun x h => (by cases h), Nat.zero_le _⟩
  · split
    · exact ⟨fun x h => hx x (List.mem_of_mem_take h), by rw [List.length_take]; omega⟩
    · exact ⟨fun x h => (by cases h), Nat.zero_le _⟩
set_option maxRecDepth 100000 in
set_option maxHeartbeats 1000000 in
theorem cod_decode (A : Option Addr) (xs : List Int) (c : Nat) (w : World) (hc : xs.length ≤ c) (hr : RdB w A xs) (hx : Byt xs) (hl : xs.length ≤ 140737488355328) :
    Calls Try.prog 9 #[.slice A xs.length c] w (DecEnd w (decR xs)) := by
  have hmf : ∀ (fn : Fn) (first cap : Array Value) (w : World), (Instr.makeFunc fn first cap).run Try.prog w = .ok (.func fn first cap) w := fun _ _ _ _ => rfl
  have hdec : decR xs = if (openR xs).2 = 0 then readR (openR xs).1 else .error (openR xs).2 := rfl
  have HY := Lib.hid (openR_byt hx)
  have HDC := Lib.hid hdec
  clear hdec
  have HLL := Lib.hid hl
  have b0 : Blk (w.alloc (.cells #[.int .i64 0, .int .i64 0, .int .i64 0, .slice none 0 0, .slice none 0 0] 32)) w.heap.size 32 #[.int .i64 0, .int .i64 0, .int .i64 0, .slice none 0 0, .slice none 0 0] := Blk.new _ _ _
  have b1 : Blk ((w.alloc (.cells #[.int .i64 0, .int .i64 0, .int .i64 0, .slice none 0 0, .slice none 0 0] 32)).alloc (.cells #[.int .i64 0] 33)) (w.heap.size + 1) 33 #[.int .i64 0] := by
    have := Blk.new (w.alloc (.cells #[.int .i64 0, .int .i64 0, .int .i64 0, .slice none 0 0, .slice none 0 0] 32)) 33 #[.int .i64 0]
    simpa using this
  replace b0 := b0.alloc (.cells #[.int .i64 0] 33)
  have F0 : Fr (fun _ => False) w ((w.alloc (.cells #[.int .i64 0, .int .i64 0, .int .i64 0, .slice none 0 0, .slice none 0 0] 32)).alloc (.cells #[.int .i64 0] 33)) := ((Fr.refl _ _).alloc _).alloc _
  have HO := Lib.hid (dig_open_all A xs c _ hc (hr.fr F0 (fun _ _ h => h)) hx hl)
  obtain ⟨ys, hys⟩ : ∃ ys, ys = (openR xs).1 := ⟨_, rfl⟩
  obtain ⟨e, he⟩ : ∃ e, e = (openR xs).2 := ⟨_, rfl⟩
  rw [← hys, ← he] at HDC HO
  rw [← hys] at HY
  clear hys he hr
  go_enter_defers Try.func9, Try.ntmps9
  go_wp2_with fail
  generalize (w.alloc (.cells #[.int .i64 0, .int .i64 0, .int .i64 0, .slice none 0 0, .slice none 0 0] 32)).alloc (.cells #[.int .i64 0] 33) = wa at *
  refine HO.out.mono ?_
  rintro r w1 ⟨v, rfl, hF1, hO1⟩
  have HF1 := Lib.hid (F0.trans hF1)
  have HB0 := Lib.hid (b0.fr hF1 (fun h => h))
  have HB1 := Lib.hid (b1.fr hF1 (fun h => h))
  have HSZ := Lib.hid (show w.heap.size + 1 < wa.heap.size ∧ wa.heap.size ≤ w1.heap.size from ⟨b1.lt, hF1.size⟩)
  have HO1 := Lib.hid hO1
  have q0 := HB1.out.cell 0
  have qf := HB1.out.frozen
  have q1 := (HB1.out.set_ 0 (.int .i64 e)).cell 0
  have qf1 := (HB1.out.set_ 0 (.int .i64 e)).frozen
  simp only [List.setIfInBounds_toArray, List.set_cons_zero, List.getElem?_toArray, List.getElem?_cons_zero, List.getElem?_cons_succ] at q0 q1
  clear hF1 hO1 F0 b0 b1 HO
  by_cases h0 : e = 0
  · subst h0
    have HD2 := Lib.hid (show decR xs = readR ys from by rw [HDC.out]; rfl)
    obtain ⟨A1, c1, rfl, hr1⟩ := (HO1.out rfl).reads
    have HO2 := Lib.hid (HO1.out rfl)
    have HS2 := Lib.hid (show SrcAt ((w1.setCell ⟨w.heap.size + 1, 0, none⟩ (.int .i64 0)).alloc (.cells #[.slice A1 ys.length c1] 50)) w1.heap.size A1 ys c1 from by
      have hbn := Blk.new (w1.setCell ⟨w.heap.size + 1, 0, none⟩ (.int .i64 0)) 50 #[.slice A1 ys.length c1]
      rw [show (w1.setCell ⟨w.heap.size + 1, 0, none⟩ (.int .i64 0)).heap.size = w1.heap.size from by simp [World.setCell]] at hbn
      refine ⟨hbn, HO2.out.cap, fun w' hF => ?_, HY.out.1, Nat.le_trans HY.out.2 HLL.out⟩
      have hF2 := (((Fr.refl (fun k => k = w.heap.size + 1 ∨ w1.heap.size ≤ k) w1).setCell (p := ⟨w.heap.size + 1, 0, none⟩) (.inl (.inl rfl)) (.int .i64 0)).alloc (.cells #[.slice A1 ys.length c1] 50)).trans (hF.mono (fun _ _ h => .inr h))
      obtain ⟨A2, c2, h1, h2⟩ := (HO2.out.fr hF2 (fun k h1 h2 h3 => by have := HSZ.out; rcases h3 with h3 | h3 <;> omega)).reads
      injection h1 with h1 _ _
      rw [h1]; exact h2)
    have HFS := Lib.hid ((HF1.out.setCell (p := ⟨w.heap.size + 1, 0, none⟩) (.inr (Nat.le_succ _)) (.int .i64 0)).alloc (.cells #[.slice A1 ys.length c1] 50))
    have HBS := Lib.hid ((HB0.out.far (p := ⟨w.heap.size + 1, 0, none⟩) (by simp) (.int .i64 0)).alloc (.cells #[.slice A1 ys.length c1] 50))
    have HES := Lib.hid ((HB1.out.set_ 0 (.int .i64 0)).alloc (.cells #[.slice A1 ys.length c1] 50))
    clear HDC HO1 hr1 HB0 HB1 HF1
    go_wp2_with fail
    clear q0 q1 qf qf1
    generalize World.alloc _ _ = w2 at HS2 HFS HBS HES ⊢
    refine (src_read w1.heap.size A1 ys c1 _ HS2.out).mono ?_
    rintro r w3 ⟨hF3, hm⟩
    have HF3 := Lib.hid (HFS.out.trans' hF3 (fun i hi h => by have := HSZ.out; omega))
    have HB3 := Lib.hid (HBS.out.fr hF3 (fun h => by have := HSZ.out; omega))
    have HE3 := Lib.hid (HES.out.fr hF3 (fun h => by have := HSZ.out; omega))
    clear hF3
    rcases hn : readR ys with e | R
    · rw [hn] at hm
      subst hm
      have HN := Lib.hid hn
      clear hn
      refine leaves_cons (f := 17) (args := #[.pointer (some ⟨w.heap.size, 0, none⟩), .pointer (some ⟨w.heap.size + 1, 0, none⟩)]) (by simp) (by simp [go_sem]) ?_
      refine (catch_err w.heap.size (w.heap.size + 1) (by omega) _ _ _ _ _ _ e [] w3 HB3.out HE3.out).mono ?_
      rintro r u' w4 ⟨rfl, rfl, rfl⟩
      have HE4 := (((((HE3.out.far (p := ⟨w.heap.size, 0, none⟩) (by simp) (.int .i64 0)).far (p := ⟨w.heap.size, 1, none⟩) (by simp) (.int .i64 0)).far (p := ⟨w.heap.size, 2, none⟩) (by simp) (.int .i64 0)).far (p := ⟨w.heap.size, 3, none⟩) (by simp) (.slice none 0 0)).far (p := ⟨w.heap.size, 4, none⟩) (by simp) (.slice none 0 0)).set_ 0 (.int .i64 e)
      have HB4 := (set5 HB3.out (v0 := .int .i64 0) (v1 := .int .i64 0) (v2 := .int .i64 0) (v3 := .slice none 0 0) (v4 := .slice none 0 0)).far (p := ⟨w.heap.size + 1, 0, none⟩) (by simp) (.int .i64 e)
      have HF4 := (set5_Fr HF3.out (.inr (Nat.le_refl w.heap.size)) (.int .i64 0) (.int .i64 0) (.int .i64 0) (.slice none 0 0) (.slice none 0 0)).setCell (p := ⟨w.heap.size + 1, 0, none⟩) (.inr (Nat.le_succ _)) (.int .i64 e)
      generalize World.setCell _ _ _ = wz at HE4 HB4 HF4 ⊢
      have c0 := HB4.cell 0
      have c1 := HB4.cell 1
      have c2 := HB4.cell 2
      have c3 := HB4.cell 3
      have c4 := HB4.cell 4
      have c5 := HE4.cell 0
      simp only [List.setIfInBounds_toArray, List.set_cons_zero, List.getElem?_toArray, List.getElem?_cons_zero, List.getElem?_cons_succ] at c0 c1 c2 c3 c4 c5
      simp [Leaves, settle, results, Try.results9, go_sem, c0, c1, c2, c3, c4, c5]
      exact DecEnd.err (HD2.out.trans HN.out) HF4 rfl
    · rw [hn] at hm
      obtain ⟨Ad, Ab, cd, cb, rfl, hR3⟩ := hm
      have HN := Lib.hid hn
      have HR3 := Lib.hid hR3
      have z0 := HB3.out.cell 0
      have z1 := HB3.out.cell 1
      have z2 := HB3.out.cell 2
      have z3 := HB3.out.cell 3
      have z4 := HB3.out.cell 4
      have zf := HB3.out.frozen
      obtain ⟨⟨i1, i2⟩, qq, D, B⟩ := R
      have HE4 := ((((HE3.out.far (p := ⟨w.heap.size, 0, none⟩) (by simp) (.int .i64 i1)).far (p := ⟨w.heap.size, 1, none⟩) (by simp) (.int .i64 i2)).far (p := ⟨w.heap.size, 2, none⟩) (by simp) (.int .i64 qq)).far (p := ⟨w.heap.size, 3, none⟩) (by simp) (.slice Ad D.length cd)).far (p := ⟨w.heap.size, 4, none⟩) (by simp) (.slice Ab B.length cb)
      have q0 := HE4.cell 0
      have qf := HE4.frozen
      simp only [List.getElem?_toArray, List.getElem?_cons_zero, List.getElem?_cons_succ] at z0 z1 z2 z3 z4 q0
      have HE5 := Lib.hid (HE4.set_ 0 (.int .i64 0))
      have HB5 := Lib.hid ((set5 HB3.out (v0 := .int .i64 i1) (v1 := .int .i64 i2) (v2 := .int .i64 qq) (v3 := .slice Ad D.length cd) (v4 := .slice Ab B.length cb)).far (p := ⟨w.heap.size + 1, 0, none⟩) (by simp) (.int .i64 0))
      have HF5 := Lib.hid ((set5_Fr HF3.out (.inr (Nat.le_refl w.heap.size)) (.int .i64 i1) (.int .i64 i2) (.int .i64 qq) (.slice Ad D.length cd) (.slice Ab B.length cb)).setCell (p := ⟨w.heap.size + 1, 0, none⟩) (.inr (Nat.le_succ _)) (.int .i64 0))
      have HG5 := Lib.hid ((set5_Fr (Fr.refl (fun b => b ≤ w1.heap.size) w3) (.inl (by have := HSZ.out; show w.heap.size ≤ w1.heap.size; omega)) (.int .i64 i1) (.int .i64 i2) (.int .i64 qq) (.slice Ad D.length cd) (.slice Ab B.length cb)).setCell (p := ⟨w.heap.size + 1, 0, none⟩) (.inl (by have := HSZ.out; show w.heap.size + 1 ≤ w1.heap.size; omega)) (.int .i64 0))
      clear hn hR3 HE4
      go_wp2_with fail
      clear q0 qf z0 z1 z2 z3 z4 zf
      generalize World.setCell _ _ _ = wz at HE5 HB5 HF5 HG5 ⊢
      refine leaves_cons (f := 17) (args := #[.pointer (some ⟨w.heap.size, 0, none⟩), .pointer (some ⟨w.heap.size + 1, 0, none⟩)]) (by simp) (by simp [go_sem]) ?_
      refine (catch_nil _ _ wz).mono ?_
      rintro r u' w4 ⟨rfl, rfl, rfl⟩
      have c0 := HB5.out.cell 0
      have c1 := HB5.out.cell 1
      have c2 := HB5.out.cell 2
      have c3 := HB5.out.cell 3
      have c4 := HB5.out.cell 4
      have c5 := HE5.out.cell 0
      simp only [List.setIfInBounds_toArray, List.set_cons_zero, List.getElem?_toArray, List.getElem?_cons_zero, List.getElem?_cons_succ] at c0 c1 c2 c3 c4 c5
      simp [Leaves, settle, results, Try.results9, go_sem, c0, c1, c2, c3, c4, c5]
      exact DecEnd.ok (HD2.out.trans HN.out) HF5.out ⟨Ad, Ab, cd, cb, rfl, HR3.out _ HG5.out⟩
  · have te : (e != 0) = true := by simpa using h0
    have HD2 := Lib.hid (show decR xs = .error e from by rw [HDC.out, if_neg h0])
    have HE2 := Lib.hid (HB1.out.set_ 0 (.int .i64 e)).drew
    have HB2 := Lib.hid (HB0.out.far (p := ⟨w.heap.size + 1, 0, none⟩) (by simp) (.int .i64 e)).drew
    have HF2 := Lib.hid (HF1.out.setCell (p := ⟨w.heap.size + 1, 0, none⟩) (.inr (Nat.le_succ _)) (.int .i64 e)).drew
    obtain ⟨St, hSt⟩ : ∃ St : World → Prop, St = fun x => x.cell? ⟨w.heap.size + 1, 0, none⟩ = some (.int .i64 e) := ⟨_, rfl⟩
    have y1 : ∀ x, At St x → x.cell? ⟨w.heap.size + 1, 0, none⟩ = some (.int .i64 e) := fun x h => by have h1 := h.out; rw [hSt] at h1; exact h1
    have HMK := Lib.hid (show ∀ x, x.cell? ⟨w.heap.size + 1, 0, none⟩ = some (.int .i64 e) → At St x from fun x h => by unfold At; rw [hSt]; exact h)
    clear hSt h0
    go_wp2_with fail
    refine Code.wp_mono Calm.out ?_
    refine rt_start [3] (At St) 4 (by kernel_rfl) rfl ?_
    generalize (w1.setCell _ _).drew = wd at HE2 HB2 HF2 ⊢
    have hT0 := HMK.out wd (HE2.out.cell 0)
    have z0 := HB2.out.cell 0
    have z1 := HB2.out.cell 1
    have z2 := HB2.out.cell 2
    have z3 := HB2.out.cell 3
    have z4 := HB2.out.cell 4
    have zf := HB2.out.frozen
    have HE3 := far5 HE2.out (g := w.heap.size) (by omega) (.int .i64 0) (.int .i64 0) (.int .i64 0) (.slice none 0 0) (.slice none 0 0)
    have q3 := HE3.cell 0
    have qf3 := HE3.frozen
    simp only [List.setIfInBounds_toArray, List.set_cons_zero, List.getElem?_toArray, List.getElem?_cons_zero, List.getElem?_cons_succ] at z0 z1 z2 z3 z4 q3
    have HE4 := Lib.hid (HE3.set_ 0 (.int .i64 e))
    have HB4 := Lib.hid ((set5 HB2.out (v0 := .int .i64 0) (v1 := .int .i64 0) (v2 := .int .i64 0) (v3 := .slice none 0 0) (v4 := .slice none 0 0)).far (p := ⟨w.heap.size + 1, 0, none⟩) (by simp) (.int .i64 e))
    have HF4 := Lib.hid ((set5_Fr HF2.out (.inr (Nat.le_refl w.heap.size)) (.int .i64 0) (.int .i64 0) (.int .i64 0) (.slice none 0 0) (.slice none 0 0)).setCell (p := ⟨w.heap.size + 1, 0, none⟩) (.inr (Nat.le_succ _)) (.int .i64 e))
    clear HE3
    refine rt_free 0 (v := ?_) rfl (by kernel_rfl) (by kernel_rfl) (by kernel_rfl) (by kernel_rfl) (fun _ _ _ h => h) (by rfl) (fun _ => by first | assumption | exact HS0 _ rfl | exact HT.out _ (by repeat (first | exact Fr.refl _ _ | apply Fr.drew | refine Fr.alloc ?_ _))) ?_ ?_
    rotate_left 1
    · intro w; go_simp <;> with_reducible rfl
    try simp only [Act.put, List.setIfInBounds_toArray, List.set_cons_zero, List.set_cons_succ]
    refine rt_take 1 (v := ?_) rfl (by kernel_rfl) (by kernel_rfl) (by kernel_rfl) (by kernel_rfl) (fun _ _ _ h => h) (by rfl) (by first | assumption | exact HS0 _ rfl | exact HT.out _ (by repeat (first | exact Fr.refl _ _ | apply Fr.drew | refine Fr.alloc ?_ _))) ?_ ?_
    rotate_left 1
    · intro w hSw; go_simp <;> with_reducible rfl
    try simp only [Act.put, List.setIfInBounds_toArray, List.set_cons_zero, List.set_cons_succ]
    refine rt_one 2 rfl (by kernel_rfl) (fun K hK => ?_)
    go_simp
    have hT1 := HMK.out _ q3
    clear hT0
    refine hK.out (At St) _ _ (fun _ h => h) (fun _ => by (assumption)) ?_
    clear hK K
    try simp only [Act.put, List.setIfInBounds_toArray, List.set_cons_zero, List.set_cons_succ]
    refine rt_one 3 rfl (by kernel_rfl) (fun K hK => ?_)
    go_simp
    refine hK.out (At St) _ _ (fun _ h => h) (late_abs (by kernel_rfl)) ?_
    clear hK K
    try simp only [Act.put, List.setIfInBounds_toArray, List.set_cons_zero, List.set_cons_succ]
    refine rt_done (by kernel_rfl) ?_
    refine Calm.mk ?_
    go_wp2_with fail
    generalize World.setCell _ _ _ = wz at HE4 HB4 HF4 ⊢
    have c0 := HB4.out.cell 0
    have c1 := HB4.out.cell 1
    have c2 := HB4.out.cell 2
    have c3 := HB4.out.cell 3
    have c4 := HB4.out.cell 4
    have c5 := HE4.out.cell 0
    simp only [List.setIfInBounds_toArray, List.set_cons_zero, List.getElem?_toArray, List.getElem?_cons_zero, List.getElem?_cons_succ] at c0 c1 c2 c3 c4 c5
    simp [bodyPostD, Leaves, settle, results, Try.results9, go_sem, c0, c1, c2, c3, c4, c5]
    exact DecEnd.err HD2.out HF4.out rfl
end Go.Proofs.Ytelfpnpplknlpaa
/- codec.Encode's closure: numbers are put behind the bytes of a box. -/
namespace Go.Proofs.Ytelfpnpplknlpaa
open Go.RowKit
open Go.Proofs.YtelfpnpplknlpaaW.PrintWords

/-- At gb lies a box with a slice of one's own, of these bytes. -/
def BoxB (w : World) (gb : Nat) (xs : List Int) : Prop := ∃ A c, Blk w gb 22 #[.slice A xs.length c] ∧ OwB w (gb + 1) (.slice A xs.length c) xs
theorem BoxB.fr {w w' : World} {gb : Nat} {xs : List Int} {S : Nat → Prop} (h : BoxB w gb xs) (hF : Fr S w w') (hS : ∀ k, gb ≤ k → k < w.heap.size → ¬ S k) : BoxB w' gb xs := by
  obtain ⟨A, c, h1, h2⟩ := h
  exact ⟨A, c, h1.fr hF (hS gb (Nat.le_refl _) h1.lt), h2.fr hF (fun k hk hl => hS k (by omega) hl)⟩
/-- A call has made new bytes; they are stored. -/
theorem BoxB.put {w w' : World} {gb : Nat} {xs : List Int} {A : Option Addr} {c : Nat} {v0 : Value} (hB : Blk w gb 22 #[v0]) (hF : Fr (fun _ => False) w w') (ho : OwB w' w.heap.size (.slice A xs.length c) xs) : BoxB (w'.setCell ⟨gb, 0, none⟩ (.slice A xs.length c)) gb xs := by
  refine ⟨A, c, (hB.fr hF (fun h => h)).set_ 0 _, OwB.fr (S := fun k => k = gb) (ho.lower hB.lt) ((Fr.refl (fun k => k = gb) w').setCell (p := ⟨gb, 0, none⟩) (.inl rfl) _) (fun k hk _ h => by have h1 : k = gb := h; omega)⟩
def nx (L : List Nat) (i : Nat) : Nat := L.getD i 0
theorem nx_eq {L : List Nat} {i : Nat} (h : i < L.length) : nx L i = L[i] := by unfold nx; rw [List.getD_eq_getElem?_getD, List.getElem?_eq_getElem h]; rfl
theorem nums_cell {w : World} {g : Nat} {L : List Nat} (h : Blk w g 3 (L.map fun n : Nat => Value.int .i64 (n : Int)).toArray) {i : Nat} (hi : i < L.length) : w.cell? ⟨g, i, none⟩ = some (.int .i64 (nx L i : Nat)) := by
  rw [h.cell i, nx_eq hi]
  simp [hi]
theorem flat_take {L : List Nat} {k : Nat} (h : k < L.length) : (L.take (k + 1)).flatMap digs = (L.take k).flatMap digs ++ digs (nx L k) := by
  rw [← List.take_append_getElem h, List.flatMap_append, List.flatMap_singleton, nx_eq h]
theorem flat_len {L : List Nat} (hL : ∀ n ∈ L, n ≤ 9223372036854775807) : (L.flatMap digs).length ≤ 10 * L.length := by
  induction L with
  | nil => simp
  | cons a l ih =>
    rw [List.flatMap_cons, List.length_append, List.length_cons]
    have h1 := digs_len10 (m := a) (by have := hL a List.mem_cons_self; omega)
    have h2 := ih (fun n hn => hL n (List.mem_cons_of_mem _ hn))
    omega
set_option maxRecDepth 100000 in
set_option maxHeartbeats 1000000 in
theorem cod_num (gb g : Nat) (xs : List Int) (L : List Nat) (w : World) (hB : Blk w g 3 (L.map fun n : Nat => Value.int .i64 (n : Int)).toArray) (h : BoxB w gb xs)
    (hL : ∀ n ∈ L, n ≤ 9223372036854775807) (hb : xs.length + 10 * L.length ≤ 1000000) :
    Calls Try.prog 24 #[.slice (some ⟨g, 0, none⟩) L.length L.length, .pointer (some ⟨gb, 0, none⟩)] w fun r w' => r = .returned (.tuple #[]) ∧ BoxB w' gb (xs ++ L.flatMap digs) ∧ Fr (fun k => k = gb) w w' := by
  have hne : g ≠ gb := by
    obtain ⟨A, c, h1, _⟩ := h
    exact hB.ne_ h1 (by decide)
  have HB := Lib.hid hB
  have H := Lib.hid h
  have HL := Lib.hid hL
  have HH := Lib.hid hb
  have HN := Lib.hid hne
  obtain ⟨n, hn⟩ : ∃ n, n = L.length := ⟨_, rfl⟩
  rw [← hn]
  have HNL := Lib.hid hn
  have hnb : (n : Int) ≤ 1000000 := by omega
  clear hB h hL hb hne hn
  go_enter Try.func24, Try.ntmps24
  go_wp2_with fail
  go_loopw [7] (fun i wr => ∃ k : Nat, k ≤ n ∧ i = .int .i64 k ∧ BoxB wr gb (xs ++ (L.take k).flatMap digs) ∧ Fr (fun k => k = gb) w wr) (fun i _ => n - (intOf i).toNat)
  case atStart => exact ⟨0, Nat.zero_le _, rfl, by simpa using H.out, Fr.refl _ _⟩
  case round =>
    obtain ⟨k, hk, rfl, hX, hF⟩ := hrel
    have HF := Lib.hid hF
    have HX := Lib.hid hX
    clear hF hX
    rcases Nat.lt_or_ge k n with hlt | hge
    · obtain ⟨A, c, hb1, ho⟩ := HX.out
      obtain ⟨ys, hys⟩ : ∃ ys, ys = xs ++ (L.take k).flatMap digs := ⟨_, rfl⟩
      rw [← hys] at hb1 ho
      have HB1 := Lib.hid hb1
      have HO := Lib.hid ho
      have c0 := hb1.cell 0
      have c1 := nums_cell (HB.out.fr HF.out HN.out) (i := k) (by rw [← HNL.out]; exact hlt)
      have cf := hb1.frozen
      simp only [List.getElem?_toArray, List.getElem?_cons_zero] at c0
      have hq : nx L k ≤ 9223372036854775807 := by rw [nx_eq (by rw [← HNL.out]; exact hlt)]; exact HL.out _ (List.getElem_mem _)
      have HYS := Lib.hid (show ys ++ digs (nx L k) = xs ++ (L.take (k + 1)).flatMap digs from by rw [hys, flat_take (by rw [← HNL.out]; exact hlt), List.append_assoc])
      have hyl : ys.length ≤ 140737488355300 := by
        have h1 := flat_len (L := L.take k) (fun m hm => HL.out m (List.mem_of_mem_take hm))
        have h2 : (L.take k).length ≤ L.length := by rw [List.length_take]; omega
        have := HH.out
        rw [hys, List.length_append]
        omega
      have HYL := Lib.hid hyl
      obtain ⟨q, hqq⟩ : ∃ q, q = nx L k := ⟨_, rfl⟩
      rw [← hqq] at c1 hq HYS
      have hw := u64_of_nat (n := q) (by omega)
      have HQ := Lib.hid hq
      have hgb := hb1.lt
      have HGB := Lib.hid hgb
      clear hb1 ho hys hyl hqq hq hgb
      go_wp2_with fail
      refine (wire_put A ys c q _ HO.out.cap (by obtain ⟨A2, c2, e, hr⟩ := HO.out.reads; injection e with e _ _; rw [e]; exact hr) HYL.out (by have := HQ.out; omega)).mono ?_
      rintro r w1 ⟨v, rfl, ho, hF1⟩
      obtain ⟨zs, hzs⟩ : ∃ zs, zs = ys ++ digs q := ⟨_, rfl⟩
      rw [← hzs] at ho
      rw [← hzs] at HYS
      obtain ⟨A2, c2, rfl, _⟩ := ho.reads
      have hp := BoxB.put HB1.out hF1 ho
      have HP := Lib.hid hp
      have hb2 := HB1.out.fr hF1 (fun h => h)
      have d0 := hb2.cell 0
      have df := hb2.frozen
      simp only [List.getElem?_toArray, List.getElem?_cons_zero] at d0
      have HF2 := Lib.hid (((HF.out.trans (hF1.mono (fun _ _ h => h.elim))).setCell (p := ⟨gb, 0, none⟩) (.inl rfl) (.slice A2 zs.length c2)))
      clear hp hzs hF1 ho hb2
      go_wp2_with fail
      go_roundw
      case rel => exact ⟨k + 1, by omega, by go_num, by rw [← HYS.out]; exact HP.out, HF2.out⟩
      case measure => simp [intOf]; omega
    · obtain rfl : n = k := by omega
      have HXX := Lib.hid (show BoxB wr gb (xs ++ L.flatMap digs) from by have := HX.out; rwa [HNL.out, List.take_length] at this)
      clear hge hk
      go_wp2_with fail
      go_end0
      exact ⟨rfl, HXX.out, HF.out⟩
end Go.Proofs.Ytelfpnpplknlpaa
